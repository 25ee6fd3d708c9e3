/- The graph of the chapter's example: plain words. -/
import Derived.Test.YthmdmbpecgakkaaDoorVW5
namespace Go.Proofs.YthmdmbpecgakkaaDoor
open Go.RowKit
set_option maxRecDepth 100000

def ptE (x y z : Int) (hx : IR x := by decide) (hy : IR y := by decide) (hz : IR z := by decide) : PT := ⟨x, y, z, hx, hy, hz⟩
def trE : TR := ⟨ptE 1 0 0, ptE 0 1 0, ptE 0 0 1⟩
def swE (r : Nat) : SW := ⟨some ⟨r, 0, none⟩, 1, 1⟩
def zE (n : Int) (h : IR n := by decide) : ZV := ⟨n, h⟩
def gCL (r s : Nat) : List CU := [⟨swE r, -1, 0, [trE], by decide, by decide⟩, ⟨swE s, 0, -1, [trE], by decide, by decide⟩]
def gGL (p q : Nat) : List GU := [⟨0, swE p, swE q, ⟨none, 0, 0⟩, 15, 15, false, ⟨#[]⟩, [zE 0], [zE 1], by decide, by decide, by decide⟩]
theorem zN0 : zN 0 = zE 0 := zN_eq (by decide)
theorem g_snd (r s p q : Nat) : SndP (gCL r s) (gGL p q) := by
  refine ⟨rfl, ⟨?_, ?_, ?_⟩, fun i hi => ?_⟩
  · show NdK [(zE 0, zN 0)]
    simp [NdK]
  · intro e he c hc
    have he : e ∈ [(zE 0, zN 0)] := he
    rw [List.mem_singleton] at he
    subst he
    rw [zN0]
    have hc : (gCL r s)[0]? = some c := hc
    cases hc
    show (-1 : Int) < 0
    decide
  · show NdK [(zE 1, zN 0)]
    simp [NdK]
  · have e0 : entsG GU.il 0 (gGL p q) = [(zE 0, zE 0)] := by rw [← zN0]; rfl
    have e1 : entsG GU.ol 0 (gGL p q) = [(zE 1, zE 0)] := by rw [← zN0]; rfl
    rw [e0, e1]
    rcases i with _ | _ | i
    · exact ⟨.inl ⟨(by decide : (0 : Int) ≤ 0), _, List.mem_singleton.2 rfl, rfl, rfl⟩, .inr ⟨(by decide : (-1 : Int) < 0), fun e he => by rw [List.mem_singleton] at he; subst he; decide⟩⟩
    · exact ⟨.inr ⟨(by decide : (-1 : Int) < 0), fun e he => by rw [List.mem_singleton] at he; subst he; decide⟩, .inl ⟨(by decide : (0 : Int) ≤ 0), _, List.mem_singleton.2 rfl, rfl, rfl⟩⟩
    · exact absurd hi (by simp [gCL])
theorem g_vld (r s p q : Nat) (b : Bool) : VldP (gCL r s) (gGL p q) [b] := by
  refine ⟨g_snd r s p q, rfl, fun k hk _ z hz c hc h0 => ?_⟩
  obtain rfl : k = 0 := by have : (gGL p q).length = 1 := rfl; omega
  have hz : z ∈ [zE 0] := hz
  rw [List.mem_singleton] at hz
  subst hz
  have hc : (gCL r s)[0]? = some c := hc
  cases hc
  exact absurd (show (0 : Int) ≤ -1 from h0) (by decide)
def vwE (x y z f p : Int) (hx : IR x := by decide) (hy : IR y := by decide) (hz : IR z := by decide) (hf : IR f := by decide) (hp : IR p := by decide) : VW := ⟨⟨x, y, z, hx, hy, hz⟩, f, p, hf, hp⟩
theorem g_bd (r s p q : Nat) (v : VW) (b : Bool) : bdL (gCL r s) (gGL p q) v [b] = badL (gCL r s) (gGL p q) v (shwL (gCL r s) [b] 2) := by
  unfold bdL
  rw [shn_yes (g_vld r s p q b)]; rfl
theorem g_near1 (r s p q : Nat) : ∃ t : SN, bdL (gCL r s) (gGL p q) (vwE 0 0 0 1 1) [true] = [t] ∧ t.made = 0 := by
  rw [g_bd]
  exact ⟨seen (gGL p q) (vwE 0 0 0 1 1) ⟨swE s, 0, -1, [trE], by decide, by decide⟩, rfl, rfl⟩
theorem g_near0 (r s p q : Nat) : bdL (gCL r s) (gGL p q) (vwE 0 0 0 1 1) [false] = [] := by
  rw [g_bd]; rfl
theorem g_far (r s p q : Nat) : bdL (gCL r s) (gGL p q) (vwE 1000 0 0 1 1) [true] = [] := by
  rw [g_bd]; rfl
theorem g_ref (r s p q : Nat) : refV (gCL r s) (gGL p q) [true] 0 = [false] := rfl
theorem g_chn {r s p q : Nat} {R : List Bool} (h : ChS (gCL r s) (gGL p q) (vwE 0 0 0 1 1) [true] R) : R = [false] := by
  obtain ⟨t, h1, h2⟩ := g_near1 r s p q
  cases h with
  | stop h => rw [h1] at h; cases h
  | step h hr =>
    rw [h1, show fstL [t] = t from rfl, h2, show (0 : Int).toNat = 0 from rfl, g_ref] at hr
    cases hr with
    | stop h => rfl
    | step h hr => exact absurd (g_near0 r s p q) h
theorem g_chf {r s p q : Nat} {R : List Bool} (h : ChS (gCL r s) (gGL p q) (vwE 1000 0 0 1 1) [true] R) : R = [true] := by
  cases h with
  | stop h => rfl
  | step h hr => exact absurd (g_far r s p q) h
theorem g_okL {fam : List Ent} {r s : Nat} (h1 : InF fam (r, 0) (trsC [trE])) (h2 : InF fam (s, 0) (trsC [trE])) : ∀ c ∈ gCL r s, c.Ok fam := fun c hc => by
  simp only [gCL, List.mem_cons, List.not_mem_nil, or_false] at hc
  rcases hc with rfl | rfl
  · exact ⟨⟨rfl, .inr ⟨r, 0, rfl, h1⟩⟩, (by decide : IR ((1 : Nat) : Int))⟩
  · exact ⟨⟨rfl, .inr ⟨s, 0, rfl, h2⟩⟩, (by decide : IR ((1 : Nat) : Int))⟩
theorem g_okG {fam : List Ent} {p q : Nat} (h1 : InF fam (p, 0) (zvC [zE 0])) (h2 : InF fam (q, 0) (zvC [zE 1])) : ∀ g ∈ gGL p q, g.Ok fam := fun g hg => by
  simp only [gGL, List.mem_cons, List.not_mem_nil, or_false] at hg
  subst hg
  exact ⟨⟨rfl, .inr ⟨p, 0, rfl, h1⟩⟩, ⟨rfl, .inr ⟨q, 0, rfl, h2⟩⟩, (by decide : IR ((1 : Nat) : Int)), (by decide : IR ((1 : Nat) : Int))⟩
end Go.Proofs.YthmdmbpecgakkaaDoor
