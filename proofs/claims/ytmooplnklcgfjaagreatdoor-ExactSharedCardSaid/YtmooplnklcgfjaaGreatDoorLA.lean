/- law 02: triangles with common corners meet. -/
import Derived.Test.YtmooplnklcgfjaaGreatDoorEU
namespace Go.Proofs.YtmooplnklcgfjaaGreatDoor
open Go.RowKit
set_option maxRecDepth 100000

theorem tm_bd (m : Int) : (m.tmod 1099511627776).natAbs < 1099511627776 := by
  rw [Int.natAbs_tmod]; exact Nat.mod_lt _ (by decide)
theorem mvW_4 {t x : Int} (ht : t.natAbs < 1099511627776) : mvW 33554432 t (x % 4) = x % 4 * 33554432 + t := by
  unfold mvW
  rw [wrap_i (n := x % 4 * 33554432) (by omega), wrap_i (by omega)]
/-- a point, moved and scaled -/
def mvP (m1 m2 m3 : Int) (p : PT) : PT := ⟨mvW 33554432 (m1.tmod 1099511627776) p.x, mvW 33554432 (m2.tmod 1099511627776) p.y, mvW 33554432 (m3.tmod 1099511627776) p.z, ir_mvW _ _ _, ir_mvW _ _ _, ir_mvW _ _ _⟩
def tauM (m1 m2 m3 : Int) : V3 := ⟨m1.tmod 1099511627776, m2.tmod 1099511627776, m3.tmod 1099511627776⟩
theorem mvP_e (m1 m2 m3 : Int) {x y z : Int} (hx : IR x) (hy : IR y) (hz : IR z) : (mvP m1 m2 m3 (g4 hx hy hz)).v = mvZ 33554432 (tauM m1 m2 m3) (g4 hx hy hz).v :=
  V3.ext' (mvW_4 (tm_bd m1)) (mvW_4 (tm_bd m2)) (mvW_4 (tm_bd m3))
theorem in3 {P : PT → Prop} {a b c : PT} (ha : P a) (hb : P b) (hc : P c) : ∀ p ∈ TR.l ⟨a, b, c⟩, P p := by
  intro p hp
  simp only [TR.l, List.mem_cons, List.not_mem_nil, or_false] at hp
  rcases hp with rfl | rfl | rfl <;> assumption
def mvT (m1 m2 m3 : Int) (t : TR) : TR := ⟨mvP m1 m2 m3 t.a, mvP m1 m2 m3 t.b, mvP m1 m2 m3 t.c⟩
def Gd (m1 m2 m3 : Int) (t : TR) : Prop := ∀ p ∈ t.l, (mvP m1 m2 m3 p).v = mvZ 33554432 (tauM m1 m2 m3) p.v
theorem sh_2 {m1 m2 m3 : Int} {s t : TR} (hs : Gd m1 m2 m3 s) (ht : Gd m1 m2 m3 t) : (meetV (mvT m1 m2 m3 s) (mvT m1 m2 m3 t) == meetV s t) = true := by
  have e : meetV (mvT m1 m2 m3 s) (mvT m1 m2 m3 t) = meetV s t := meet_mv (k := 33554432) (by omega) (tauM m1 m2 m3) (mvP m1 m2 m3) hs ht
  rw [e]; exact beq_self_eq_true _
theorem sh_3 {m1 m2 m3 : Int} {s t : TR} (hs : Gd m1 m2 m3 s) (ht : Gd m1 m2 m3 t) : (meetV (mvT m1 m2 m3 t) (mvT m1 m2 m3 s) == meetV s t) = true := by
  rw [meet_sym (mvT m1 m2 m3 s)]; exact sh_2 hs ht
def dLawSh : Dn
  | [.agg [.int _ _, .int _ _, .int _ _, .int _ _, .int _ _, .int _ _, .int _ _, .int _ _, .int _ _], .agg [.int _ _, .int _ _, .int _ _, .int _ _, .int _ _, .int _ _], .agg [.int _ _, .int _ _, .int _ _, .int _ _]] =>
    some (none, .c (.val (.bool true)))
  | _ => none
set_option maxHeartbeats 16000000 in
theorem spLawSh : SpOk Tryz.prog 4 dLawSh := sp_of2 (un := 20) (n := 0) ⟨Tryz.func4, by kernel_rfl, by kernel_rfl⟩ baseU_ok noF_ok fun args p v hd => by
  unfold dLawSh at hd
  split at hd
  · rename_i x1 hx1 y1 hy1 z1 hz1 x2 hx2 y2 hy2 z2 hz2 x3 hx3 y3 hy3 z3 hz3 x4 hx4 y4 hy4 z4 hz4 x5 hx5 y5 hy5 z5 hz5 m0 hm0 m1 hm1 m2 hm2 m3 hm3
    cases hd
    refine ⟨[.agg [.int x1 hx1, .int y1 hy1, .int z1 hz1, .int x2 hx2, .int y2 hy2, .int z2 hz2, .int x3 hx3, .int y3 hy3, .int z3 hz3], .agg [.int x4 hx4, .int y4 hy4, .int z4 hz4, .int x5 hx5, .int y5 hy5, .int z5 hz5], .agg [.int m0 hm0, .int m1 hm1, .int m2 hm2, .int m3 hm3]], fun _ => rfl, fun _ _ => rfl, fun _ _ => rfl, fun _ => ?_⟩
    conv => whnf
    refine ⟨by decide, ?_⟩
    conv => whnf
    refine ⟨by decide, ?_⟩
    conv => whnf
    refine bcase_intro (fun _ => ?_) (fun _ => ?_)
    · conv => whnf
      refine ⟨by decide, ?_⟩
      conv => whnf
      refine bcase_intro (fun _ => ?_) (fun h => Bool.noConfusion ((beq_self_eq_true (meetV (⟨(g4 hx1 hy1 hz1), (g4 hx2 hy2 hz2), (g4 hx3 hy3 hz3)⟩ : TR) (⟨(g4 hx1 hy1 hz1), (g4 hx5 hy5 hz5), (g4 hx4 hy4 hz4)⟩ : TR))).symm.trans h))
      conv => whnf
      refine bcase_intro (fun _ => ?_) (fun h => Bool.noConfusion ((sh_2 (in3 (mvP_e m1 m2 m3 hx1 hy1 hz1) (mvP_e m1 m2 m3 hx2 hy2 hz2) (mvP_e m1 m2 m3 hx3 hy3 hz3) : Gd m1 m2 m3 ⟨(g4 hx1 hy1 hz1), (g4 hx2 hy2 hz2), (g4 hx3 hy3 hz3)⟩) (in3 (mvP_e m1 m2 m3 hx1 hy1 hz1) (mvP_e m1 m2 m3 hx5 hy5 hz5) (mvP_e m1 m2 m3 hx4 hy4 hz4) : Gd m1 m2 m3 ⟨(g4 hx1 hy1 hz1), (g4 hx5 hy5 hz5), (g4 hx4 hy4 hz4)⟩)).symm.trans h))
      conv => whnf
      refine bcase_intro (fun _ => ?_) (fun h => Bool.noConfusion ((sh_3 (in3 (mvP_e m1 m2 m3 hx1 hy1 hz1) (mvP_e m1 m2 m3 hx2 hy2 hz2) (mvP_e m1 m2 m3 hx3 hy3 hz3) : Gd m1 m2 m3 ⟨(g4 hx1 hy1 hz1), (g4 hx2 hy2 hz2), (g4 hx3 hy3 hz3)⟩) (in3 (mvP_e m1 m2 m3 hx1 hy1 hz1) (mvP_e m1 m2 m3 hx5 hy5 hz5) (mvP_e m1 m2 m3 hx4 hy4 hz4) : Gd m1 m2 m3 ⟨(g4 hx1 hy1 hz1), (g4 hx5 hy5 hz5), (g4 hx4 hy4 hz4)⟩)).symm.trans h))
      conv => whnf
      exact fun ρ => sbool_e (meet_self (⟨(g4 hx1 hy1 hz1), (g4 hx2 hy2 hz2), (g4 hx3 hy3 hz3)⟩ : TR)) ρ
    conv => whnf
    refine bcase_intro (fun _ => ?_) (fun h => Bool.noConfusion ((beq_self_eq_true (meetV (⟨(g4 hx1 hy1 hz1), (g4 hx2 hy2 hz2), (g4 hx3 hy3 hz3)⟩ : TR) (⟨(g4 hx1 hy1 hz1), (g4 hx2 hy2 hz2), (g4 hx4 hy4 hz4)⟩ : TR))).symm.trans h))
    conv => whnf
    refine bcase_intro (fun _ => ?_) (fun h => Bool.noConfusion ((sh_2 (in3 (mvP_e m1 m2 m3 hx1 hy1 hz1) (mvP_e m1 m2 m3 hx2 hy2 hz2) (mvP_e m1 m2 m3 hx3 hy3 hz3) : Gd m1 m2 m3 ⟨(g4 hx1 hy1 hz1), (g4 hx2 hy2 hz2), (g4 hx3 hy3 hz3)⟩) (in3 (mvP_e m1 m2 m3 hx1 hy1 hz1) (mvP_e m1 m2 m3 hx2 hy2 hz2) (mvP_e m1 m2 m3 hx4 hy4 hz4) : Gd m1 m2 m3 ⟨(g4 hx1 hy1 hz1), (g4 hx2 hy2 hz2), (g4 hx4 hy4 hz4)⟩)).symm.trans h))
    conv => whnf
    refine bcase_intro (fun _ => ?_) (fun h => Bool.noConfusion ((sh_3 (in3 (mvP_e m1 m2 m3 hx1 hy1 hz1) (mvP_e m1 m2 m3 hx2 hy2 hz2) (mvP_e m1 m2 m3 hx3 hy3 hz3) : Gd m1 m2 m3 ⟨(g4 hx1 hy1 hz1), (g4 hx2 hy2 hz2), (g4 hx3 hy3 hz3)⟩) (in3 (mvP_e m1 m2 m3 hx1 hy1 hz1) (mvP_e m1 m2 m3 hx2 hy2 hz2) (mvP_e m1 m2 m3 hx4 hy4 hz4) : Gd m1 m2 m3 ⟨(g4 hx1 hy1 hz1), (g4 hx2 hy2 hz2), (g4 hx4 hy4 hz4)⟩)).symm.trans h))
    conv => whnf
    exact fun ρ => sbool_e (meet_self (⟨(g4 hx1 hy1 hz1), (g4 hx2 hy2 hz2), (g4 hx3 hy3 hz3)⟩ : TR)) ρ
  · cases hd
end Go.Proofs.YtmooplnklcgfjaaGreatDoor
