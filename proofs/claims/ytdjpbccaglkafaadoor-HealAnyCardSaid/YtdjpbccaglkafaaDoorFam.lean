/- The reckoner: families: memory of the caller's that is only read, pieces unknown in number; blocks of one's own that become such. The reckoner: clear of elements of more than one cell. -/
import Derived.Test.YtdjpbccaglkafaaDoorEno
namespace Go.Proofs.YtdjpbccaglkafaaDoor
open Go.RowKit

section
variable {N : Nat} {w0 : Base} {hf : Nat → Option Blk} {ρ0 : Rho} {w : World}
/-- a block that is only read, at a place that was there before -/
theorem HRel.addAt (h : HRel N w0 hf ρ0 w) {n : Nat} (hn : hf n = none) {v : Blk} (hro : v.ro = true) (htl : v.tl = 0) (hp : PureL v.cs) (p : Nat × Nat)
    (hv : v.void = true ∨ (p.1 < w.heap.size ∧ (∀ j c, hf j = some c → c.ro = false → (ρ0 j).1 ≠ p.1) ∧ w.rangeAt p.1 p.2 (cellsL ρ0 v.cs))) : HRel N w0 (upF hf n v) (upR ρ0 n p) w := by
  have hne : ∀ {i : Nat} {c : Blk}, i ≠ n → upF hf n v i = some c → hf i = some c := fun hi hc => by unfold upF at hc; rwa [if_neg hi] at hc
  have hat : ∀ {c : Blk}, upF hf n v n = some c → c = v := fun hc => by unfold upF at hc; rw [if_pos rfl] at hc; cases hc; rfl
  have rn : upR ρ0 n p n = p := by unfold upR; rw [if_pos rfl]
  have ri : ∀ {i : Nat}, i ≠ n → upR ρ0 n p i = ρ0 i := fun hi => by unfold upR; rw [if_neg hi]
  refine ⟨fun i b hi hv2 => ?_, fun i b hi ho => ?_, fun i j b c hi ho hj hv2 hij => ?_, fun ρ hρ i b hi => ?_, h.bel, h.big, fun i hi => ?_, fun i b e hi he => ?_, fun i j b c hi hj hb hc hij => ?_, h.fam.up (fun i b hi hm => ?_) fun j c hj hc => ?_⟩
  · by_cases e : i = n
    · subst e; rw [rn]
      rcases hv with h1 | h1
      · rw [hat hi, h1] at hv2; cases hv2
      · exact h1.1
    · rw [ri e]; exact h.old i b (hne e hi) hv2
  · by_cases e : i = n
    · subst e; rw [hat hi, hro] at ho; cases ho
    · rw [ri e]; exact h.own i b (hne e hi) ho
  · by_cases ei : i = n
    · subst ei; rw [hat hi, hro] at ho; cases ho
    · by_cases ej : j = n
      · subst ej
        rw [rn, ri ei]
        rcases hv with h1 | h1
        · rw [hat hj, h1] at hv2; cases hv2
        · exact (h1.2.1 i b (hne ei hi) ho).symm
      · rw [ri ei, ri ej]; exact h.apart i j b c (hne ei hi) ho (hne ej hj) hv2 hij
  · by_cases e : i = n
    · subst e
      have := hat hi
      subst this
      have hρn : ρ i = p := by rw [hρ i (by rw [hi]; rfl), rn]
      rcases hv with h1 | h1
      · exact Holds.void h1 ρ i w
      · refine ⟨?_, fun h0 => by rw [hro] at h0; cases h0⟩
        have hp2 : cellsL ρ b.cs = cellsL ρ0 b.cs := hp ρ ρ0
        rw [hρn, hp2]; exact h1.2.2
    · exact h.holds ρ (fun k hk => by
        have hkn : k ≠ n := fun e => by rw [e, hn] at hk; cases hk
        rw [hρ k (by unfold upF; rw [if_neg hkn]; exact hk), ri hkn]) i b (hne e hi)
  · have := h.ext i hi
    have hin : i ≠ n := fun e => by rw [e, hn] at this; exact absurd this.1 (by simp)
    exact ⟨by unfold upF; rw [if_neg hin]; exact this.1, by rw [ri hin]; exact this.2⟩
  · by_cases e2 : i = n
    · subst e2; rw [hat hi, map_tl htl] at he; cases he
    · rw [ri e2]; exact h.maps i b e (hne e2 hi) he
  · by_cases ei : i = n
    · subst ei; rw [hat hi, map_tl htl] at hb; cases hb
    · by_cases ej : j = n
      · subst ej; rw [hat hj, map_tl htl] at hc; cases hc
      · rw [ri ei, ri ej]; exact h.mapA i j b c (hne ei hi) (hne ej hj) hb hc hij
  · by_cases ei : i = n
    · subst ei; rw [hat hi, fam_tl htl] at hm; cases hm
    · exact ⟨i, b, hne ei hi, rfl⟩
  · by_cases ej : j = n
    · subst ej; rw [hat hj, hro] at hc; cases hc
    · exact .inl ⟨j, c, hne ej hj, hc, by rw [ri ej]⟩
/-- the same cells in other words -/
theorem HRel.turn (h : HRel N w0 hf ρ0 w) {x : Nat} {c d : Blk} (hx : hf x = some c) (hc : c.ro = false) (hd : d.ty = c.ty ∧ d.ro = false ∧ d.tl = c.tl) (hcs : ∀ ρ, Agr hf ρ ρ0 → cellsL ρ d.cs = cellsL ρ c.cs) : HRel N w0 (upF hf x d) ρ0 w := by
  have hup : ∀ i b, upF hf x d i = some b → (i = x ∧ b = d) ∨ (i ≠ x ∧ hf i = some b) := fun i b hi => by
    unfold upF at hi
    split at hi
    · rename_i e; cases hi; exact .inl ⟨e, rfl⟩
    · rename_i e; exact .inr ⟨e, hi⟩
  have hagr : ∀ ρ, Agr (upF hf x d) ρ ρ0 → Agr hf ρ ρ0 := fun ρ hρ i hi => hρ i (by unfold upF; split; rfl; exact hi)
  refine ⟨fun i b hi hv => ?_, fun i b hi ho => ?_, fun i j b e hi ho hj hv hij => ?_, fun ρ hρ i b hi => ?_, h.bel, h.big, fun i hi => ?_, fun i b e hi he => ?_, fun i j b e hi hj hb he hij => ?_, h.fam.up (fun i b hi hm => ?_) fun j b hj hb => ?_⟩
  · rcases hup i b hi with ⟨rfl, rfl⟩ | ⟨_, hi⟩
    · exact h.old i c hx (own_live hc)
    · exact h.old i b hi hv
  · rcases hup i b hi with ⟨rfl, rfl⟩ | ⟨_, hi⟩
    · exact h.own i c hx hc
    · exact h.own i b hi ho
  · rcases hup i b hi with ⟨rfl, rfl⟩ | ⟨_, hi1⟩ <;> rcases hup j e hj with ⟨rfl, rfl⟩ | ⟨_, hj1⟩
    · exact absurd rfl hij
    · exact h.apart i j c e hx hc hj1 hv hij
    · exact h.apart i j b c hi1 ho hx (own_live hc) hij
    · exact h.apart i j b e hi1 ho hj1 hv hij
  · rcases hup i b hi with ⟨rfl, rfl⟩ | ⟨_, hi⟩
    · have := h.holds ρ (hagr ρ hρ) i c hx
      unfold Holds at this ⊢
      rw [hcs ρ (hagr ρ hρ), hd.1, hd.2.2]
      exact ⟨this.1, fun _ => this.2 hc⟩
    · exact h.holds ρ (hagr ρ hρ) i b hi
  · obtain ⟨h1, h2⟩ := h.ext i hi
    refine ⟨?_, h2⟩
    unfold upF; split
    · rfl
    · exact h1
  · rcases hup i b hi with ⟨rfl, rfl⟩ | ⟨_, hi⟩
    · rw [map_ro hd.2.1] at he; cases he
    · exact h.maps i b e hi he
  · rcases hup i b hi with ⟨rfl, rfl⟩ | ⟨_, hi⟩
    · rw [map_ro hd.2.1] at hb; cases hb
    · rcases hup j e hj with ⟨rfl, rfl⟩ | ⟨_, hj⟩
      · rw [map_ro hd.2.1] at he; cases he
      · exact h.mapA i j b e hi hj hb he hij
  · rcases hup i b hi with ⟨rfl, rfl⟩ | ⟨_, hi⟩
    · rw [fam_ro hd.2.1] at hm; cases hm
    · exact ⟨i, b, hi, rfl⟩
  · rcases hup j b hj with ⟨rfl, rfl⟩ | ⟨_, hj⟩
    · exact .inl ⟨j, c, hx, hc, rfl⟩
    · exact .inl ⟨j, b, hj, hb, rfl⟩
/-- a family put in a block's place -/
theorem HRel.ghost (h : HRel N w0 hf ρ0 w) {fb : Nat} {l : List Ent} (hl : ∀ e ∈ l, FamAt N w true e ∧ ∀ j c, j ≠ fb → hf j = some c → c.ro = false → (ρ0 j).1 ≠ e.a.1) : HRel N w0 (upF hf fb ⟨.x l, true, [], 2⟩) ρ0 w := by
  have hup : ∀ i b, upF hf fb ⟨.x l, true, [], 2⟩ i = some b → (i = fb ∧ b = ⟨.x l, true, [], 2⟩) ∨ (i ≠ fb ∧ hf i = some b) := fun i b hi => by
    unfold upF at hi
    split at hi
    · rename_i e; cases hi; exact .inl ⟨e, rfl⟩
    · rename_i e; exact .inr ⟨e, hi⟩
  have hagr : ∀ ρ, Agr (upF hf fb ⟨.x l, true, [], 2⟩) ρ ρ0 → Agr hf ρ ρ0 := fun ρ hρ i hi => hρ i (by unfold upF; split; rfl; exact hi)
  refine ⟨fun i b hi hv => ?_, fun i b hi ho => ?_, fun i j b e hi ho hj hv hij => ?_, fun ρ hρ i b hi => ?_, h.bel, h.big, fun i hi => ?_, fun i b e hi he => ?_, fun i j b e hi hj hb he hij => ?_, fun i b o l' e hi hm he => ?_⟩
  · rcases hup i b hi with ⟨rfl, rfl⟩ | ⟨_, hi⟩
    · cases hv
    · exact h.old i b hi hv
  · rcases hup i b hi with ⟨rfl, rfl⟩ | ⟨_, hi⟩
    · cases ho
    · exact h.own i b hi ho
  · rcases hup i b hi with ⟨rfl, rfl⟩ | ⟨_, hi⟩
    · cases ho
    · rcases hup j e hj with ⟨rfl, rfl⟩ | ⟨_, hj⟩
      · cases hv
      · exact h.apart i j b e hi ho hj hv hij
  · rcases hup i b hi with ⟨rfl, rfl⟩ | ⟨_, hi⟩
    · exact Holds.void rfl ρ i w
    · exact h.holds ρ (hagr ρ hρ) i b hi
  · obtain ⟨h1, h2⟩ := h.ext i hi
    refine ⟨?_, h2⟩
    unfold upF; split
    · rfl
    · exact h1
  · rcases hup i b hi with ⟨rfl, rfl⟩ | ⟨_, hi⟩
    · cases he
    · exact h.maps i b e hi he
  · rcases hup i b hi with ⟨rfl, rfl⟩ | ⟨_, hi⟩
    · cases hb
    · rcases hup j e hj with ⟨rfl, rfl⟩ | ⟨_, hj⟩
      · cases he
      · exact h.mapA i j b e hi hj hb he hij
  · have own : ∀ j c, upF hf fb ⟨.x l, true, [], 2⟩ j = some c → c.ro = false → j ≠ fb ∧ hf j = some c := fun j c hj hc => by
      rcases hup j c hj with ⟨rfl, rfl⟩ | ⟨h1, hj⟩
      · cases hc
      · exact ⟨h1, hj⟩
    rcases hup i b hi with ⟨rfl, rfl⟩ | ⟨_, hi⟩
    · cases hm
      exact ⟨(hl e he).1, fun j c hj hc => (hl e he).2 j c (own j c hj hc).1 (own j c hj hc).2 hc⟩
    · have := h.fam i b o l' e hi hm he
      exact ⟨this.1, fun j c hj hc => this.2 j c (own j c hj hc).2 hc⟩
end
/-- the address of block b put in words -/
def frzC (b r : Nat) : C → C
  | .sli nl b' off len cap h => (match Nat.beq b' b with
    | true => .val (.slice (nlA nl ⟨r, off, none⟩) len cap)
    | false => .sli nl b' off len cap h)
  | x => x
def frzL (b r : Nat) : List C → List C
  | [] => []
  | x :: l => frzC b r x :: frzL b r l
theorem frzC_cells {b r : Nat} {ρ : Rho} (h : ρ b = (r, 0)) (x : C) : (frzC b r x).cells ρ = x.cells ρ := by
  unfold frzC
  split
  · split
    · rename_i e
      have := Nat.eq_of_beq_eq_true e
      subst this
      simp only [C.cells, h, Nat.zero_add]
    · rfl
  · rfl
theorem frzL_cells {b r : Nat} {ρ : Rho} (h : ρ b = (r, 0)) : ∀ l : List C, cellsL ρ (frzL b r l) = cellsL ρ l
  | [] => rfl
  | x :: l => by rw [frzL, cellsL_cons, cellsL_cons, frzC_cells h, frzL_cells h l]
/-- a block of one's own, b, becomes a piece of the family fb; the cells of block x speak of it by its address -/
def frzK (hp : List Blk) (fb b x : Nat) (K : List Blk → Prop) : Prop :=
  match nthO hp fb, nthO hp b, nthO hp x with
  | some ⟨.x l, true, [], 2⟩, some ⟨.t ty1, false, cs, tl1⟩, some ⟨ty2, false, cs2, tl2⟩ => (PureL cs ∧ Nat.beq b x = false ∧ Nat.beq fb x = false) ∧ ∀ r, updK hp fb ⟨.x (l ++ [⟨(r, 0), cs, ty1, tl1⟩]), true, [], 2⟩ fun hp => updK hp b ⟨.t 0, true, [], 0⟩ fun hp => forceL (frzL b r cs2) fun cs3 => updK hp x ⟨ty2, false, cs3, tl2⟩ K
  | _, _, _ => False
/-- what is known stays known -/
def Frz (N : Nat) (w0 : Base) (ρ0 : Rho) (w : World) (hp hp' : List Blk) : Prop := HRel N w0 (nthO hp') ρ0 w ∧ ∀ i, (nthO hp' i).isSome = (nthO hp i).isSome
theorem frzK_ok {hp : List Blk} {fb b x : Nat} {K : List Blk → Prop} (h : frzK hp fb b x K) {N : Nat} {w0 : Base} {ρ0 : Rho} {w : World} (hh : HRel N w0 (nthO hp) ρ0 w) : ∃ hp', K hp' ∧ Frz N w0 ρ0 w hp hp' := by
  unfold frzK at h
  split at h
  · rename_i l t cs tl ty2 cs2 tl2 hfb hb hx
    obtain ⟨⟨hpure, hbx, hfx⟩, h⟩ := h
    have hbx : b ≠ x := fun e => by subst e; rw [Nat.beq_refl] at hbx; cases hbx
    have hfx : fb ≠ x := fun e => by subst e; rw [Nat.beq_refl] at hfx; cases hfx
    have hfbb : fb ≠ b := fun e => by subst e; rw [hfb] at hb; cases hb
    have h := h (ρ0 b).1
    simp only [updK_eq, forceL_eq] at h
    obtain ⟨h01, t0, ht0, hheap⟩ := (hh.holds ρ0 (Agr.refl _ _) b _ hb).2 rfl
    have hlt := hh.old b _ hb rfl
    have e1 : FamAt N w true ⟨((ρ0 b).1, 0), cs, t, tl⟩ := by
      have h3 : cellsL (fun _ => (0, 0)) cs = cellsL ρ0 cs := hpure _ _
      refine ⟨hpure, ⟨_, hheap, rfl⟩, fun _ => ⟨hh.own b _ hb rfl, rfl, t0, ht0, by rw [h3]; exact hheap⟩, ?_, fun h => (by cases h)⟩
      have h2 := (hh.holds ρ0 (Agr.refl _ _) b _ hb).1
      show w.rangeAt (ρ0 b).1 0 (cellsL (fun _ => (0, 0)) cs)
      rw [h3]
      rw [h01] at h2
      exact h2
    have k1 := hh.kill (b := b) (v := ⟨.t 0, true, [], 0⟩) rfl (map_tl rfl) (fam_tl rfl)
    have k2 := k1.ghost (fb := fb) (l := l ++ [⟨((ρ0 b).1, 0), cs, t, tl⟩]) (fun e he => by
      have own : ∀ j c, upF (nthO hp) b ⟨.t 0, true, [], 0⟩ j = some c → c.ro = false → j ≠ b ∧ nthO hp j = some c := fun j c hj hc => by
        unfold upF at hj
        split at hj
        · cases hj; cases hc
        · rename_i e; exact ⟨e, hj⟩
      rcases List.mem_append.1 he with he | he
      · have := hh.fam fb _ true l e hfb rfl he
        exact ⟨this.1, fun j c _ hj hc => this.2 j c (own j c hj hc).2 hc⟩
      · rw [List.mem_singleton.1 he]
        exact ⟨e1, fun j c _ hj hc => hh.apart b j _ c hb rfl (own j c hj hc).2 (own_live hc) (own j c hj hc).1 |> fun h => h⟩)
    have hxx : upF (upF (nthO hp) b ⟨.t 0, true, [], 0⟩) fb ⟨.x (l ++ [⟨((ρ0 b).1, 0), cs, t, tl⟩]), true, [], 2⟩ x = some ⟨ty2, false, cs2, tl2⟩ := by
      unfold upF; rw [if_neg (Ne.symm hfx), if_neg (Ne.symm hbx)]; exact hx
    have k3 := k2.turn (d := ⟨ty2, false, frzL b (ρ0 b).1 cs2, tl2⟩) hxx rfl ⟨rfl, rfl, rfl⟩ (fun ρ hρ => by
      refine frzL_cells ?_ cs2
      have : ρ b = ρ0 b := hρ b (by unfold upF; split; rfl; split; rfl; rw [hb]; rfl)
      rw [this, ← h01])
    have s1 : nthO (hp.set fb ⟨.x (l ++ [⟨((ρ0 b).1, 0), cs, t, tl⟩]), true, [], 2⟩) = upF (nthO hp) fb ⟨.x (l ++ [⟨((ρ0 b).1, 0), cs, t, tl⟩]), true, [], 2⟩ := nthO_set _ _ _ _ hfb
    have s2 := nthO_set (hp.set fb ⟨.x (l ++ [⟨((ρ0 b).1, 0), cs, t, tl⟩]), true, [], 2⟩) b ⟨.t 0, true, [], 0⟩ _ (by rw [s1]; unfold upF; rw [if_neg (Ne.symm hfbb)]; exact hb)
    have s3 := nthO_set ((hp.set fb ⟨.x (l ++ [⟨((ρ0 b).1, 0), cs, t, tl⟩]), true, [], 2⟩).set b ⟨.t 0, true, [], 0⟩) x ⟨ty2, false, frzL b (ρ0 b).1 cs2, tl2⟩ _ (by rw [s2, s1]; unfold upF; rw [if_neg (Ne.symm hbx), if_neg (Ne.symm hfx)]; exact hx)
    have comm : upF (upF (nthO hp) fb ⟨.x (l ++ [⟨((ρ0 b).1, 0), cs, t, tl⟩]), true, [], 2⟩) b ⟨.t 0, true, [], 0⟩ = upF (upF (nthO hp) b ⟨.t 0, true, [], 0⟩) fb ⟨.x (l ++ [⟨((ρ0 b).1, 0), cs, t, tl⟩]), true, [], 2⟩ := by
      funext i
      unfold upF
      by_cases e1 : i = b
      · rw [if_pos e1, if_neg (fun e => hfbb (e.symm.trans e1)), if_pos e1]
      · rw [if_neg e1]
        split <;> rfl
    refine ⟨_, h, ?_, fun i => ?_⟩
    · rw [s3, s2, s1, comm]; exact k3
    · rw [s3, s2, s1]
      unfold upF
      split
      · rename_i e; rw [e, hx]; rfl
      · split
        · rename_i e; rw [e, hb]; rfl
        · split
          · rename_i e; rw [e, hfb]; rfl
          · rfl
  · exact h.elim
theorem Frz.agr {N : Nat} {w0 : Base} {ρ0 : Rho} {w : World} {hp hp' : List Blk} (h : Frz N w0 ρ0 w hp hp') {ρ : Rho} (ha : Agr (nthO hp') ρ ρ0) : Agr (nthO hp) ρ ρ0 := fun i hi => ha i (by rw [h.2 i]; exact hi)
/-- freezing ahead of a call -/
def hfz (H : FuncId → List SV → List Blk → (SV → List Blk → Prop) → Prop) : Nat → FuncId → List SV → List Blk → (SV → List Blk → Prop) → Prop
  | 0, f, args, hp, K => H f args hp K
  | n + 1, f, args, hp, K => H f args hp K ∨ ∃ fb b x, frzK hp fb b x fun hp' => hfz H n f args hp' K
theorem hfz_ok {P : Program} {H : FuncId → List SV → List Blk → (SV → List Blk → Prop) → Prop} (hH : HOk P H) : ∀ n, HOk P (hfz H n)
  | 0 => hH
  | n + 1 => fun f args hp K h => by
    rcases h with h | ⟨fb, b, x, h⟩
    · exact hH f args hp K h
    · have key : ∀ hp', hfz H n f args hp' K → Callable P f ∧ _ := fun hp' h => hfz_ok hH n f args hp' K h
      refine ⟨?_, fun N w0 ρ0 w hh hargs => ?_⟩
      · unfold frzK at h
        split at h
        · have h := h.2 0
          simp only [updK_eq, forceL_eq] at h
          exact (key _ h).1
        · exact h.elim
      · obtain ⟨hp', hK, hf⟩ := frzK_ok h hh
        refine ((key hp' hK).2 N w0 ρ0 w hf.1 fun ρ hρ => hargs ρ (hf.agr hρ)).mono ?_
        rintro e w' ⟨v, hp2, ρ1, h1, h2, h3, h4⟩
        exact ⟨v, hp2, ρ1, h1, h2, fun i hi => h3 i (by rw [hf.2 i]; exact hi), h4⟩
/-- freezing ahead of an operation by a law of its own -/
def ofz (O : Oper → List SV → List Blk → (List SV → List Blk → Prop) → Prop) : Nat → Oper → List SV → List Blk → (List SV → List Blk → Prop) → Prop
  | 0, o, tm, hp, K => O o tm hp K
  | n + 1, o, tm, hp, K => O o tm hp K ∨ ∃ fb b x, frzK hp fb b x fun hp' => ofz O n o tm hp' K
theorem ofz_ok {P : Program} {O : Oper → List SV → List Blk → (List SV → List Blk → Prop) → Prop} (hO : OOk P O) : ∀ n, OOk P (ofz O n)
  | 0 => hO
  | n + 1 => fun o tm hp K h N w0 a w next Q hr hn => by
    rcases h with h | ⟨fb, b, x, h⟩
    · exact hO o tm hp K h hr hn
    · obtain ⟨ρ0, hh, ht, hd⟩ := hr
      obtain ⟨hp', hK, hf⟩ := frzK_ok h hh
      exact ofz_ok hO n o tm hp' K hK ⟨ρ0, hf.1, fun ρ hρ => ht ρ (hf.agr hρ), hd⟩ hn
/-- does a family hold a piece? -/
def famHas (hp : List Blk) (fb : Nat) (a : Nat × Nat) (cs : List C) : Prop := ∃ b o l, nthO hp fb = some b ∧ b.famOf = some (o, l) ∧ InF l a cs
/-- a slice by its address becomes one of a block that is only read -/
def impB (hp : List Blk) (v : Value) (K : Nat → List Blk → SV → Prop) : Prop :=
  ∃ (nl : Bool) (r o len cap : Nat) (h : SliOk nl len cap) (ty : TypeId) (cs : List C) (fb : Nat), v = .slice (nlA nl ⟨r, o, none⟩) len cap ∧ (cs = [] ∨ famHas hp fb (r, o) cs) ∧ snocK hp ⟨.t ty, true, cs, 0⟩ fun hp' => lenK hp fun n => K n hp' (.c (.sli nl n 0 len cap h))
theorem impB_ok {hp : List Blk} {v : Value} {K : Nat → List Blk → SV → Prop} (h : impB hp v K) {N : Nat} {w0 : Base} {ρ0 : Rho} {w : World} (hh : HRel N w0 (nthO hp) ρ0 w) :
    ∃ hp' s p, K hp.length hp' s ∧ HRel N w0 (nthO hp') (upR ρ0 hp.length p) w ∧ (∀ i, (nthO hp i).isSome = true → (nthO hp' i).isSome = true ∧ upR ρ0 hp.length p i = ρ0 i) ∧ ∀ ρ, Agr (nthO hp') ρ (upR ρ0 hp.length p) → s.den ρ = v := by
  obtain ⟨nl, r, o, len, cap, hl, ty, cs, fb, rfl, hc, h⟩ := h
  rw [snocK_eq, lenK_eq] at h
  have hn := nthO_none hp
  have hsn : nthO (hp ++ [(⟨.t ty, true, cs, 0⟩ : Blk)]) = upF (nthO hp) hp.length ⟨.t ty, true, cs, 0⟩ := nthO_snoc' _ _
  refine ⟨_, _, (r, o), h, ?_, fun i hi => by rw [hsn]; exact up_agr hn i hi, fun ρ hρ => ?_⟩
  · rw [hsn]
    rcases hc with rfl | ⟨b, o', l, h1, h2, ⟨⟨r', o1⟩, cs', ty1, tl1⟩, h3, h4, h5⟩
    · exact hh.addAt hn rfl rfl (fun _ _ => rfl) (r, o) (.inl rfl)
    · simp only at h4 h5
      cases h4; subst h5
      have hf := hh.fam fb b o' l _ h1 h2 h3
      refine hh.addAt hn rfl rfl hf.1.pure (r, o) (.inr ⟨hf.1.lt, hf.2, ?_⟩)
      have : cellsL ρ0 cs' = cellsL (fun _ => (0, 0)) cs' := hf.1.pure _ _
      show w.rangeAt r o (cellsL ρ0 cs')
      rw [this]; exact hf.1.holds
  · have : ρ hp.length = (r, o) := by
      rw [hρ _ (by rw [hsn]; unfold upF; rw [if_pos rfl]; rfl)]; unfold upR; rw [if_pos rfl]
    simp [SV.den, C.den, C.cells, this]
/-- an argument that is a slice by its address -/
def argI (hp : List Blk) : List SV → Nat → (List SV → List Blk → Prop) → Prop
  | [], _, _ => False
  | x :: l, 0, K => (match x with
    | .c (.val v) => impB hp v fun _ hp' s => K (s :: l) hp'
    | _ => False)
  | x :: l, k + 1, K => argI hp l k fun l hp' => K (x :: l) hp'
theorem argI_ok {hp : List Blk} : ∀ {l : List SV} {k : Nat} {K : List SV → List Blk → Prop}, argI hp l k K → ∀ {N : Nat} {w0 : Base} {ρ0 : Rho} {w : World}, HRel N w0 (nthO hp) ρ0 w →
    ∃ hp' l' p, K l' hp' ∧ HRel N w0 (nthO hp') (upR ρ0 hp.length p) w ∧ (∀ i, (nthO hp i).isSome = true → (nthO hp' i).isSome = true ∧ upR ρ0 hp.length p i = ρ0 i) ∧ ∀ ρ, Agr (nthO hp') ρ (upR ρ0 hp.length p) → l'.map (SV.den ρ) = l.map (SV.den ρ)
  | [], _, _, h => h.elim
  | x :: l, k + 1, K, h => fun hh => by
    have h : argI hp l k fun l hp' => K (x :: l) hp' := h
    obtain ⟨hp', l', p, h1, h2, h3, h4⟩ := argI_ok h hh
    exact ⟨hp', x :: l', p, h1, h2, h3, fun ρ hρ => by rw [List.map_cons, List.map_cons, h4 ρ hρ]⟩
  | x :: l, 0, K, h => fun hh => by
    unfold argI at h
    split at h
    · obtain ⟨hp', s, p, h1, h2, h3, h4⟩ := impB_ok h hh
      exact ⟨hp', s :: l, p, h1, h2, h3, fun ρ hρ => by rw [List.map_cons, List.map_cons, h4 ρ hρ]; rfl⟩
    · exact h.elim
theorem argI_ex {hp : List Blk} : ∀ {l : List SV} {k : Nat} {K : List SV → List Blk → Prop}, argI hp l k K → ∃ l' hp', K l' hp'
  | [], _, _, h => h.elim
  | x :: l, k + 1, K, h => by
    have h : argI hp l k fun l hp' => K (x :: l) hp' := h
    obtain ⟨l', hp', h1⟩ := argI_ex h
    exact ⟨x :: l', hp', h1⟩
  | x :: l, 0, K, h => by
    unfold argI at h
    split at h
    · obtain ⟨nl, r, o, len, cap, hl, ty, cs, fb, -, -, h⟩ := h
      rw [snocK_eq, lenK_eq] at h
      exact ⟨_, _, h⟩
    · exact h.elim
/-- slices by their addresses made known ahead of a call -/
def himp (H : FuncId → List SV → List Blk → (SV → List Blk → Prop) → Prop) : Nat → FuncId → List SV → List Blk → (SV → List Blk → Prop) → Prop
  | 0, f, args, hp, K => H f args hp K
  | n + 1, f, args, hp, K => H f args hp K ∨ ∃ k, argI hp args k fun args hp' => himp H n f args hp' K
theorem himp_ok {P : Program} {H : FuncId → List SV → List Blk → (SV → List Blk → Prop) → Prop} (hH : HOk P H) : ∀ n, HOk P (himp H n)
  | 0 => hH
  | n + 1 => fun f args hp K h => by
    rcases h with h | ⟨k, h⟩
    · exact hH f args hp K h
    · refine ⟨?_, fun N w0 ρ0 w hh hargs => ?_⟩
      · obtain ⟨l', hp', h1⟩ := argI_ex h
        exact (himp_ok hH n f l' hp' K h1).1
      · obtain ⟨hp', l', p, h1, h2, h3, h4⟩ := argI_ok h hh
        have hsub : ∀ ρ, Agr (nthO hp') ρ (upR ρ0 hp.length p) → Agr (nthO hp) ρ ρ0 := fun ρ hρ => hρ.sub h3
        have e0 : l'.map (SV.den (upR ρ0 hp.length p)) = args.map (SV.den ρ0) := by rw [h4 _ (Agr.refl _ _)]; exact hargs _ (hsub _ (Agr.refl _ _))
        rw [← e0]
        refine ((himp_ok hH n f l' hp' K h1).2 N w0 _ w h2 fun ρ hρ => ?_).mono ?_
        · rw [h4 ρ hρ, h4 _ (Agr.refl _ _), hargs ρ (hsub ρ hρ), hargs _ (hsub _ (Agr.refl _ _))]
        · rintro e w' ⟨v, hp2, ρ1, k1, k2, k3, k4⟩
          exact ⟨v, hp2, ρ1, k1, k2, fun i hi => ⟨(k3 i (h3 i hi).1).1, (k3 i (h3 i hi).1).2.trans (h3 i hi).2⟩, k4⟩
/-- a slice by its address in a slot -/
def tmI (hp : List Blk) : List SV → Nat → (List SV → List Blk → Prop) → Prop := argI hp
/-- slices by their addresses made known ahead of an operation -/
def oimp (E : Env) (H : FuncId → List SV → List Blk → (SV → List Blk → Prop) → Prop) (O : Oper → List SV → List Blk → (List SV → List Blk → Prop) → Prop) : Nat → Oper → List SV → List Blk → (List SV → List Blk → Prop) → Prop
  | 0, o, tm, hp, K => O o tm hp K
  | n + 1, o, tm, hp, K => O o tm hp K ∨ ∃ k, argI hp tm k fun tm hp' => vcOp { E with O := oimp E H O n } H o tm hp' K
theorem oimp_ok {P : Program} {E : Env} (hE : EOk P E) {H : FuncId → List SV → List Blk → (SV → List Blk → Prop) → Prop} (hH : HOk P H) {O : Oper → List SV → List Blk → (List SV → List Blk → Prop) → Prop} (hO : OOk P O) : ∀ n, OOk P (oimp E H O n)
  | 0 => hO
  | n + 1 => fun o tm hp K h N w0 a w next Q hr hn => by
    rcases h with h | ⟨k, h⟩
    · exact hO o tm hp K h hr hn
    · obtain ⟨ρ0, hh, ht, hd⟩ := hr
      obtain ⟨hp', l', p, h1, h2, h3, h4⟩ := argI_ok h hh
      have hE2 : EOk P { E with O := oimp E H O n } := ⟨hE.T, hE.D, oimp_ok hE hH hO n, hE.R⟩
      exact vcOp_ok hE2 hH h1 ⟨_, h2, fun ρ hρ => by rw [h4 ρ hρ]; exact ht ρ (hρ.sub h3), hd⟩ hn
/-- a family without pieces, ahead of a call -/
def hfam0 (H : FuncId → List SV → List Blk → (SV → List Blk → Prop) → Prop) (f : FuncId) (args : List SV) (hp : List Blk) (K : SV → List Blk → Prop) : Prop :=
  H f args hp K ∨ snocK hp ⟨.x [], true, [], 2⟩ fun hp' => H f args hp' K
theorem hfam0_ok {P : Program} {H : FuncId → List SV → List Blk → (SV → List Blk → Prop) → Prop} (hH : HOk P H) : HOk P (hfam0 H) := fun f args hp K h => by
  rcases h with h | h
  · exact hH f args hp K h
  · rw [snocK_eq] at h
    refine ⟨(hH f args _ K h).1, fun N w0 ρ0 w hh hargs => ?_⟩
    have hsn : nthO (hp ++ [(⟨.x [], true, [], 2⟩ : Blk)]) = upF (nthO hp) hp.length ⟨.x [], true, [], 2⟩ := nthO_snoc' _ _
    have h2 : HRel N w0 (nthO (hp ++ [(⟨.x [], true, [], 2⟩ : Blk)])) ρ0 w := by rw [hsn]; exact hh.ghost fun e he => by simp at he
    have hs : ∀ i, (nthO hp i).isSome = true → (nthO (hp ++ [(⟨.x [], true, [], 2⟩ : Blk)]) i).isSome = true := fun i hi => by
      rw [hsn]; unfold upF; split
      · rfl
      · exact hi
    refine ((hH f args _ K h).2 N w0 ρ0 w h2 fun ρ hρ => hargs ρ fun i hi => hρ i (hs i hi)).mono ?_
    rintro e w' ⟨v, hp2, ρ1, k1, k2, k3, k4⟩
    exact ⟨v, hp2, ρ1, k1, k2, fun i hi => k3 i (hs i hi), k4⟩
/-! functions that take families -/
def roAllX : List Blk → Prop
  | [] => True
  | b :: l => (b.ro = true ∧ b.mapOf = none) ∧ roAllX l
theorem roAllX_get : ∀ {l : List Blk} (_ : roAllX l) {i : Nat} {b : Blk}, nthO l i = some b → b.ro = true ∧ b.mapOf = none
  | [], _, i, b, h => by simp [nthO] at h
  | x :: l, hp, 0, b, h => by simp [nthO] at h; subst h; exact hp.1
  | x :: l, hp, i + 1, b, h => roAllX_get hp.2 (by simpa [nthO] using h)
/-- as CSp, but the blocks may be families -/
def CSpX (P : Program) (f : FuncId) (c : NewC) : Prop := Callable P f ∧ ∀ args ros K, c args ros K → roAllX ros → pureAll ros → ∀ ρ w, (∀ i b, nthO ros i = some b → w.rangeAt (ρ i).1 (ρ i).2 (cellsL ρ b.cs)) →
  (∀ i b o l e, nthO ros i = some b → b.famOf = some (o, l) → e ∈ l → FamAt w.heap.size w false e) → (∀ i b o l, nthO ros i = some b → b.famOf = some (o, l) → o = false) →
  Calls P f (args.map (SV.den ρ)).toArray w fun e w' => ∃ v news σ, K v news ∧ newAll news ∧ HRel w.heap.size ⟨w, fun _ => False, ρ, 0⟩ (nthO (ros ++ news)) σ w' ∧ (∀ i, i < ros.length → σ i = ρ i) ∧ ∀ ρ', Agr (nthO (ros ++ news)) ρ' σ → e = .returned (v.den ρ')
theorem csp_ofX {P : Program} {E : Env} (hE : EOk P E) (hm : P.follows .mixedOrders = true) {H : FuncId → List SV → List Blk → (SV → List Blk → Prop) → Prop} (hH : HOk P H) {f : FuncId} {fn : Func} (hf : FnOk P f fn) {c : NewC}
    (h : ∀ args ros K, c args ros K → (∀ ρ ρ', (∀ i, i < ros.length → ρ i = ρ' i) → args.map (SV.den ρ) = args.map (SV.den ρ')) ∧ vcF E H fn args ros (outK ros K)) : CSpX P f c := by
  refine ⟨hf.callable, fun args ros K hc hro hpure ρ w hr hfam hold => ?_⟩
  obtain ⟨hargs, hwalk⟩ := h args ros K hc
  have hlen : ∀ {i : Nat}, (nthO ros i).isSome = true ↔ i < ros.length := fun {i} => by
    rw [nthO_eq]
    constructor
    · intro h; obtain ⟨x, hx⟩ := Option.isSome_iff_exists.1 h; exact (List.getElem?_eq_some_iff.1 hx).1
    · intro h; rw [List.getElem?_eq_getElem h]; rfl
  have hh : HRel w.heap.size ⟨w, fun i => (nthO ros i).isSome = true, ρ, 0⟩ (nthO ros) ρ w := by
    refine ⟨fun i b hi hv => ?_, fun i b hi ho => ?_, fun i j b c hi ho => ?_, fun ρ' hρ i b hi => ?_, BelO.refl _ _, Nat.le_refl _, fun i h => ⟨h, rfl⟩, fun i b e hi he => (by rw [(roAllX_get hro hi).2] at he; cases he), fun i j b c hi hj hm hk hne => (by rw [(roAllX_get hro hi).2] at hm; cases hm), fun i b o l e hi hm he => ⟨⟨(hfam i b o l e hi hm he).pure, (hfam i b o l e hi hm he).row, fun ho => (by have := (roAllX_get hro hi); exact absurd ho (by rw [(hold i b o l hi hm)]; decide)), (hfam i b o l e hi hm he).holds, fun _ => (hfam i b o l e hi hm he).lt⟩, fun j c hj ho => (by rw [(roAllX_get hro hj).1] at ho; cases ho)⟩⟩
    · have h0 : 0 < sizeC b.cs := by
        cases hc : b.cs with
        | nil =>
          unfold Blk.void at hv
          rw [hc, (roAllX_get hro hi).1] at hv
          cases hv
        | cons x l => cases x <;> simp [sizeC, C.n] <;> omega
      rw [sizeC_eq ρ] at h0
      exact block_lt_of_cell (hr i b hi 0 _ (List.getElem?_eq_getElem h0))
    · rw [(roAllX_get hro hi).1] at ho; cases ho
    · rw [(roAllX_get hro hi).1] at ho; cases ho
    · refine ⟨?_, fun ho => by rw [(roAllX_get hro hi).1] at ho; cases ho⟩
      have hp2 : cellsL ρ' b.cs = cellsL ρ b.cs := (pureAll_get hpure hi) ρ' ρ
      rw [hρ i (by rw [hi]; rfl), hp2]
      exact hr i b hi
  refine (fn_ok hE hm hH hf hwalk w.heap.size _ ρ w hh (fun ρ' hρ => hargs ρ' ρ fun i hi => hρ i (hlen.2 hi))).mono ?_
  rintro e w' ⟨v, hp', ρ1, ⟨sel, pf, hout⟩, hh', -, he⟩
  have he0 := he ρ1 (Agr.refl _ _)
  have hrel : RelS w.heap.size ⟨w, fun i => (nthO ros i).isSome = true, ρ, 0⟩ [v] hp' { tmps := #[v.den ρ1], defers := [] } w' := ⟨ρ1, hh', fun ρ' hρ' => by
    have := he ρ' hρ'
    rw [he0] at this
    have : v.den ρ1 = v.den ρ' := by simpa using this
    simp [this], Marks.nil _ _ (Nat.zero_le _)⟩
  obtain ⟨tm2, hp2, ⟨v2, news, rfl, hsame, hn, v3, hv3, hK⟩, hr2⟩ := endK_ok (n0 := ros.length) (fun i hi => hlen.1 hi) hrel (hout _)
  have hr3 := hr2.same (tm2 := [v3]) ⟨hv3, trivial⟩ hsame
  obtain ⟨σ, hh3, ht3, -⟩ := hr3
  refine ⟨v3, news, σ, hK, hn, ⟨hh3.old, hh3.own, hh3.apart, hh3.holds, hh3.bel, hh3.big, fun i hi => hi.elim, hh3.maps, hh3.mapA, hh3.fam⟩, fun i hi => ?_, fun ρ' hρ' => ?_⟩
  · exact (hh3.ext i (hlen.2 hi)).2
  · have := ht3 ρ' hρ'
    simp only [List.map_cons, List.map_nil, List.cons.injEq, and_true] at this
    rw [he0, this]
def hnewX (l : List (FuncId × NewC)) (H : FuncId → List SV → List Blk → (SV → List Blk → Prop) → Prop) (f : FuncId) (args : List SV) (hp : List Blk) (K : SV → List Blk → Prop) : Prop :=
  match lkC l f with
  | some c => ∃ fb, (match nthO hp fb with
    | some ⟨.x fl, true, [], t⟩ => (t = 2 ∨ t = 3) ∧ argK hp 0 args fun args' ros bs => pureAll ros ∧ snocK ros ⟨.x fl, true, [], 3⟩ fun ros => c args' ros fun v news => lenK hp fun n => appB hp news fun hp' => snocK bs fb fun bs => K (v.mv bs n) hp'
    | _ => False)
  | none => H f args hp K
def AllX (P : Program) (l : List (FuncId × NewC)) : Prop := ∀ x ∈ l, CSpX P x.1 x.2
theorem AllX.nil {P : Program} : AllX P [] := fun x hx => by simp at hx
theorem AllX.cons {P : Program} {f : FuncId} {c : NewC} {l : List (FuncId × NewC)} (h : CSpX P f c) (hl : AllX P l) : AllX P ((f, c) :: l) := fun x hx => by
  rcases List.mem_cons.1 hx with rfl | hx
  · exact h
  · exact hl x hx
theorem pureAll_snoc {b : Blk} (hb : PureL b.cs) : ∀ {l : List Blk}, pureAll l → pureAll (l ++ [b])
  | [], _ => ⟨hb, trivial⟩
  | _ :: _, h => ⟨h.1, pureAll_snoc hb h.2⟩
theorem roAllX_snoc {b : Blk} (hb : b.ro = true ∧ b.mapOf = none) : ∀ {l : List Blk}, roAll l → roAllX (l ++ [b])
  | [], _ => ⟨hb, trivial⟩
  | _ :: _, h => ⟨⟨h.1.1, map_tl h.1.2⟩, roAllX_snoc hb h.2⟩
theorem hnewX_ok {P : Program} {l : List (FuncId × NewC)} (hl : AllX P l) {H : FuncId → List SV → List Blk → (SV → List Blk → Prop) → Prop} (hH : HOk P H) : HOk P (hnewX l H) := by
  intro f args hp K h
  unfold hnewX at h
  split at h
  · rename_i c hc
    have hsp := hl _ (lkC_mem hc)
    obtain ⟨fb, h⟩ := h
    split at h
    · rename_i fl t hfb
      obtain ⟨ht, h⟩ := h
      refine ⟨hsp.1, fun N w0 ρ0 w hh _ => ?_⟩
      obtain ⟨l', ros0, bs0, hK, hlen0, hro0, hbs0, hden0⟩ := argK_spec h
      obtain ⟨hpure0, hK⟩ := hK
      rw [snocK_eq] at hK
      have hfo : ∃ o, (⟨.x fl, true, [], t⟩ : Blk).famOf = some (o, fl) := by rcases ht with rfl | rfl <;> exact ⟨_, rfl⟩
      obtain ⟨ros, hros⟩ : ∃ ros, ros = ros0 ++ [⟨.x fl, true, [], 3⟩] := ⟨_, rfl⟩
      obtain ⟨bs, hbsd⟩ : ∃ bs, bs = bs0 ++ [fb] := ⟨_, rfl⟩
      rw [← hros] at hK
      have hlen : ros.length = bs.length := by rw [hros, hbsd]; simp [hlen0]
      have hpure : pureAll ros := by rw [hros]; exact pureAll_snoc (fun _ _ => rfl) hpure0
      have hro : roAllX ros := by rw [hros]; exact roAllX_snoc ⟨rfl, rfl⟩ hro0
      have hbs : ∀ (i b : Nat), bs[i]? = some b → ∃ c d, nthO hp b = some c ∧ nthO ros i = some d ∧ d.cs = c.cs := fun i b hi => by
        rw [hbsd] at hi
        by_cases hlt : i < bs0.length
        · rw [List.getElem?_append_left hlt] at hi
          obtain ⟨c', d', h1, h2, h3⟩ := hbs0 i b hi
          refine ⟨c', d', h1, ?_, h3⟩
          rw [hros, nthO_append, if_pos (by omega)]; exact h2
        · rw [List.getElem?_append_right (by omega)] at hi
          have e : i - bs0.length = 0 := by
            have := (List.getElem?_eq_some_iff.1 hi).1
            simp at this; omega
          rw [e] at hi
          simp at hi
          subst hi
          refine ⟨_, ⟨.x fl, true, [], 3⟩, hfb, ?_, rfl⟩
          rw [hros, nthO_append, if_neg (by omega), show i - ros0.length = 0 by omega]; rfl
      have hden : ∀ ρ ρ' : Rho, (∀ (i b : Nat), bs[i]? = some b → ρ' (0 + i) = ρ b) → args.map (SV.den ρ) = l'.map (SV.den ρ') := fun ρ ρ' h => hden0 ρ ρ' fun i b hi => h i b (by rw [hbsd, List.getElem?_append_left (List.getElem?_eq_some_iff.1 hi).1]; exact hi)
      let ρ : Rho := fun i => ρ0 (bs[i]?.getD 0)
      have hρ : ∀ (i b : Nat), bs[i]? = some b → ρ i = ρ0 b := fun i b hi => by show ρ0 (bs[i]?.getD 0) = ρ0 b; rw [hi]; rfl
      have hargs : args.map (SV.den ρ0) = l'.map (SV.den ρ) := hden ρ0 ρ (fun i b hi => by rw [Nat.zero_add]; exact hρ i b hi)
      rw [hargs]
      have hfam0 : ∀ i b o l, nthO ros i = some b → b.famOf = some (o, l) → o = false ∧ l = fl := fun i b o l hi hm => by
        rw [hros, nthO_append] at hi
        split at hi
        · rw [fam_tl (roAll_get2 hro0 hi).2] at hm; cases hm
        · have e : i - ros0.length = 0 := by
            rw [nthO_eq] at hi
            have := (List.getElem?_eq_some_iff.1 hi).1
            simp at this; omega
          rw [e] at hi
          cases hi
          cases hm
          exact ⟨rfl, rfl⟩
      refine (hsp.2 l' ros _ hK hro hpure ρ w (fun i d hd => ?_) (fun i b o l e hi hm he => ?_) (fun i b o l hi hm => (hfam0 i b o l hi hm).1)).mono ?_
      · have hi : i < ros.length := by rw [nthO_eq] at hd; exact (List.getElem?_eq_some_iff.1 hd).1
        obtain ⟨b, hb⟩ : ∃ b, bs[i]? = some b := ⟨_, List.getElem?_eq_getElem (by omega)⟩
        obtain ⟨c', d', h1, h2, h3⟩ := hbs i b hb
        rw [hd] at h2; cases h2
        have := (hh.holds ρ0 (Agr.refl _ _) b c' h1).1
        have hp2 : cellsL ρ d.cs = cellsL ρ0 d.cs := (pureAll_get hpure hd) ρ ρ0
        rw [hρ i b hb, hp2, h3]
        exact this
      · obtain ⟨rfl, rfl⟩ := hfam0 i b o l hi hm
        obtain ⟨o', ho'⟩ := hfo
        have := (hh.fam fb _ o' _ e hfb ho' he).1
        exact ⟨this.pure, this.row, fun h => (by cases h), this.holds, fun _ => this.lt⟩
      · rintro e w' ⟨v, news, σ, hK, hn, hc, hσ, he⟩
        rw [lenK_eq, appB_eq, snocK_eq, ← hbsd] at hK
        refine ⟨_, _, _, hK, hh.join hc hn, fun i hi => ?_, fun ρ1 hρ1 => ?_⟩
        · have hil : i < hp.length := by
            obtain ⟨x, hx⟩ := Option.isSome_iff_exists.1 hi
            rw [nthO_eq] at hx; exact (List.getElem?_eq_some_iff.1 hx).1
          exact ⟨by rw [nthO_append, if_pos hil]; exact hi, if_pos hil⟩
        · rw [mv_den]
          refine he _ (fun k hk => ?_)
          have hkl : k < (ros ++ news).length := by
            obtain ⟨x, hx⟩ := Option.isSome_iff_exists.1 hk
            rw [nthO_eq] at hx; exact (List.getElem?_eq_some_iff.1 hx).1
          show ρ1 (mvN bs hp.length k) = σ k
          unfold mvN
          by_cases hkr : k < ros.length
          · have hkb : k < bs.length := by omega
            obtain ⟨b, hb⟩ : ∃ b, bs[k]? = some b := ⟨_, List.getElem?_eq_getElem hkb⟩
            rw [nthO_eq, hb]
            obtain ⟨c', d', h1, -⟩ := hbs k b hb
            have hbl : b < hp.length := by rw [nthO_eq] at h1; exact (List.getElem?_eq_some_iff.1 h1).1
            rw [hσ k hkr, hρ k b hb]
            have := hρ1 b (by rw [nthO_append, if_pos hbl, h1]; rfl)
            rw [this]; exact if_pos hbl
          · rw [nthO_eq, List.getElem?_eq_none (by omega)]
            have hx : (nthO (hp ++ news) (hp.length + (k - bs.length))).isSome = true := by
              rw [nthO_append, if_neg (by omega)]
              rw [nthO_append, if_neg hkr] at hk
              rw [show hp.length + (k - bs.length) - hp.length = k - ros.length by omega]; exact hk
            have := hρ1 _ hx
            show ρ1 (hp.length + (k - bs.length)) = σ k
            rw [this]
            show (if hp.length + (k - bs.length) < hp.length then _ else σ (hp.length + (k - bs.length) - hp.length + ros.length)) = σ k
            rw [if_neg (by omega)]
            congr 1; omega
    · exact h.elim
  · exact hH f args hp K h
end Go.Proofs.YtdjpbccaglkafaaDoor

namespace Go.Proofs.YtdjpbccaglkafaaDoor
open Go.RowKit

theorem run_clear_gen {P : Program} (w : World) (t e ty : TypeId) (z : Value) (L : List Value) (ht : P.underlying t = some (.slice e)) (hv : ∀ w, (zeroValue e).run P w = .ok z w) (b o n c : Nat) (hn : 0 < n) (hL : (Builtin.zeroCells z.cells n).toList = L) (h1 : ∀ v ∈ L, v.oneCell' = true)
    (hc : ∀ j, j < L.length → (w.cell? ⟨b, o + j, none⟩).isSome = true) (hf : ∀ j, j < L.length → w.frozen? ⟨b, o + j, none⟩ = false) :
    (Builtin.clear_ #[t] ty #[.slice (some ⟨b, o, none⟩) n c]).run P w = .ok (.tuple #[]) (w.setCells b o L) := by
  have hst := run_storeCells_cells (P := P) b o L 0 w (by simpa using hc) (by simpa using hf) h1
  simp only [Nat.add_zero] at hst
  obtain ⟨m, rfl⟩ : ∃ m, n = m + 1 := ⟨n - 1, by omega⟩
  simp [Builtin.clear_, run_underlying ht, hv, hL, hst]
def oClr (T : TypeId → Option TI) (O : Oper → List SV → List Blk → (List SV → List Blk → Prop) → Prop) (o : Oper) (tm : List SV) (hp : List Blk) (K : List SV → List Blk → Prop) : Prop :=
  match o.op with
  | .call c => (match c.callee, c.args.toList, c.argTypes.toList with
    | .builtin .clear, [s], [t] => (match T t, evm tm s with
      | some { sh := .slice _ esz ez, .. }, .c (.sli false b off n _ _) => (match nthO hp b with
        | some ⟨ty, false, cs, tl⟩ => allOne ez = true ∧ ∃ A m B, cs = A ++ (m ++ B) ∧ sizeC A = off ∧ sizeC m = n * esz ∧ updK hp b ⟨ty, false, A ++ (repC n ez ++ B), tl⟩ fun hp => putK o.dst (.tup []) tm fun tm => K tm hp
        | _ => Bad o 36 (opEv o tm))
      | _, _ => Bad o 37 (opEv o tm))
    | _, _, _ => O o tm hp K)
  | _ => O o tm hp K
section
variable {P : Program} {T : TypeId → Option TI} (hT : TOk P T)
include hT
theorem zero_cells {t e : TypeId} {esz : Nat} {ez : List C} {sz : Nat} {ag : Bool} {z : List C} {eq : Option (List K)} (h : T t = some ⟨sz, ag, z, .slice e esz ez, eq⟩) :
    ∃ i z0, P.underlying t = some (.slice e) ∧ P.info? e = some i ∧ i.zero = some z0 ∧ 0 < esz ∧ ∀ ρ, z0.cells = (cellsL ρ ez).toArray ∧ (cellsL ρ ez).length = esz := by
  obtain ⟨i, z0, hu, hi, hz, hzs, hsz, h0, hby⟩ := sli_ok hT h
  refine ⟨i, z0, hu, hi, hz, by omega, fun ρ => ?_⟩
  have hzc : z0.cells = (cellsL ρ ez).toArray := by
    obtain ⟨-, -, -, -, -, hzz⟩ := sh_ok hT h
    have := (hzz ρ).1
    rw [hi] at this
    simpa [hz] using this
  refine ⟨hzc, ?_⟩
  have : z0.cells.size = (cellsL ρ ez).length := by rw [hzc]; simp
  omega
theorem oClr_ok {O : Oper → List SV → List Blk → (List SV → List Blk → Prop) → Prop} (hO : OOk P O) : OOk P (oClr T O) := by
  intro o tm hp K h N w0 a w next Q hr hn
  unfold oClr at h
  split at h
  · rename_i c hop
    split at h
    · rename_i s t hce hargs htys
      split at h
      · rename_i sz ag z e esz ez eq b off n cap hl hTt hs
        split at h
        · rename_i ty cs tl hb
          obtain ⟨h1, A, m, B, rfl, rfl, hm, h⟩ := h
          obtain ⟨i, z0, hu, hi, hz, hpos, hzc⟩ := zero_cells hT hTt
          obtain ⟨ρ0, hh, htm, hd⟩ := hr
          have hev : ∀ ρ, Agr (nthO hp) ρ ρ0 → a.eval = evr (evm tm) ρ := fun ρ hρ => eval_ok (htm ρ hρ)
          have hev0 := hev ρ0 (Agr.refl _ _)
          rw [updK_eq, putK_eq] at h
          have hH := hh.holds ρ0 (Agr.refl _ _) b _ hb
          have h0 := (hH.2 rfl).1
          have hsv : a.eval s = .slice (some ⟨(ρ0 b).1, sizeC A, none⟩) n cap := by
            rw [hev0]; show (evm tm s).den ρ0 = _; rw [hs]; simp [SV.den, C.den, C.cells, nlA, h0]
          have hezl := (hzc ρ0).2
          have hlen : (cellsL ρ0 (repC n ez)).length = sizeC m := by rw [cellsL_repC_length, hezl, hm]
          have hrep : ∀ ρ, cellsL ρ (repC n ez) = cellsL ρ0 (repC n ez) := fun ρ => by
            have e : cellsL ρ ez = cellsL ρ0 ez := by
              have := (hzc ρ).1
              rw [(hzc ρ0).1] at this
              exact (congrArg Array.toList this).symm
            have : ∀ k, cellsL ρ (repC k ez) = cellsL ρ0 (repC k ez) := fun k => by
              induction k with
              | zero => rfl
              | succ k ih => rw [repC, cellsL_append, cellsL_append, e, ih]
            exact this n
          have hzl : (Builtin.zeroCells z0.cells n).toList = cellsL ρ0 (repC n ez) := by
            rw [(hzc ρ0).1]
            apply List.ext_getElem?
            intro j
            by_cases hj : j < n * (cellsL ρ0 ez).length
            · rw [cellsL_repC ρ0 ez n j hj]
              have hmod : j % (cellsL ρ0 ez).length < (cellsL ρ0 ez).length := Nat.mod_lt _ (by omega)
              simp only [Builtin.zeroCells, Array.toList_map, Array.toList_range, List.size_toArray, List.getElem?_map, List.getElem?_range hj, Option.map_some]
              rw [List.getElem?_eq_getElem hmod]
              simp [getElem!_pos, hmod]
            · rw [List.getElem?_eq_none (by simp [Builtin.zeroCells]; omega), List.getElem?_eq_none (by rw [cellsL_repC_length]; omega)]
          have hone : ∀ v ∈ cellsL ρ0 (repC n ez), v.oneCell' = true := by
            have h2 := allOne_of ρ0 h1
            have : ∀ k, ∀ v ∈ cellsL ρ0 (repC k ez), v.oneCell' = true := fun k => by
              induction k with
              | zero => intro v hv; simp [repC, cellsL] at hv
              | succ k ih =>
                intro v hv
                rw [repC, cellsL_append] at hv
                rcases List.mem_append.1 hv with hv | hv
                · exact h2 v hv
                · exact ih v hv
            exact this n
          have hrun : (Builtin.clear_ #[t] o.type #[.slice (some ⟨(ρ0 b).1, sizeC A, none⟩) n cap]).run P w = .ok (.tuple #[]) (w.setCells (ρ0 b).1 (sizeC A) (cellsL ρ0 (repC n ez))) := by
            rcases Nat.eq_zero_or_pos n with hm0 | hm0
            · subst hm0
              simp [Builtin.clear_, run_underlying hu, World.setCells, repC, cellsL]
            · obtain ⟨-, t0, ht0, hheap⟩ := hH.2 rfl
              have hcell : ∀ j, j < sizeC m → ∃ u, w.cell? ⟨(ρ0 b).1, sizeC A + j, none⟩ = some u := fun j hj => by
                rw [cell_of_row _ _ _ _ _ _ hheap]
                simp only [List.getElem?_toArray]
                have hlen : sizeC A + j < (cellsL ρ0 (A ++ (m ++ B)) ++ t0).length := by rw [List.length_append, ← sizeC_eq, sizeC_append, sizeC_append]; omega
                exact ⟨_, List.getElem?_eq_getElem hlen⟩
              refine run_clear_gen w t e o.type z0 _ hu (fun w => ?_) _ _ _ _ hm0 hzl hone (fun j hj => ?_) (fun j hj => frozen_of_row _ _ _ _ _ hheap)
              · simp [zeroValue, typeInfo, hi, hz]
              · obtain ⟨u, hu'⟩ := hcell j (by rw [← hlen]; exact hj); rw [hu']; rfl
          refine wp_clear_sx hop hce hargs htys (by rw [hsv]; exact hrun) (hn _ _ _ _ h (RelS.put (ρ1 := ρ0) htm hd ?_ (fun j hj => ?_) o.dst fun ρ hρ => rfl))
          · rw [nthO_set _ _ _ _ hb]
            exact hh.put (blk := ⟨ty, false, A ++ (m ++ B), tl⟩) hb rfl fun ρ hρ => by
              have hbb : ρ b = ρ0 b := hρ b (by rw [hb]; rfl)
              obtain ⟨t1, ht1, hk⟩ := own_splice (hh.holds ρ hρ b _ hb) hlen
              rw [hbb] at hk
              refine ⟨t1, ht1, ?_⟩
              rw [hk, cellsL_append, cellsL_append, hrep ρ]
          · rw [nthO_set _ _ _ _ hb]
            refine ⟨?_, rfl⟩
            unfold upF; split; rfl; exact hj
        · cases h
      · cases h
    · exact hO o tm hp K h hr hn
  · exact hO o tm hp K h hr hn
end
end Go.Proofs.YtdjpbccaglkafaaDoor
