/- Refining what does not fit, one group after the other: plain words. -/
import Derived.Test.YthmdmbpecgakkaaDoorVW4
namespace Go.Proofs.YthmdmbpecgakkaaDoor
open Go.RowKit
set_option maxRecDepth 100000

open Classical in
/-- what a cut shows, nothing if it is not one of a sound graph -/
noncomputable def shnL (CL : List CU) (L : List GU) (CT : List Bool) : List Nat := if VldP CL L CT then shwL CL CT CL.length else []
theorem shn_yes {CL : List CU} {L : List GU} {CT : List Bool} (h : VldP CL L CT) : shnL CL L CT = shwL CL CT CL.length := if_pos h
theorem shn_no {CL : List CU} {L : List GU} {CT : List Bool} (h : ¬ VldP CL L CT) : shnL CL L CT = [] := if_neg h
theorem shn_eq {CL : List CU} {L : List GU} {CT : List Bool} {is : List Nat} (h1 : VldP CL L CT → is = shwL CL CT CL.length) (h0 : ¬ VldP CL L CT → is = []) : is = shnL CL L CT := by
  by_cases hv : VldP CL L CT
  · rw [h1 hv, shn_yes hv]
  · rw [h0 hv, shn_no hv]
noncomputable def bdL (CL : List CU) (L : List GU) (v : VW) (CT : List Bool) : List SN := badL CL L v (shnL CL L CT)
/-- refined until all that is shown fits -/
inductive ChS (CL : List CU) (L : List GU) (v : VW) : List Bool → List Bool → Prop
  | stop {CT : List Bool} (h : bdL CL L v CT = []) : ChS CL L v CT CT
  | step {CT R : List Bool} (h : bdL CL L v CT ≠ []) (hr : ChS CL L v (refV CL L CT (fstL (bdL CL L v CT)).made.toNat) R) : ChS CL L v CT R
theorem betL_mem : ∀ (l : List SN) (o : SN), betL o l = o ∨ betL o l ∈ l
  | [], o => .inl rfl
  | x :: l, o => by
    show betL (if wrsB x o = true then x else o) l = o ∨ betL (if wrsB x o = true then x else o) l ∈ x :: l
    split
    · rcases betL_mem l x with h | h
      · rw [h]; exact .inr List.mem_cons_self
      · exact .inr (List.mem_cons_of_mem _ h)
    · rcases betL_mem l o with h | h
      · exact .inl h
      · exact .inr (List.mem_cons_of_mem _ h)
theorem fstL_mem {l : List SN} (h : l ≠ []) : fstL l ∈ l := by
  cases l with
  | nil => exact absurd rfl h
  | cons x l =>
    rcases betL_mem l x with e | e
    · show betL x l ∈ _; rw [e]; exact List.mem_cons_self
    · exact List.mem_cons_of_mem _ e
theorem badL_mem {CL : List CU} {L : List GU} {v : VW} : ∀ {l : List Nat} {s : SN}, s ∈ badL CL L v l → ∃ i ∈ l, ∃ c, CL[i]? = some c ∧ badS (seen L v c) = true ∧ s = seen L v c
  | [], s, h => by cases h
  | i :: l, s, h => by
    rw [badL] at h
    rcases List.mem_append.1 h with h | h
    · split at h
      · rename_i c hc
        split at h
        · rename_i hb
          rw [List.mem_singleton] at h
          exact ⟨i, List.mem_cons_self, c, hc, hb, h⟩
        · cases h
      · cases h
    · obtain ⟨j, hj, h⟩ := badL_mem h
      exact ⟨j, List.mem_cons_of_mem _ hj, h⟩
theorem shwL_mem {CL : List CU} {CT : List Bool} : ∀ {n i : Nat}, i ∈ shwL CL CT n → ∃ c, CL[i]? = some c ∧ showB CT c = true
  | 0, i, h => by cases h
  | n + 1, i, h => by
    rw [shwL] at h
    rcases List.mem_append.1 h with h | h
    · exact shwL_mem h
    · split at h
      · rename_i c hc
        split at h
        · rename_i hb
          rw [List.mem_singleton] at h
          subst h
          exact ⟨c, hc, hb⟩
        · cases h
      · cases h
theorem seen_made (L : List GU) (v : VW) (c : CU) : (seen L v c).made = c.made := by
  unfold seen; split <;> rfl
/-- what does not fit was made by a group that is applied -/
theorem bd_made {CL : List CU} {L : List GU} {v : VW} {CT : List Bool} (h : bdL CL L v CT ≠ []) : VldP CL L CT ∧ 0 ≤ (fstL (bdL CL L v CT)).made ∧ (fstL (bdL CL L v CT)).made < (CT.length : Nat) ∧ CT[(fstL (bdL CL L v CT)).made.toNat]? = some true := by
  have hv : VldP CL L CT := by
    by_cases hv : VldP CL L CT
    · exact hv
    · exact absurd (show badL CL L v (shnL CL L CT) = [] by rw [shn_no hv]; rfl) h
  refine ⟨hv, ?_⟩
  have hm := fstL_mem h
  obtain ⟨i, hi, c, hc, hb, hs⟩ := badL_mem (show fstL (bdL CL L v CT) ∈ badL CL L v (shnL CL L CT) from hm)
  rw [shn_yes hv] at hi
  obtain ⟨c', hc', hsh⟩ := shwL_mem hi
  rw [hc] at hc'; cases hc'
  have e : (fstL (bdL CL L v CT)).made = c.made := by rw [hs, seen_made]
  rw [e]
  unfold badS at hb
  rw [seen_made] at hb
  simp only [Bool.and_eq_true, decide_eq_true_eq] at hb
  have h0 := hb.2
  have hlt := (made_lt hv.1.1 (List.mem_of_getElem? hc)).1
  refine ⟨h0, by rw [hv.2.1]; exact hlt, ?_⟩
  have hl : c.made.toNat < CT.length := by rw [hv.2.1]; omega
  unfold showB at hsh
  simp only [Bool.and_eq_true, Bool.or_eq_true, decide_eq_true_eq] at hsh
  have h1 : ctAt CT c.made = true := hsh.1.resolve_left (by omega)
  unfold ctAt at h1
  rw [List.getElem?_eq_getElem hl] at h1 ⊢
  rw [show CT[c.made.toNat] = true from h1]
/-! each refinement takes something back -/
theorem cnt_set_le {o : List Bool} {k : Nat} {b : Bool} (h : b = true → o.getD k false = true) : (o.set k b).count true ≤ o.count true := by
  induction o generalizing k with
  | nil => exact Nat.le_refl _
  | cons x o ih =>
    cases k with
    | zero =>
      rw [List.set_cons_zero, List.count_cons, List.count_cons]
      cases b with
      | false => simp
      | true =>
        have : x = true := by simpa using h rfl
        rw [this]; exact Nat.le_refl _
    | succ k =>
      rw [List.set_cons_succ, List.count_cons, List.count_cons]
      have := ih (k := k) (fun hb => by have := h hb; simpa using this)
      omega
theorem cnt_stepZ (k : Nat) (o : List Bool) (z : ZV) : (stepZ k o z).count true ≤ o.count true := cnt_set_le fun h => by
  rw [Bool.and_eq_true] at h
  exact h.1
theorem cnt_fold (k : Nat) : ∀ (l : List ZV) (o : List Bool), (l.foldl (stepZ k) o).count true ≤ o.count true
  | [], _ => Nat.le_refl _
  | z :: l, o => Nat.le_trans (cnt_fold k l _) (cnt_stepZ k o z)
theorem cnt_set_lt {o : List Bool} {k : Nat} (h : o[k]? = some true) : (o.set k false).count true < o.count true := by
  induction o generalizing k with
  | nil => cases h
  | cons x o ih =>
    cases k with
    | zero =>
      have : x = true := by simpa using h
      rw [List.set_cons_zero, List.count_cons, List.count_cons, this]; simp
    | succ k =>
      rw [List.set_cons_succ, List.count_cons, List.count_cons]
      have := ih (k := k) (by simpa using h)
      omega
theorem cnt_refUp (CL : List CU) (L : List GU) (CT : List Bool) (m : Nat) : ∀ i, (refUp CL L CT m i).count true ≤ (CT.set m false).count true
  | 0 => Nat.le_refl _
  | i + 1 => by
    refine Nat.le_trans ?_ (cnt_refUp CL L CT m i)
    rw [refUp, stepG]
    split
    · exact cnt_fold _ _ _
    · exact Nat.le_refl _
theorem cnt_refV {CL : List CU} {L : List GU} {CT : List Bool} {m : Nat} (h : CT[m]? = some true) : (refV CL L CT m).count true < CT.count true := Nat.lt_of_le_of_lt (cnt_refUp CL L CT m _) (cnt_set_lt h)
theorem refV_len (CL : List CU) (L : List GU) (CT : List Bool) (m : Nat) : (refV CL L CT m).length = CT.length := refUp_len CL L CT m _
/-- so many applied, then not -/
def trues (k n : Nat) : List Bool := List.replicate k true ++ List.replicate (n - k) false
theorem trues_len {k n : Nat} (h : k ≤ n) : (trues k n).length = n := by unfold trues; simp; omega
theorem trues_set {k n : Nat} (h : k < n) : (trues k n).set k true = trues (k + 1) n := by
  unfold trues
  obtain ⟨j, hj⟩ : ∃ j, n - k = j + 1 := ⟨n - k - 1, by omega⟩
  rw [hj, List.set_append_right _ _ (by simp), show n - (k + 1) = j by omega]
  simp only [List.length_replicate, Nat.sub_self, List.replicate_succ, List.set_cons_zero]
  rw [← List.replicate_succ, List.replicate_succ', List.append_assoc]; rfl
theorem trues_all (n : Nat) : trues n n = List.replicate n true := by unfold trues; simp
end Go.Proofs.YthmdmbpecgakkaaDoor
