/- law 05: what is healed stays healed; what later polygons add (plain). -/
import Derived.Test.YtdjpbccaglkafaaDoorH5L
namespace Go.Proofs.YtdjpbccaglkafaaDoor
open Go.RowKit
set_option maxRecDepth 100000

/-- no triangle flat, no two alike -/
def CleanT (l : List TR) : Prop := ∀ k (h : k < l.length), flatT l[k] = false ∧ ∀ j (hj : j < k), alT l[k] (l[j]'(by omega)) = 0
theorem first_zero {t : TR} : ∀ {l : List TR}, firstAl t l = 0 → ∀ s ∈ l, alT t s = 0
  | [], _, s, hs => by cases hs
  | x :: l, h, s, hs => by
    unfold firstAl at h
    split at h
    · rename_i h0
      rcases List.mem_cons.1 hs with rfl | hs
      · exact h0
      · exact first_zero h s hs
    · rename_i h0; exact absurd h h0
theorem zero_first {t : TR} : ∀ {l : List TR}, (∀ s ∈ l, alT t s = 0) → firstAl t l = 0
  | [], _ => rfl
  | x :: l, h => by
    unfold firstAl
    rw [if_pos (h x List.mem_cons_self)]
    exact zero_first fun s hs => h s (List.mem_cons_of_mem _ hs)
theorem first_val (t : TR) : ∀ l : List TR, firstAl t l = 0 ∨ firstAl t l = 1 ∨ firstAl t l = 2
  | [] => .inl rfl
  | x :: l => by
    unfold firstAl
    split
    · exact first_val t l
    · exact al_val t x
theorem CleanT.nil : CleanT [] := fun k h => by simp at h
theorem CleanT.snoc {l : List TR} (h : CleanT l) {t : TR} (hf : flatT t = false) (h0 : firstAl t l = 0) : CleanT (l ++ [t]) := fun k hk => by
  rw [List.length_append] at hk
  by_cases hkl : k < l.length
  · rw [List.getElem_append_left hkl]
    refine ⟨(h k hkl).1, fun j hj => ?_⟩
    rw [List.getElem_append_left (by omega)]
    exact (h k hkl).2 j hj
  · obtain rfl : k = l.length := by simp at hk; omega
    rw [List.getElem_append_right (Nat.le_refl _)]
    simp only [Nat.sub_self, List.getElem_cons_zero]
    refine ⟨hf, fun j hj => ?_⟩
    rw [List.getElem_append_left hj]
    exact first_zero h0 _ (List.getElem_mem hj)
theorem step_clean {pl : Int} {hp : IR pl} {st : SH} {t : TR} (h : CleanT st.out) : CleanT (stepT pl hp st t).out := by
  unfold stepT
  split
  · exact h
  · rename_i hf
    split
    · exact h
    · rename_i h1
      split
      · exact h
      · rename_i h2
        refine h.snoc (by simpa using hf) ?_
        rcases first_val t st.out with h0 | h0 | h0
        · exact h0
        · exact absurd h0 h1
        · exact absurd h0 h2
theorem fan_clean {pl : Int} {hp : IR pl} {c : List PT} {st : SH} (h : CleanT st.out) : ∀ k, CleanT (fanT pl hp c st k).out
  | 0 => h
  | k + 1 => step_clean (fan_clean h k)
theorem poly_clean {st : SH} {p : PY} (h : CleanT st.out) : CleanT (polyT st p).out := by
  unfold polyT
  split
  · exact h
  · exact fan_clean h _
theorem fold_clean : ∀ (l : List PY) (st : SH), CleanT st.out → CleanT (l.foldl polyT st).out
  | [], _, h => h
  | _ :: l, _, h => fold_clean l _ (poly_clean h)
theorem heal_clean (l : List PY) : CleanT (healT l).out := fold_clean l _ CleanT.nil
/-- each polygon yields something -/
theorem poly_more (st : SH) (p : PY) : st.out.length + st.bad.length + 1 ≤ (polyT st p).out.length + (polyT st p).bad.length := by
  unfold polyT
  split
  · show _ ≤ st.out.length + (st.bad ++ [_]).length; rw [List.length_append]; simp; omega
  · have := fan_len p.pl p.hp (cleanP p.cor) st ((cleanP p.cor).length - 2); omega
theorem fold_more : ∀ (l : List PY) (st : SH), st.out.length + st.bad.length + l.length ≤ (l.foldl polyT st).out.length + (l.foldl polyT st).bad.length
  | [], _ => by simp
  | p :: l, st => by
    have h1 := poly_more st p
    have h2 := fold_more l (polyT st p)
    simp only [List.foldl_cons, List.length_cons]; omega
theorem heal_more (l : List PY) : l.length ≤ (healT l).out.length + (healT l).bad.length := by
  have := fold_more l ⟨[], []⟩; simpa [healT] using this
/-- a clean list healed again -/
theorem step_again {pl : Int} {hp : IR pl} {l : List TR} (h : CleanT l) {k : Nat} (hk : k < l.length) {b : List FT} : stepT pl hp ⟨l.take k, b⟩ l[k] = ⟨l.take (k + 1), b⟩ := by
  have h0 : firstAl l[k] (l.take k) = 0 := zero_first fun s hs => by
    obtain ⟨j, hj, e⟩ := List.mem_iff_getElem.1 hs
    rw [List.length_take] at hj
    rw [← e, List.getElem_take]
    exact (h k hk).2 j (by omega)
  unfold stepT
  rw [(h k hk).1, if_neg (by decide)]
  show (if firstAl l[k] (l.take k) = 1 then _ else if firstAl l[k] (l.take k) = 2 then _ else _) = _
  rw [h0, if_neg (by decide), if_neg (by decide), List.take_succ_eq_append_getElem hk]
/-- what polygons add -/
theorem step_ext {pl : Int} {hp : IR pl} {st : SH} {t : TR} : (∃ m, (stepT pl hp st t).out = st.out ++ m) ∧ ∃ m, (stepT pl hp st t).bad = st.bad ++ m := by
  unfold stepT
  (repeat' split) <;> first | exact ⟨⟨[], by simp [SH.fault]⟩, ⟨_, rfl⟩⟩ | exact ⟨⟨_, rfl⟩, ⟨[], by simp⟩⟩
theorem fan_ext {pl : Int} {hp : IR pl} {c : List PT} {st : SH} : ∀ k, (∃ m, (fanT pl hp c st k).out = st.out ++ m) ∧ ∃ m, (fanT pl hp c st k).bad = st.bad ++ m
  | 0 => ⟨⟨[], by simp [fanT]⟩, ⟨[], by simp [fanT]⟩⟩
  | k + 1 => by
    obtain ⟨⟨m1, h1⟩, ⟨n1, g1⟩⟩ := fan_ext (pl := pl) (hp := hp) (c := c) (st := st) k
    obtain ⟨⟨m2, h2⟩, ⟨n2, g2⟩⟩ := step_ext (pl := pl) (hp := hp) (st := fanT pl hp c st k) (t := triK c k)
    exact ⟨⟨m1 ++ m2, by rw [fanT, h2, h1, List.append_assoc]⟩, ⟨n1 ++ n2, by rw [fanT, g2, g1, List.append_assoc]⟩⟩
theorem poly_ext (st : SH) (p : PY) : (∃ m, (polyT st p).out = st.out ++ m) ∧ ∃ m, (polyT st p).bad = st.bad ++ m := by
  unfold polyT
  split
  · exact ⟨⟨[], by simp [SH.fault]⟩, ⟨_, rfl⟩⟩
  · exact fan_ext _
theorem fold_ext : ∀ (l : List PY) (st : SH), (∃ m, (l.foldl polyT st).out = st.out ++ m) ∧ ∃ m, (l.foldl polyT st).bad = st.bad ++ m
  | [], _ => ⟨⟨[], by simp⟩, ⟨[], by simp⟩⟩
  | p :: l, st => by
    obtain ⟨⟨m1, h1⟩, ⟨n1, g1⟩⟩ := poly_ext st p
    obtain ⟨⟨m2, h2⟩, ⟨n2, g2⟩⟩ := fold_ext l (polyT st p)
    exact ⟨⟨m1 ++ m2, by rw [List.foldl_cons, h2, h1, List.append_assoc]⟩, ⟨n1 ++ n2, by rw [List.foldl_cons, g2, g1, List.append_assoc]⟩⟩
theorem heal_app (a b : List PY) : (∃ m, (healT (a ++ b)).out = (healT a).out ++ m) ∧ ∃ m, (healT (a ++ b)).bad = (healT a).bad ++ m := by
  unfold healT
  rw [List.foldl_append]
  exact fold_ext b _
end Go.Proofs.YtdjpbccaglkafaaDoor
