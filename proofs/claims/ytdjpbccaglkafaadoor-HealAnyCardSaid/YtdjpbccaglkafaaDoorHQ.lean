/- law 05: the frame of the laws that make polygons. -/
import Derived.Test.YtdjpbccaglkafaaDoorH5R
namespace Go.Proofs.YtdjpbccaglkafaaDoor
open Go.RowKit
set_option maxRecDepth 100000

def plX : List (FuncId × NewC) := (13, cPolys) :: healX
theorem plX_ok : AllX Tryd.prog plX := .cons csPolys healX_ok
/-- calls: an empty family, freezing, functions over families, the others -/
def hLX (x l : List (FuncId × NewC)) (E : Env) := hfam0 (hfz (hnewX x (mix l E noF 0)) 4)
theorem hLX_ok {x l : List (FuncId × NewC)} (hx : AllX Tryd.prog x) (hl : AllC Tryd.prog l) {E : Env} (hE : EOk Tryd.prog E) : HOk Tryd.prog (hLX x l E) := hfam0_ok (hfz_ok (hnewX_ok hx (mix_ok hl hE mixed noF_ok 0)) 4)
theorem poly_less (st : SH) (p : PY) (h : p.len ≤ 8) : (polyT st p).out.length + (polyT st p).bad.length ≤ st.out.length + st.bad.length + 8 := by
  unfold polyT
  split
  · show st.out.length + (st.bad ++ [_]).length ≤ _; rw [List.length_append]; simp; omega
  · rw [fan_len]
    have h1 := clean_len p.cor
    have h2 : p.cor.length ≤ p.len := by unfold PY.cor; rw [List.length_take]; omega
    omega
theorem fold_less : ∀ (l : List PY) (st : SH), (∀ p ∈ l, p.len ≤ 8) → (l.foldl polyT st).out.length + (l.foldl polyT st).bad.length ≤ st.out.length + st.bad.length + 8 * l.length
  | [], _, _ => by simp
  | p :: l, st, h => by
    have h1 := poly_less st p (h p List.mem_cons_self)
    have h2 := fold_less l (polyT st p) fun q hq => h q (List.mem_cons_of_mem _ hq)
    simp only [List.foldl_cons, List.length_cons]; omega
theorem heal_less (l : List PY) (h : ∀ p ∈ l, p.len ≤ 8) : (healT l).out.length + (healT l).bad.length ≤ 8 * l.length := by
  have := fold_less l ⟨[], []⟩ h; simpa [healT] using this
theorem ir_m {k n : Nat} (h : k ≤ n) (hn : n ≤ 1000000) : IR (k : Nat) := by unfold IR; omega
theorem subC_sub {l m r : List C} {i n o k : Nat} (h1 : subC l i n = some m) (h2 : subC m o k = some r) : subC l (i + o) k = some r := by
  obtain ⟨a, b, rfl, e1, _⟩ := subC_spec h1
  obtain ⟨x, y, rfl, e2, e3⟩ := subC_spec h2
  have e : a ++ (x ++ (r ++ y) ++ b) = (a ++ x) ++ (r ++ (y ++ b)) := by simp [List.append_assoc]
  rw [e, ← e1, ← e2, ← e3, ← sizeC_append]
  exact subC_app _ _ _
theorem subC_pt (l : List TR) {k : Nat} (hk : k < l.length) (o : Nat) {r : List C} (h : subC (trC l[k]) o 3 = some r) : subC (trsC l) (0 + k * 9 + o) 3 = some r := by
  rw [Nat.zero_add]
  exact subC_sub (subC_trs l hk) h
end Go.Proofs.YtdjpbccaglkafaaDoor
