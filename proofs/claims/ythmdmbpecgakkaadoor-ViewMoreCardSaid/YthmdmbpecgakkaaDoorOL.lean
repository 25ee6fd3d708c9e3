/- Lists of the call's own, of whatever elements. -/
import Derived.Test.YthmdmbpecgakkaaDoorIta
import Derived.Test.YthmdmbpecgakkaaDoorRead
import Derived.Test.YthmdmbpecgakkaaDoorHelp
namespace Go.Proofs.YthmdmbpecgakkaaDoor
open Go.RowKit
set_option maxRecDepth 100000

/-- what an element's cells are -/
structure RW (α : Type) where
  c : α → List C
  n : Nat
  sz : ∀ a, sizeC (c a) = n
  pure : ∀ a, PureL (c a)
  one : ∀ a, allOne (c a) = true
variable {α : Type}
def rwC (R : RW α) : List α → List C
  | [] => []
  | a :: l => R.c a ++ rwC R l
theorem rwC_size (R : RW α) : ∀ l : List α, sizeC (rwC R l) = l.length * R.n
  | [] => (Nat.zero_mul _).symm
  | a :: l => by rw [rwC, sizeC_append, rwC_size R l, R.sz, List.length_cons, Nat.add_mul, Nat.one_mul, Nat.add_comm]
theorem rwC_append (R : RW α) : ∀ a b : List α, rwC R (a ++ b) = rwC R a ++ rwC R b
  | [], _ => rfl
  | x :: a, b => by rw [List.cons_append, rwC, rwC_append R a b, rwC, List.append_assoc]
theorem pureL_apx {a b : List C} (h : PureL a) (k : PureL b) : PureL (a ++ b) := fun ρ ρ' => by
  rw [List.flatMap_append, List.flatMap_append, h ρ ρ', k ρ ρ']
theorem rwC_pure (R : RW α) : ∀ l : List α, PureL (rwC R l)
  | [] => fun _ _ => rfl
  | a :: l => pureL_apx (R.pure a) (rwC_pure R l)
theorem rwC_one (R : RW α) : ∀ l : List α, allOne (rwC R l) = true
  | [] => rfl
  | a :: l => by rw [rwC, allOne_append, R.one, rwC_one R l]; rfl
theorem rwC_split (R : RW α) {l : List α} {k : Nat} (hk : k < l.length) : rwC R l = rwC R (l.take k) ++ (R.c l[k] ++ rwC R (l.drop (k + 1))) := by
  have h : l = l.take k ++ (l[k] :: l.drop (k + 1)) := by rw [← List.drop_eq_getElem_cons hk, List.take_append_drop]
  rw [show rwC R l = rwC R (l.take k ++ (l[k] :: l.drop (k + 1))) by rw [← h], rwC_append]
  rfl
theorem rwC_takesz (R : RW α) {l : List α} {k : Nat} (hk : k ≤ l.length) : sizeC (rwC R (l.take k)) = k * R.n := by
  rw [rwC_size, List.length_take, Nat.min_eq_left hk]
/-- the element at a place -/
theorem subC_rw (R : RW α) (l : List α) {k : Nat} (hk : k < l.length) : subC (rwC R l) (0 + k * R.n) R.n = some (R.c l[k]) := by
  rw [rwC_split R hk, Nat.zero_add, ← rwC_takesz R (Nat.le_of_lt hk)]
  have h := subC_app (rwC R (l.take k)) (R.c l[k]) (rwC R (l.drop (k + 1)))
  rw [R.sz] at h
  exact h
theorem subC_in {l m r : List C} {i n o k : Nat} (h1 : subC l i n = some m) (h2 : subC m o k = some r) : subC l (i + o) k = some r := by
  obtain ⟨a, b, rfl, e1, _⟩ := subC_spec h1
  obtain ⟨x, y, rfl, e2, e3⟩ := subC_spec h2
  have e : a ++ (x ++ (r ++ y) ++ b) = (a ++ x) ++ (r ++ (y ++ b)) := by simp [List.append_assoc]
  rw [e, ← e1, ← e2, ← e3, ← sizeC_append]
  exact subC_app _ _ _
/-- a part of the element at a place -/
theorem subC_rwp (R : RW α) (l : List α) {k : Nat} (hk : k < l.length) (o n : Nat) {r : List C} (h : subC (R.c l[k]) o n = some r) : subC (rwC R l) (0 + k * R.n + o) n = some r := subC_in (subC_rw R l hk) h
theorem subC_rw_take (R : RW α) (l : List α) {k : Nat} (hk : k ≤ l.length) : subC (rwC R l) 0 (k * R.n) = some (rwC R (l.take k)) := by
  have h := subC_app [] (rwC R (l.take k)) (rwC R (l.drop k))
  rw [rwC_takesz R hk, List.nil_append, ← rwC_append, List.take_append_drop] at h
  exact h
theorem subC_rw_all (R : RW α) (l : List α) : subC (rwC R l) 0 (l.length * R.n) = some (rwC R l) := by
  have h := subC_rw_take R l (Nat.le_refl _)
  rwa [List.take_length] at h
/-- an element written anew -/
theorem putC_rw (R : RW α) (l : List α) {k : Nat} (hk : k < l.length) (a : α) : putC (rwC R l) (0 + k * R.n) (R.c a) = some (rwC R (l.set k a)) := by
  unfold putC
  have e := rwC_split R hk
  have s : sizeC (rwC R (l.take k)) = 0 + k * R.n := by rw [rwC_takesz R (Nat.le_of_lt hk), Nat.zero_add]
  rw [e, ← s, spliceC_app (rwC R (l.take k)) (R.c l[k]) (rwC R (l.drop (k + 1))) (R.c a) ((R.sz a).trans (R.sz l[k]).symm), List.set_eq_take_append_cons_drop, if_pos hk, rwC_append]
  rfl
theorem spliceC_rw (R : RW α) (l : List α) {k : Nat} (hk : k < l.length) (a : α) : spliceC (rwC R l) (0 + k * R.n) (R.c a) = some (rwC R (l.set k a)) := by
  have e := rwC_split R hk
  have s : sizeC (rwC R (l.take k)) = 0 + k * R.n := by rw [rwC_takesz R (Nat.le_of_lt hk), Nat.zero_add]
  rw [e, ← s, spliceC_app (rwC R (l.take k)) (R.c l[k]) (rwC R (l.drop (k + 1))) (R.c a) ((R.sz a).trans (R.sz l[k]).symm), List.set_eq_take_append_cons_drop, if_pos hk, rwC_append]
  rfl
/-- a list of the call's own -/
structure OL (α : Type) where
  l : List α
  nl : Bool
  cap : Nat
  ok : SliOk nl l.length cap
def OL.sl (o : OL α) (b : Nat) : SV := .c (.sli o.nl b 0 o.l.length o.cap o.ok)
def OL.t (o : OL α) (b : Nat) : T1 := .c (.sli o.nl b 0 o.l.length o.cap o.ok)
def OL.ch (o : OL α) (b : Nat) : C := .sli o.nl b 0 o.l.length o.cap o.ok
def OL.blk (o : OL α) (R : RW α) (t : TypeId) : Blk := ⟨.t t, o.nl, rwC R o.l, (o.cap - o.l.length) * R.n⟩
def OL.none : OL α := ⟨[], true, 0, Nat.le_refl _, by decide, fun _ => rfl⟩
theorem OL.new (o : OL α) (R : RW α) (t : TypeId) : NewB (o.blk R t) := by
  refine ⟨rwC_pure R o.l, ?_⟩
  cases h : o.nl with
  | false => exact .inl h
  | true =>
    right
    have h1 := o.ok.1; have h2 := o.ok.2.2 h
    have : o.l = [] := List.eq_nil_of_length_eq_zero (by omega)
    unfold OL.blk Blk.void
    rw [h, this]; rfl
theorem OL.app (o : OL α) (R : RW α) (t : TypeId) {m lim : Nat} (hm : (o.l.length + m) * R.n ≤ lim) : TyX.t t = .t t ∧ o.nl = o.nl ∧ sizeC (rwC R o.l) = o.l.length * R.n ∧ (o.nl = false → sizeC (rwC R o.l) + (o.cap - o.l.length) * R.n = o.cap * R.n) ∧ (o.l.length + m) * R.n ≤ lim := by
  have h1 : sizeC (rwC R o.l) = o.l.length * R.n := rwC_size R o.l
  refine ⟨rfl, rfl, h1, fun _ => ?_, hm⟩
  rw [h1, ← Nat.add_mul]
  have := o.ok.1
  congr 1; omega
def OL.push (o : OL α) (m : List α) {n : Nat} (hn : m.length = n) (cap2 : Nat) (h2 : SliOk (o.nl && decide (n = 0)) (o.l.length + n) cap2) : OL α := ⟨o.l ++ m, o.nl && decide (n = 0), cap2, by rw [List.length_append, hn]; exact h2⟩
theorem OL.push_sl (o : OL α) (m : List α) {n : Nat} (hn : m.length = n) (cap2 : Nat) (h2 : SliOk (o.nl && decide (n = 0)) (o.l.length + n) cap2) (b : Nat) (ρ : Rho) : (SV.c (.sli (o.nl && decide (n = 0)) b 0 (o.l.length + n) cap2 h2)).den ρ = ((o.push m hn cap2 h2).sl b).den ρ := by
  simp only [OL.sl, OL.push, SV.den, C.den, C.cells, List.length_append, hn]
theorem OL.push_blk (o : OL α) (R : RW α) (t : TypeId) (m : List α) {n : Nat} (hn : m.length = n) (cap2 : Nat) (h2 : SliOk (o.nl && decide (n = 0)) (o.l.length + n) cap2) {cs : List C} (hcs : ∀ ρ, cellsL ρ cs = cellsL ρ (rwC R m)) :
    TyX.t t = ((o.push m hn cap2 h2).blk R t).ty ∧ (o.nl && decide (n = 0)) = ((o.push m hn cap2 h2).blk R t).ro ∧ (cap2 - (o.l.length + n)) * R.n = ((o.push m hn cap2 h2).blk R t).tl ∧ ∀ ρ, cellsL ρ (rwC R o.l ++ cs) = cellsL ρ ((o.push m hn cap2 h2).blk R t).cs := by
  refine ⟨rfl, rfl, ?_, fun ρ => ?_⟩
  · simp only [OL.push, OL.blk, List.length_append, hn]
  · show _ = cellsL ρ (rwC R (o.l ++ m))
    rw [rwC_append, cellsL_append, cellsL_append, hcs]
/-- an element written anew -/
def OL.put (o : OL α) (k : Nat) (a : α) : OL α := ⟨o.l.set k a, o.nl, o.cap, by rw [List.length_set]; exact o.ok⟩
theorem OL.put_sl (o : OL α) (k : Nat) (a : α) (b : Nat) (ρ : Rho) : (o.sl b).den ρ = ((o.put k a).sl b).den ρ := by
  simp only [OL.sl, OL.put, SV.den, C.den, C.cells, List.length_set]
theorem OL.put_tl (o : OL α) (k : Nat) (a : α) (R : RW α) (t : TypeId) : (o.blk R t).tl = ((o.put k a).blk R t).tl := by
  simp only [OL.put, OL.blk, List.length_set]
/-- a made list: so many elements -/
def OL.made (l : List α) (nl : Bool) (cap : Nat) (ok : SliOk nl l.length cap) : OL α := ⟨l, nl, cap, ok⟩
end Go.Proofs.YthmdmbpecgakkaaDoor
