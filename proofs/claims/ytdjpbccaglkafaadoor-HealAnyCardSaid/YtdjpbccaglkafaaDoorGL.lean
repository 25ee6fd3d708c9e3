/- Lists of points, faults, polygons, of the walk's own or only read. -/
import Derived.Test.YtdjpbccaglkafaaDoorHealQ
import Derived.Test.YtdjpbccaglkafaaDoorFam
import Derived.Test.YtdjpbccaglkafaaDoorSxMap
import Derived.Test.YtdjpbccaglkafaaDoorHelp
namespace Go.Proofs.YtdjpbccaglkafaaDoor
open Go.RowKit
set_option maxRecDepth 100000

def PT.v (p : PT) : V3 := ⟨p.x, p.y, p.z⟩
/-- a list of triangles of the call's own -/
structure OT where
  l : List TR
  nl : Bool
  cap : Nat
  ok : SliOk nl l.length cap
def OT.sl (o : OT) (b : Nat) : SV := .c (.sli o.nl b 0 o.l.length o.cap o.ok)
def OT.blk (o : OT) : Blk := ⟨45, o.nl, trsC o.l, (o.cap - o.l.length) * 9⟩
def OT.none : OT := ⟨[], true, 0, by unfold SliOk; decide⟩
theorem OT.new (o : OT) : NewB o.blk := by
  refine ⟨trsC_pure o.l, ?_⟩
  cases h : o.nl with
  | false => exact .inl h
  | true =>
    right
    have h1 := o.ok.1; have h2 := o.ok.2.2 h
    have : o.l = [] := List.eq_nil_of_length_eq_zero (by omega)
    unfold OT.blk Blk.void
    rw [h, this]; rfl
theorem OT.app (o : OT) {m : Nat} (hm : (o.l.length + m) * 9 ≤ 5000000000000) : o.blk.ty = 45 ∧ o.blk.ro = o.nl ∧ sizeC o.blk.cs = o.l.length * 9 ∧ (o.nl = false → sizeC o.blk.cs + o.blk.tl = o.cap * 9) ∧ (o.l.length + m) * 9 ≤ 5000000000000 := by
  have h1 : sizeC o.blk.cs = o.l.length * 9 := by show sizeC (trsC o.l) = _; rw [trsC_size]; omega
  refine ⟨rfl, rfl, h1, fun _ => ?_, hm⟩
  rw [h1]
  show o.l.length * 9 + (o.cap - o.l.length) * 9 = o.cap * 9
  have := o.ok.1
  omega
def OT.push (o : OT) (m : List TR) {n : Nat} (hn : m.length = n) (cap2 : Nat) (h2 : SliOk (o.nl && decide (n = 0)) (o.l.length + n) cap2) : OT := ⟨o.l ++ m, o.nl && decide (n = 0), cap2, by rw [List.length_append, hn]; exact h2⟩
theorem OT.push_sl (o : OT) (m : List TR) {n : Nat} (hn : m.length = n) (cap2 : Nat) (h2 : SliOk (o.nl && decide (n = 0)) (o.l.length + n) cap2) (b : Nat) (ρ : Rho) : (SV.c (.sli (o.nl && decide (n = 0)) b 0 (o.l.length + n) cap2 h2)).den ρ = ((o.push m hn cap2 h2).sl b).den ρ := by
  simp only [OT.sl, OT.push, SV.den, C.den, C.cells, List.length_append, hn]
theorem OT.push_blk (o : OT) (m : List TR) {n : Nat} (hn : m.length = n) (cap2 : Nat) (h2 : SliOk (o.nl && decide (n = 0)) (o.l.length + n) cap2) {cs : List C} (hcs : ∀ ρ, cellsL ρ cs = cellsL ρ (trsC m)) :
    45 = (o.push m hn cap2 h2).blk.ty ∧ (o.nl && decide (n = 0)) = (o.push m hn cap2 h2).blk.ro ∧ (cap2 - (o.l.length + n)) * 9 = (o.push m hn cap2 h2).blk.tl ∧ ∀ ρ, cellsL ρ (trsC o.l ++ cs) = cellsL ρ (o.push m hn cap2 h2).blk.cs := by
  refine ⟨rfl, rfl, ?_, fun ρ => ?_⟩
  · simp only [OT.push, OT.blk, List.length_append, hn]
  · show _ = cellsL ρ (trsC (o.l ++ m))
    rw [trsC_append, cellsL_append, cellsL_append, hcs]
theorem subC_trs_all (l : List TR) : subC (trsC l) 0 (l.length * 9) = some (trsC l) := by
  have h := subC_app [] (trsC l) []
  rw [trsC_size, List.append_nil, List.nil_append, Nat.mul_comm] at h
  exact h
theorem OT.src (o : OT) : subC o.blk.cs 0 (o.l.length * 9) = some (trsC o.l) := subC_trs_all o.l
def ptsC : List PT → List C
  | [] => []
  | p :: l => ptC p ++ ptsC l
theorem ptsC_size : ∀ l : List PT, sizeC (ptsC l) = 3 * l.length
  | [] => rfl
  | _ :: l => by rw [ptsC, sizeC_append, ptsC_size l, List.length_cons]; show 3 + _ = _; omega
theorem ptsC_append : ∀ a b : List PT, ptsC (a ++ b) = ptsC a ++ ptsC b
  | [], _ => rfl
  | _ :: l, b => by rw [List.cons_append, ptsC, ptsC_append l b, ptsC, List.append_assoc]
theorem ptsC_pure : ∀ l : List PT, PureL (ptsC l)
  | [] => fun _ _ => rfl
  | _ :: l => pureL_append (fun _ _ => rfl) (ptsC_pure l)
theorem allOne_pts : ∀ l : List PT, allOne (ptsC l) = true
  | [] => rfl
  | _ :: l => by rw [ptsC, allOne_append, allOne_pts l]; rfl
theorem subC_pts (l : List PT) {k : Nat} (hk : k < l.length) : subC (ptsC l) (k * 3) 3 = some (ptC l[k]) := by
  have e : ptsC l = ptsC (l.take k) ++ (ptC l[k] ++ ptsC (l.drop (k + 1))) := by
    have h : l = l.take k ++ (l[k] :: l.drop (k + 1)) := by rw [← List.drop_eq_getElem_cons hk, List.take_append_drop]
    rw [show ptsC l = ptsC (l.take k ++ (l[k] :: l.drop (k + 1))) by rw [← h], ptsC_append]
    rfl
  have s : sizeC (ptsC (l.take k)) = k * 3 := by rw [ptsC_size]; simp; omega
  rw [e, ← s]
  exact subC_app _ (ptC l[k]) _
theorem subC_pts_take (l : List PT) {k : Nat} (hk : k ≤ l.length) : subC (ptsC l) 0 (k * 3) = some (ptsC (l.take k)) := by
  have h := subC_app [] (ptsC (l.take k)) (ptsC (l.drop k))
  rw [ptsC_size, List.length_take, Nat.min_eq_left hk, List.nil_append, ← ptsC_append, List.take_append_drop, Nat.mul_comm] at h
  exact h
theorem subC_pts_drop (l : List PT) {k cap : Nat} (hk : k ≤ l.length) (hc : l.length ≤ cap) : subC (ptsC l) (slOff 0 3 k cap) ((l.length - k) * 3) = some (ptsC (l.drop k)) := by
  have h := subC_app (ptsC (l.take k)) (ptsC (l.drop k)) []
  rw [List.append_nil, ← ptsC_append, List.take_append_drop, ptsC_size, ptsC_size, List.length_take, Nat.min_eq_left hk, List.length_drop] at h
  cases k with
  | zero => simpa [slOff, Nat.mul_comm] using h
  | succ k =>
    show subC (ptsC l) (if cap = k + 1 then 0 else 0 + (k + 1) * 3) _ = _
    split
    · rename_i e
      have : l.length = k + 1 := by omega
      rw [this, Nat.sub_self, Nat.zero_mul, subC_nil, List.drop_eq_nil_of_le (by omega)]; rfl
    · rw [Nat.zero_add, Nat.mul_comm (k + 1), Nat.mul_comm (l.length - (k + 1))]; exact h
/-- a list of points of the call's own -/
structure OP where
  l : List PT
  nl : Bool
  cap : Nat
  ok : SliOk nl l.length cap
def OP.sl (o : OP) (b : Nat) : SV := .c (.sli o.nl b 0 o.l.length o.cap o.ok)
def OP.blk (o : OP) : Blk := ⟨34, o.nl, ptsC o.l, (o.cap - o.l.length) * 3⟩
def OP.none : OP := ⟨[], true, 0, by unfold SliOk; decide⟩
theorem OP.new (o : OP) : NewB o.blk := by
  refine ⟨ptsC_pure o.l, ?_⟩
  cases h : o.nl with
  | false => exact .inl h
  | true =>
    right
    have h1 := o.ok.1; have h2 := o.ok.2.2 h
    have : o.l = [] := List.eq_nil_of_length_eq_zero (by omega)
    unfold OP.blk Blk.void
    rw [h, this]; rfl
theorem OP.app (o : OP) {m : Nat} (hm : (o.l.length + m) * 3 ≤ 17592186044416) : o.blk.ty = 34 ∧ o.blk.ro = o.nl ∧ sizeC o.blk.cs = o.l.length * 3 ∧ (o.nl = false → sizeC o.blk.cs + o.blk.tl = o.cap * 3) ∧ (o.l.length + m) * 3 ≤ 17592186044416 := by
  have h1 : sizeC o.blk.cs = o.l.length * 3 := by show sizeC (ptsC o.l) = _; rw [ptsC_size]; omega
  refine ⟨rfl, rfl, h1, fun _ => ?_, hm⟩
  rw [h1]
  show o.l.length * 3 + (o.cap - o.l.length) * 3 = o.cap * 3
  have := o.ok.1
  omega
def OP.push (o : OP) (m : List PT) {n : Nat} (hn : m.length = n) (cap2 : Nat) (h2 : SliOk (o.nl && decide (n = 0)) (o.l.length + n) cap2) : OP := ⟨o.l ++ m, o.nl && decide (n = 0), cap2, by rw [List.length_append, hn]; exact h2⟩
theorem OP.push_sl (o : OP) (m : List PT) {n : Nat} (hn : m.length = n) (cap2 : Nat) (h2 : SliOk (o.nl && decide (n = 0)) (o.l.length + n) cap2) (b : Nat) (ρ : Rho) : (SV.c (.sli (o.nl && decide (n = 0)) b 0 (o.l.length + n) cap2 h2)).den ρ = ((o.push m hn cap2 h2).sl b).den ρ := by
  simp only [OP.sl, OP.push, SV.den, C.den, C.cells, List.length_append, hn]
theorem OP.push_blk (o : OP) (m : List PT) {n : Nat} (hn : m.length = n) (cap2 : Nat) (h2 : SliOk (o.nl && decide (n = 0)) (o.l.length + n) cap2) {cs : List C} (hcs : ∀ ρ, cellsL ρ cs = cellsL ρ (ptsC m)) :
    34 = (o.push m hn cap2 h2).blk.ty ∧ (o.nl && decide (n = 0)) = (o.push m hn cap2 h2).blk.ro ∧ (cap2 - (o.l.length + n)) * 3 = (o.push m hn cap2 h2).blk.tl ∧ ∀ ρ, cellsL ρ (ptsC o.l ++ cs) = cellsL ρ (o.push m hn cap2 h2).blk.cs := by
  refine ⟨rfl, rfl, ?_, fun ρ => ?_⟩
  · simp only [OP.push, OP.blk, List.length_append, hn]
  · show _ = cellsL ρ (ptsC (o.l ++ m))
    rw [ptsC_append, cellsL_append, cellsL_append, hcs]
structure FT where
  pl : Int
  k : Int
  hp : IR pl
  hk : IR k
def ftC (f : FT) : List C := [.int f.pl f.hp, .int f.k f.hk]
def ftsC : List FT → List C
  | [] => []
  | p :: l => ftC p ++ ftsC l
theorem ftsC_size : ∀ l : List FT, sizeC (ftsC l) = 2 * l.length
  | [] => rfl
  | _ :: l => by rw [ftsC, sizeC_append, ftsC_size l, List.length_cons]; show 2 + _ = _; omega
theorem ftsC_append : ∀ a b : List FT, ftsC (a ++ b) = ftsC a ++ ftsC b
  | [], _ => rfl
  | _ :: l, b => by rw [List.cons_append, ftsC, ftsC_append l b, ftsC, List.append_assoc]
theorem ftsC_pure : ∀ l : List FT, PureL (ftsC l)
  | [] => fun _ _ => rfl
  | _ :: l => pureL_append (fun _ _ => rfl) (ftsC_pure l)
theorem allOne_fts : ∀ l : List FT, allOne (ftsC l) = true
  | [] => rfl
  | _ :: l => by rw [ftsC, allOne_append, allOne_fts l]; rfl
theorem subC_fts (l : List FT) {k : Nat} (hk : k < l.length) : subC (ftsC l) (k * 2) 2 = some (ftC l[k]) := by
  have e : ftsC l = ftsC (l.take k) ++ (ftC l[k] ++ ftsC (l.drop (k + 1))) := by
    have h : l = l.take k ++ (l[k] :: l.drop (k + 1)) := by rw [← List.drop_eq_getElem_cons hk, List.take_append_drop]
    rw [show ftsC l = ftsC (l.take k ++ (l[k] :: l.drop (k + 1))) by rw [← h], ftsC_append]
    rfl
  have s : sizeC (ftsC (l.take k)) = k * 2 := by rw [ftsC_size]; simp; omega
  rw [e, ← s]
  exact subC_app _ (ftC l[k]) _
theorem subC_fts_take (l : List FT) {k : Nat} (hk : k ≤ l.length) : subC (ftsC l) 0 (k * 2) = some (ftsC (l.take k)) := by
  have h := subC_app [] (ftsC (l.take k)) (ftsC (l.drop k))
  rw [ftsC_size, List.length_take, Nat.min_eq_left hk, List.nil_append, ← ftsC_append, List.take_append_drop, Nat.mul_comm] at h
  exact h
theorem subC_fts_drop (l : List FT) {k cap : Nat} (hk : k ≤ l.length) (hc : l.length ≤ cap) : subC (ftsC l) (slOff 0 2 k cap) ((l.length - k) * 2) = some (ftsC (l.drop k)) := by
  have h := subC_app (ftsC (l.take k)) (ftsC (l.drop k)) []
  rw [List.append_nil, ← ftsC_append, List.take_append_drop, ftsC_size, ftsC_size, List.length_take, Nat.min_eq_left hk, List.length_drop] at h
  cases k with
  | zero => simpa [slOff, Nat.mul_comm] using h
  | succ k =>
    show subC (ftsC l) (if cap = k + 1 then 0 else 0 + (k + 1) * 2) _ = _
    split
    · rename_i e
      have : l.length = k + 1 := by omega
      rw [this, Nat.sub_self, Nat.zero_mul, subC_nil, List.drop_eq_nil_of_le (by omega)]; rfl
    · rw [Nat.zero_add, Nat.mul_comm (k + 1), Nat.mul_comm (l.length - (k + 1))]; exact h
/-- a list of faults of the call's own -/
structure OF where
  l : List FT
  nl : Bool
  cap : Nat
  ok : SliOk nl l.length cap
def OF.sl (o : OF) (b : Nat) : SV := .c (.sli o.nl b 0 o.l.length o.cap o.ok)
def OF.blk (o : OF) : Blk := ⟨43, o.nl, ftsC o.l, (o.cap - o.l.length) * 2⟩
def OF.none : OF := ⟨[], true, 0, by unfold SliOk; decide⟩
theorem OF.new (o : OF) : NewB o.blk := by
  refine ⟨ftsC_pure o.l, ?_⟩
  cases h : o.nl with
  | false => exact .inl h
  | true =>
    right
    have h1 := o.ok.1; have h2 := o.ok.2.2 h
    have : o.l = [] := List.eq_nil_of_length_eq_zero (by omega)
    unfold OF.blk Blk.void
    rw [h, this]; rfl
theorem OF.app (o : OF) {m : Nat} (hm : (o.l.length + m) * 2 ≤ 5000000000000) : o.blk.ty = 43 ∧ o.blk.ro = o.nl ∧ sizeC o.blk.cs = o.l.length * 2 ∧ (o.nl = false → sizeC o.blk.cs + o.blk.tl = o.cap * 2) ∧ (o.l.length + m) * 2 ≤ 5000000000000 := by
  have h1 : sizeC o.blk.cs = o.l.length * 2 := by show sizeC (ftsC o.l) = _; rw [ftsC_size]; omega
  refine ⟨rfl, rfl, h1, fun _ => ?_, hm⟩
  rw [h1]
  show o.l.length * 2 + (o.cap - o.l.length) * 2 = o.cap * 2
  have := o.ok.1
  omega
def OF.push (o : OF) (m : List FT) {n : Nat} (hn : m.length = n) (cap2 : Nat) (h2 : SliOk (o.nl && decide (n = 0)) (o.l.length + n) cap2) : OF := ⟨o.l ++ m, o.nl && decide (n = 0), cap2, by rw [List.length_append, hn]; exact h2⟩
theorem OF.push_sl (o : OF) (m : List FT) {n : Nat} (hn : m.length = n) (cap2 : Nat) (h2 : SliOk (o.nl && decide (n = 0)) (o.l.length + n) cap2) (b : Nat) (ρ : Rho) : (SV.c (.sli (o.nl && decide (n = 0)) b 0 (o.l.length + n) cap2 h2)).den ρ = ((o.push m hn cap2 h2).sl b).den ρ := by
  simp only [OF.sl, OF.push, SV.den, C.den, C.cells, List.length_append, hn]
theorem OF.push_blk (o : OF) (m : List FT) {n : Nat} (hn : m.length = n) (cap2 : Nat) (h2 : SliOk (o.nl && decide (n = 0)) (o.l.length + n) cap2) {cs : List C} (hcs : ∀ ρ, cellsL ρ cs = cellsL ρ (ftsC m)) :
    43 = (o.push m hn cap2 h2).blk.ty ∧ (o.nl && decide (n = 0)) = (o.push m hn cap2 h2).blk.ro ∧ (cap2 - (o.l.length + n)) * 2 = (o.push m hn cap2 h2).blk.tl ∧ ∀ ρ, cellsL ρ (ftsC o.l ++ cs) = cellsL ρ (o.push m hn cap2 h2).blk.cs := by
  refine ⟨rfl, rfl, ?_, fun ρ => ?_⟩
  · simp only [OF.push, OF.blk, List.length_append, hn]
  · show _ = cellsL ρ (ftsC (o.l ++ m))
    rw [ftsC_append, cellsL_append, cellsL_append, hcs]
/-- a polygon: where its corners lie (behind them there may be more), its place -/
structure PY where
  nl : Bool
  r : Nat
  o : Nat
  len : Nat
  cap : Nat
  ok : SliOk nl len cap
  full : List PT
  hl : len ≤ full.length
  pl : Int
  hp : IR pl
def PY.cor (p : PY) : List PT := p.full.take p.len
def PY.val (p : PY) : Value := .slice (nlA p.nl ⟨p.r, p.o, none⟩) p.len p.cap
def pyC (p : PY) : List C := [.val p.val, .int p.pl p.hp]
/-- its corners lie in a family -/
def PY.In (fam : List Ent) (p : PY) : Prop := ptsC p.full = [] ∨ InF fam (p.r, p.o) (ptsC p.full)
def pysC : List PY → List C
  | [] => []
  | p :: l => pyC p ++ pysC l
theorem pysC_size : ∀ l : List PY, sizeC (pysC l) = 2 * l.length
  | [] => rfl
  | _ :: l => by rw [pysC, sizeC_append, pysC_size l, List.length_cons]; show 2 + _ = _; omega
theorem pysC_append : ∀ a b : List PY, pysC (a ++ b) = pysC a ++ pysC b
  | [], _ => rfl
  | _ :: l, b => by rw [List.cons_append, pysC, pysC_append l b, pysC, List.append_assoc]
theorem pysC_pure : ∀ l : List PY, PureL (pysC l)
  | [] => fun _ _ => rfl
  | _ :: l => pureL_append (fun _ _ => rfl) (pysC_pure l)
theorem allOne_pys : ∀ l : List PY, allOne (pysC l) = true
  | [] => rfl
  | _ :: l => by rw [pysC, allOne_append, allOne_pys l]; rfl
theorem subC_pys (l : List PY) {k : Nat} (hk : k < l.length) : subC (pysC l) (k * 2) 2 = some (pyC l[k]) := by
  have e : pysC l = pysC (l.take k) ++ (pyC l[k] ++ pysC (l.drop (k + 1))) := by
    have h : l = l.take k ++ (l[k] :: l.drop (k + 1)) := by rw [← List.drop_eq_getElem_cons hk, List.take_append_drop]
    rw [show pysC l = pysC (l.take k ++ (l[k] :: l.drop (k + 1))) by rw [← h], pysC_append]
    rfl
  have s : sizeC (pysC (l.take k)) = k * 2 := by rw [pysC_size]; simp; omega
  rw [e, ← s]
  exact subC_app _ (pyC l[k]) _
theorem subC_pys_take (l : List PY) {k : Nat} (hk : k ≤ l.length) : subC (pysC l) 0 (k * 2) = some (pysC (l.take k)) := by
  have h := subC_app [] (pysC (l.take k)) (pysC (l.drop k))
  rw [pysC_size, List.length_take, Nat.min_eq_left hk, List.nil_append, ← pysC_append, List.take_append_drop, Nat.mul_comm] at h
  exact h
theorem subC_pys_drop (l : List PY) {k cap : Nat} (hk : k ≤ l.length) (hc : l.length ≤ cap) : subC (pysC l) (slOff 0 2 k cap) ((l.length - k) * 2) = some (pysC (l.drop k)) := by
  have h := subC_app (pysC (l.take k)) (pysC (l.drop k)) []
  rw [List.append_nil, ← pysC_append, List.take_append_drop, pysC_size, pysC_size, List.length_take, Nat.min_eq_left hk, List.length_drop] at h
  cases k with
  | zero => simpa [slOff, Nat.mul_comm] using h
  | succ k =>
    show subC (pysC l) (if cap = k + 1 then 0 else 0 + (k + 1) * 2) _ = _
    split
    · rename_i e
      have : l.length = k + 1 := by omega
      rw [this, Nat.sub_self, Nat.zero_mul, subC_nil, List.drop_eq_nil_of_le (by omega)]; rfl
    · rw [Nat.zero_add, Nat.mul_comm (k + 1), Nat.mul_comm (l.length - (k + 1))]; exact h
theorem PT.ext' {p q : PT} (hx : p.x = q.x) (hy : p.y = q.y) (hz : p.z = q.z) : p = q := by cases p; cases q; simp_all
theorem pt_v {p q : PT} : p.v = q.v ↔ p = q := ⟨fun h => PT.ext' (congrArg V3.x h) (congrArg V3.y h) (congrArg V3.z h), fun h => by rw [h]⟩
def eqP (p q : PT) : Bool := decide (p.x = q.x) && (decide (p.y = q.y) && decide (p.z = q.z))
theorem eqP_iff {p q : PT} : eqP p q = true ↔ p = q := by rw [← pt_v]; show eqB p.v q.v = true ↔ _; exact eqB_iff
/-- neighbours that are equal, once -/
def cmpT (l : List PT) : Nat → List PT
  | 0 => []
  | k + 1 => if h : k < l.length then (if k = 0 ∨ eqP l[k] (l[k - 1]'(by omega)) = false then cmpT l k ++ [l[k]] else cmpT l k) else cmpT l k
theorem cmpT_len (l : List PT) : ∀ k, (cmpT l k).length ≤ k
  | 0 => Nat.le_refl _
  | k + 1 => by
    have := cmpT_len l k
    unfold cmpT
    split
    · split
      · rw [List.length_append]; simp; omega
      · omega
    · omega
/-- how many are left if the last one equals the first -/
def trimN (l : List PT) : Nat → Nat
  | 0 => 0
  | 1 => 1
  | n + 2 => if h : n + 1 < l.length then (if eqP (l[0]'(by omega)) l[n + 1] = true then trimN l (n + 1) else n + 2) else n + 2
theorem trimN_le (l : List PT) : ∀ n, trimN l n ≤ n
  | 0 => Nat.le_refl _
  | 1 => Nat.le_refl _
  | n + 2 => by
    unfold trimN
    split
    · split
      · have := trimN_le l (n + 1); omega
      · exact Nat.le_refl _
    · exact Nat.le_refl _
def cleanP (l : List PT) : List PT := (cmpT l l.length).take (trimN (cmpT l l.length) (cmpT l l.length).length)
end Go.Proofs.YtdjpbccaglkafaaDoor
