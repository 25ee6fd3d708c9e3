/- What == says of values whose cells are bools, integers and strings. A reckoner of states in symbols: what it is. The reckoner: what one operation does. The reckoner: each operation's effect is what the model says. The reckoner is sound: blocks, calls, lists of operations, code. The reckoner is sound: lists of operations in the order of the text. -/
import Derived.DeepKeys
import Derived.Test.YthmdmbpecgakkaaDoorWka
import Derived.Deep.MidRow
import Derived.LoopN
import Derived.Orders
import Derived.Laws.StructEq
import Derived.RangeFuncWrites
import Derived.RangeFuncLeaves
namespace Go.Proofs.YthmdmbpecgakkaaDoor
open Go.RowKit

inductive K where
 | b
 | i (k : IntKind)
 | s
def K.fits : K → Value → Prop
 | .b, .bool _ => True
 | .i k, .int j _ => j = k
 | .s, .string _ => True
 | _, _ => False
def Fits : List K → List Value → Prop
 | [], [] => True
 | k :: ks, v :: vs => k.fits v ∧ Fits ks vs
 | _, _ => False
theorem Fits.length : ∀ {ks : List K} {vs : List Value}, Fits ks vs → vs.length = ks.length
 | [], [], _ => rfl
 | _ :: _, _ :: _, h => by simp [Fits.length h.2]
theorem Fits.append : ∀ {ks js : List K} {vs us : List Value}, Fits ks vs → Fits js us → Fits (ks ++ js) (vs ++ us)
 | [], _, [], _, _, h => h
 | _ :: _, _, _ :: _, _, h, h' => ⟨h.1, Fits.append h.2 h'⟩
theorem Fits.split : ∀ {ks js : List K} {vs : List Value}, Fits (ks ++ js) vs → Fits ks (vs.take ks.length) ∧ Fits js (vs.drop ks.length)
 | [], _, _, h => ⟨trivial, h⟩
 | _ :: _, _, _ :: _, h => ⟨⟨h.1, (Fits.split h.2).1⟩, (Fits.split h.2).2⟩
def repK : Nat → List K → List K
 | 0, _ => []
 | n + 1, ks => ks ++ repK n ks
theorem repK_length (n : Nat) (ks : List K) : (repK n ks).length = n * ks.length := by
 induction n with
 | zero => simp [repK]
 | succ n ih => rw [repK, List.length_append, ih, Nat.succ_mul]; omega
theorem Fits.chunk : ∀ {n : Nat} {ks : List K} {vs : List Value}, Fits (repK n ks) vs → ∀ i, i < n → Fits ks ((vs.drop (i * ks.length)).take ks.length)
 | 0, _, _, _, _, h => absurd h (by omega)
 | n + 1, ks, vs, h, 0, _ => by simpa using (Fits.split h).1
 | n + 1, ks, vs, h, i + 1, hi => by
  have := Fits.chunk (Fits.split h).2 i (by omega)
  rw [List.drop_drop] at this
  rw [Nat.succ_mul, Nat.add_comm]
  exact this

def rowO (P : Program) (t : TypeId) : Option Bool := (P.underlying t).map TypeDesc.isRow
def mkV (row : Bool) (vs : List Value) : Value := if row then .agg vs.toArray else vs.headD undef

section
variable {P : Program}
theorem run_isAggO {t : TypeId} {b : Bool} (h : rowO P t = some b) (w : World) : (isAgg t).run P w = .ok b w := by
 unfold rowO at h
 cases hu : P.underlying t with
 | none => simp [hu] at h
 | some d =>
  simp only [hu, Option.map_some, Option.some.injEq] at h
  unfold isAgg
  rw [Sem.run_bind, run_underlying hu w]
  cases d <;> simp_all [TypeDesc.isRow]
theorem info_of_rowO {t : TypeId} {b : Bool} (h : rowO P t = some b) : ∃ i, P.info? t = some i := by
 unfold rowO at h
 cases hu : P.underlying t with
 | none => simp [hu] at h
 | some d => exact info_of_underlying hu
theorem run_partO {t : TypeId} {b : Bool} (h : rowO P t = some b) (w : World) (xs : List Value) (off : Nat) (hlt : off + P.cellsOf t ≤ xs.length) (h1 : b = false → P.cellsOf t = 1) :
  (part t xs.toArray off).run P w = .ok (mkV b ((xs.drop off).take (P.cellsOf t))) w := by
 obtain ⟨i, hi⟩ := info_of_rowO h
 unfold part mkV
 rw [Sem.run_bind, run_isAggO h w]
 cases b with
 | true =>
  simp [run_sizeOf w hi, List.extract]
 | false =>
  have hc := h1 rfl
  have : xs[off]? = some xs[off] := List.getElem?_eq_getElem (by omega)
  rw [hc]
  have e : List.take 1 (List.drop off xs) = [xs[off]'(by omega)] := by
   rw [List.drop_eq_getElem_cons (by omega)]; rfl
  simp [this, e]

def kf (P : Program) (g : TypeId → Option (List K)) : Nat → List Field → Option (List K)
 | _, [] => some []
 | off, f :: fs =>
  if f.offset = off ∧ f.name ≠ "_" ∧ (P.info? f.type).isSome = true then
   (match g f.type with
   | some ks => if P.cellsOf f.type = ks.length ∧ 0 < ks.length then (match kf P g (off + ks.length) fs with | some js => some (ks ++ js) | none => none) else none
   | none => none)
  else none
def kindsOf (P : Program) : Nat → TypeId → Option (List K)
 | 0, _ => none
 | d + 1, t =>
  match P.underlying t with
  | some .bool => some [.b]
  | some (.int k) => some [.i k]
  | some .string => some [.s]
  | some (.array n e) => (match kindsOf P d e with
   | some ks => if P.cellsOf e = ks.length ∧ 0 < ks.length ∧ (P.info? e).isSome = true then some (repK n ks) else none
   | none => none)
  | some (.struct fs) => if P.stoodInHeld t = false then kf P (kindsOf P d) 0 fs.toList else none
  | _ => none
theorem kindsOf_row {d : Nat} {t : TypeId} {ks : List K} (h : kindsOf P d t = some ks) : ∃ b, rowO P t = some b ∧ (b = false → ks.length = 1) := by
 cases d with
 | zero => simp [kindsOf] at h
 | succ d =>
  unfold kindsOf at h
  unfold rowO
  cases hu : P.underlying t with
  | none => simp [hu] at h
  | some k => cases k <;> simp_all [TypeDesc.isRow] <;> (subst h; rfl)
def EqAtK (P : Program) (d : Nat) (t : TypeId) (ks : List K) : Prop :=
 ∀ w xs ys b, rowO P t = some b → Fits ks xs → Fits ks ys → ∃ r : Bool, (Op.equalIn d t (mkV b xs) (mkV b ys)).run P w = .ok r w ∧ (r = true ↔ xs = ys)

theorem eqItemsK (d : Nat) {e : TypeId} {ks : List K} {b : Bool} (he : EqAtK P d e ks) (hb : rowO P e = some b) (hc : P.cellsOf e = ks.length) (h1 : b = false → ks.length = 1) (w : World) (xs ys : List Value) (hl : xs.length = ys.length) :
  ∀ is : List Nat, (∀ i ∈ is, (i + 1) * ks.length ≤ xs.length ∧ Fits ks ((xs.drop (i * ks.length)).take ks.length) ∧ Fits ks ((ys.drop (i * ks.length)).take ks.length)) →
   ∃ r : Bool, (Op.eqItems d e (P.cellsOf e) xs.toArray ys.toArray is).run P w = .ok r w ∧ (r = true ↔ ∀ i ∈ is, (xs.drop (i * ks.length)).take ks.length = (ys.drop (i * ks.length)).take ks.length)
 | [], _ => ⟨true, rfl, by simp⟩
 | i :: is, h => by
  obtain ⟨hi, hx, hy⟩ := h i (by simp)
  have hm : i * ks.length + ks.length ≤ xs.length := by rw [Nat.succ_mul] at hi; exact hi
  have p1 := run_partO hb w xs (i * ks.length) (by rw [hc]; omega) (fun h => by rw [hc]; exact h1 h)
  have p2 := run_partO hb w ys (i * ks.length) (by rw [hc]; omega) (fun h => by rw [hc]; exact h1 h)
  obtain ⟨r, hr, hiff⟩ := he w _ _ b hb hx hy
  obtain ⟨r', hr', hiff'⟩ := eqItemsK d he hb hc h1 w xs ys hl is (fun j hj => h j (by simp [hj]))
  rw [hc] at p1 p2 hr' ⊢
  cases r
  ·refine ⟨false, ?_, ?_⟩
   ·simp [Op.eqItems, p1, p2, hr]
   ·simp only [Bool.false_eq_true, false_iff]
    intro h
    exact absurd (hiff.2 (h i (by simp))) (by simp)
  ·refine ⟨r', ?_, ?_⟩
   ·simp [Op.eqItems, p1, p2, hr, hr']
   ·rw [hiff']
    constructor
    ·intro h j hj
     rcases List.mem_cons.1 hj with rfl | hj
     ·exact hiff.1 rfl
     ·exact h j hj
    ·intro h j hj; exact h j (by simp [hj])
theorem eqFieldsK (d : Nat) {g : TypeId → Option (List K)} (hg : ∀ t ks, g t = some ks → EqAtK P d t ks ∧ ∃ b, rowO P t = some b ∧ (b = false → ks.length = 1)) (w : World) (xs ys : List Value) :
  ∀ (fs : List Field) (off : Nat) (ks : List K), kf P g off fs = some ks → off + ks.length = xs.length → xs.length = ys.length → Fits ks (xs.drop off) → Fits ks (ys.drop off) →
   ∃ r : Bool, (Op.eqFields d xs.toArray ys.toArray fs).run P w = .ok r w ∧ (r = true ↔ xs.drop off = ys.drop off)
 | [], off, ks, h, hl, hxy, _, _ => by
  simp [kf] at h
  subst h
  refine ⟨true, by simp [Op.eqFields], ?_⟩
  simp at hl
  simp [List.drop_eq_nil_of_le (show xs.length ≤ off by omega), List.drop_eq_nil_of_le (show ys.length ≤ off by omega)]
 | f :: fs, off, ks, h, hl, hxy, hx, hy => by
  unfold kf at h
  split at h
  ·rename_i hf
   obtain ⟨rfl, hn, hi⟩ := hf
   split at h
   ·rename_i k1 hk1
    split at h
    ·rename_i hc
     split at h
     ·rename_i js hjs
      cases h
      obtain ⟨he, b, hb, h1⟩ := hg _ _ hk1
      obtain ⟨fx, rx⟩ := Fits.split hx
      obtain ⟨fy, ry⟩ := Fits.split hy
      rw [List.drop_drop] at rx ry
      simp only [List.length_append] at hl
      have p1 := run_partO hb w xs f.offset (by rw [hc.1]; omega) (fun h => by rw [hc.1]; exact h1 h)
      have p2 := run_partO hb w ys f.offset (by rw [hc.1]; omega) (fun h => by rw [hc.1]; exact h1 h)
      rw [hc.1] at p1 p2
      obtain ⟨r, hr, hiff⟩ := he w _ _ b hb fx fy
      obtain ⟨r', hr', hiff'⟩ := eqFieldsK d hg w xs ys fs (f.offset + k1.length) js hjs (by omega) hxy rx ry
      have key : xs.drop f.offset = ys.drop f.offset ↔ (xs.drop f.offset).take k1.length = (ys.drop f.offset).take k1.length ∧ xs.drop (f.offset + k1.length) = ys.drop (f.offset + k1.length) := by
       constructor
       ·intro e
        refine ⟨by rw [e], ?_⟩
        have := congrArg (List.drop k1.length) e
        simpa [List.drop_drop] using this
       ·rintro ⟨e1, e2⟩
        rw [← List.take_append_drop k1.length (xs.drop f.offset), ← List.take_append_drop k1.length (ys.drop f.offset), List.drop_drop, List.drop_drop, e1, e2]
      rw [key]
      cases r
      ·refine ⟨false, by simp [Op.eqFields, hn, p1, p2, hr], ?_⟩
       simp only [Bool.false_eq_true, false_iff]
       rintro ⟨h1, -⟩
       exact absurd (hiff.2 h1) (by simp)
      ·refine ⟨r', by simp [Op.eqFields, hn, p1, p2, hr, hr'], ?_⟩
       rw [hiff', ← hiff]
       simp
     ·cases h
    ·cases h
   ·cases h
  ·cases h
theorem eqK : ∀ (d : Nat) (t : TypeId) (ks : List K), kindsOf P d t = some ks → ∀ m, EqAtK P (m + d) t ks
 | 0, _, _, h, _ => by simp [kindsOf] at h
 | d + 1, t, ks, h, m => by
  intro w xs ys b hb hx hy
  unfold kindsOf at h
  cases hu : P.underlying t with
  | none => simp [hu] at h
  | some k =>
   have hb' : k.isRow = b := by simpa [rowO, hu] using hb
   subst hb'
   cases k <;> simp only [hu] at h <;> try (cases h; done)
   case bool =>
    cases h
    match xs, ys, hx, hy with
    | [.bool x], [.bool y], _, _ => exact ⟨x == y, run_equalIn_bool w (m + d) t x y hu, by simp⟩
   case int q =>
    cases h
    match xs, ys, hx, hy with
    | [.int j x], [.int j' y], hx, hy =>
     have e1 : j = q := hx.1
     have e2 : j' = q := hy.1
     subst e1; subst e2
     exact ⟨x == y, run_equalIn_int w (m + d) t _ _ x y hu, by simp⟩
   case string =>
    cases h
    match xs, ys, hx, hy with
    | [.string x], [.string y], _, _ => exact ⟨x.toList == y.toList, run_equalIn_string w (m + d) t x y hu, by simp [ByteArray.toList_eq, ByteArray.ext_iff, ← Array.toList_inj]⟩
   case array n e =>
    split at h
    ·rename_i k1 hk1
     split at h
     ·rename_i hc
      cases h
      obtain ⟨b, hb1, h1⟩ := kindsOf_row hk1
      obtain ⟨i, hi⟩ := info_of_rowO hb1
      have lx := hx.length
      have ly := hy.length
      rw [repK_length] at lx ly
      obtain ⟨r, hr, hiff⟩ := eqItemsK (m + d) (eqK d e k1 hk1 m) hb1 hc.1 h1 w xs ys (by omega) (List.range n) (fun i hi => by
       have hi := List.mem_range.1 hi
       refine ⟨?_, hx.chunk i hi, hy.chunk i hi⟩
       rw [lx]; exact Nat.mul_le_mul_right _ hi)
      refine ⟨r, ?_, ?_⟩
      ·show (Op.equalIn (m + d + 1) t (.agg xs.toArray) (.agg ys.toArray)).run P w = _
       rw [run_equalIn_array w (m + d) _ _ hu hi]; exact hr
      ·rw [hiff]
       constructor
       ·intro hall
        apply List.ext_getElem?
        intro j
        by_cases hj : j < xs.length
        ·have hk : 0 < k1.length := hc.2.1
         have hjn : j / k1.length < n := Nat.div_lt_of_lt_mul (by rw [Nat.mul_comm, ← lx]; exact hj)
         have := congrArg (·[j % k1.length]?) (hall _ (List.mem_range.2 hjn))
         simp only [List.getElem?_take, Nat.mod_lt _ hk, if_true, List.getElem?_drop] at this
         rw [Nat.mul_comm, Nat.div_add_mod] at this
         exact this
        ·rw [List.getElem?_eq_none (by omega), List.getElem?_eq_none (by omega)]
       ·intro e i _; rw [e]
     ·cases h
    ·cases h
   case struct fs =>
    split at h
    ·rename_i hst
     have hfs : P.fieldsOf t = fs := by simp [Program.fieldsOf, hu]
     have lx := hx.length
     have ly := hy.length
     obtain ⟨r, hr, hiff⟩ := eqFieldsK (m + d) (g := kindsOf P d) (fun t ks hk => ⟨eqK d t ks hk m, kindsOf_row hk⟩) w xs ys fs.toList 0 ks h (by omega) (by omega) (by simpa using hx) (by simpa using hy)
     refine ⟨r, ?_, by simpa using hiff⟩
     show (Op.equalIn (m + d + 1) t (.agg xs.toArray) (.agg ys.toArray)).run P w = _
     rw [run_equalIn_struct w (m + d) t _ _ (by rw [hfs]; exact hu) hst, hfs]; exact hr
    ·cases h
end
end Go.Proofs.YthmdmbpecgakkaaDoor

namespace Go.Proofs.YthmdmbpecgakkaaDoor
open Go.RowKit

def IR (n : Int) : Prop := -9223372036854775808 ≤ n ∧ n ≤ 9223372036854775807
instance (n : Int) : Decidable (IR n) := inferInstanceAs (Decidable (_ ∧ _))
theorem IR.wrap (n : Int) : IR (IntKind.i64.wrap n) := by
 unfold IR IntKind.wrap; simp [IntKind.bits, IntKind.signed]; split <;> omega

theorem IR.tmod {a : Int} (h : IR a) (b : Int) : IR (a.tmod b) := by
 unfold IR at *
 cases a with
 | ofNat m =>
  have e : (Int.ofNat m).tmod b = Int.ofNat (m % b.natAbs) := by cases b <;> rfl
  have hl := Nat.mod_le m b.natAbs
  rw [e]
  generalize m % b.natAbs = q at *
  simp only [Int.ofNat_eq_natCast] at *
  omega
 | negSucc m =>
  have e : (Int.negSucc m).tmod b = -Int.ofNat ((m + 1) % b.natAbs) := by cases b <;> rfl
  have hl := Nat.mod_le (m + 1) b.natAbs
  rw [e]
  generalize (m + 1) % b.natAbs = q at *
  simp only [Int.ofNat_eq_natCast, Int.negSucc_eq] at *
  omega

def SliOk (nl : Bool) (len cap : Nat) : Prop := len ≤ cap ∧ cap ≤ 9223372036854775807 ∧ (nl = true → cap = 0)
instance (nl : Bool) (len cap : Nat) : Decidable (SliOk nl len cap) := inferInstanceAs (Decidable (_ ∧ _ ∧ _))
theorem SliOk.ir {nl : Bool} {len cap : Nat} (h : SliOk nl len cap) : IR len := by unfold SliOk at h; unfold IR; omega
theorem SliOk.pos {nl : Bool} {len cap : Nat} (h : SliOk nl len cap) {i : Nat} (hi : i < len) : nl = false := by
 cases nl
 ·rfl
 ·have := h.2.2 rfl; have := h.1; omega
theorem SliOk.sub {nl : Bool} {len cap : Nat} (h : SliOk nl len cap) {l k m : Nat} (hc : l ≤ k ∧ k ≤ m ∧ m ≤ cap) : SliOk nl (k - l) (m - l) := by
 have h1 := h.1
 have h2 := h.2.1
 exact ⟨by omega, by omega, fun e => by have := h.2.2 e; omega⟩
theorem IR.fdiv {a : Int} (h : IR a) (n : Nat) : IR (a.fdiv (2 ^ n)) := by
 have hp : (0 : Int) < 2 ^ n := Int.pow_pos (by decide)
 rw [Int.fdiv_eq_ediv_of_nonneg _ (Int.le_of_lt hp)]
 unfold IR at *
 have h1 := Int.ediv_mul_le a (Int.ne_of_gt hp)
 have h2 := Int.lt_ediv_add_one_mul_self a hp
 generalize a / 2 ^ n = q at *
 generalize (2 : Int) ^ n = p at *
 constructor
 ·by_cases hq : q < 0
  ·have : q + 1 ≤ 0 := by omega
   have := Int.mul_le_mul_of_nonpos_left (a := q + 1) (b := p) (c := 1) (by omega) (by omega)
   simp only [Int.mul_one] at this
   omega
  ·omega
 ·by_cases hq : 0 < q
  ·have := Int.mul_le_mul_of_nonneg_left (a := 1) (b := p) (c := q) (by omega) (by omega)
   simp only [Int.mul_one] at this
   omega
  ·omega
def minI (a b : Int) : Int := if b < a then b else a
def maxI (a b : Int) : Int := if a < b then b else a
theorem IR.minI {a b : Int} (h : IR a) (h' : IR b) : IR (minI a b) := by unfold Proofs.YthmdmbpecgakkaaDoor.minI; split <;> assumption
theorem IR.maxI {a b : Int} (h : IR a) (h' : IR b) : IR (maxI a b) := by unfold Proofs.YthmdmbpecgakkaaDoor.maxI; split <;> assumption

inductive B1 where
 | val (v : Value)
 | int (n : Int) (h : IR n)
 | wid (k : Nat) (z : Int) (h : Sm k z)
def B1.cells : B1 → List Value
 | .val v => [v]
 | .int n _ => [.int .i64 n]
 | .wid _ z _ => [.bool (decide (z < 0)), .string ⟨(mag z.natAbs).toArray⟩]
def bndV : List B1 → Array Value
 | [] => #[]
 | x :: l => #[.agg ((x :: l).flatMap B1.cells).toArray]
inductive BV where
 | c (x : B1)
 | agg (l : List B1)
def BV.den : BV → Value
 | .c x => x.cells.headD undef
 | .agg l => .agg (l.flatMap B1.cells).toArray
inductive C where
 | val (v : Value)
 | int (n : Int) (h : IR n)
 | wid (k : Nat) (z : Int) (h : Sm k z)
 | ptr (b off : Nat)
 | sli (nl : Bool) (b off len cap : Nat) (h : SliOk nl len cap)
 | fn (f : FuncId) (bd : List B1) (caps : List (Nat × Nat))
 | mp (b : Nat)
inductive T1 where
 | c (x : C)
 | agg (l : List C)
inductive SV where
 | c (x : C)
 | agg (l : List C)
 | tup (l : List T1)
structure Ent where
 a : Nat × Nat
 cs : List C
 ty : TypeId
 tl : Nat
def InF (fam : List Ent) (a : Nat × Nat) (cs : List C) : Prop := ∃ e, e ∈ fam ∧ e.a = a ∧ e.cs = cs
theorem InF.left {l m : List Ent} {a : Nat × Nat} {cs : List C} (h : InF l a cs) : InF (l ++ m) a cs := let ⟨e, h1, h2⟩ := h; ⟨e, List.mem_append_left _ h1, h2⟩
theorem InF.right {l m : List Ent} {a : Nat × Nat} {cs : List C} (h : InF m a cs) : InF (l ++ m) a cs := let ⟨e, h1, h2⟩ := h; ⟨e, List.mem_append_right _ h1, h2⟩
theorem InF.one {e : Ent} : InF [e] e.a e.cs := ⟨e, List.mem_singleton.2 rfl,rfl,rfl⟩
theorem InF.last {l : List Ent} {a : Nat × Nat} {cs : List C} {ty : TypeId} {tl : Nat} : InF (l ++ [⟨a, cs, ty, tl⟩]) a cs := InF.right ⟨_, List.mem_singleton.2 rfl,rfl,rfl⟩
inductive TyX where
 | t (n : TypeId)
 | m (n : TypeId) (es : List (BV × BV)) (clock : Nat)
 | x (l : List Ent)
abbrev TyX.id : TyX → TypeId
 | .t n => n
 | .m n _ _ => n
 | .x _ => 0
instance : Coe TypeId TyX := ⟨.t⟩
instance : CoeOut TyX TypeId := ⟨TyX.id⟩
instance (n : Nat) : OfNat TyX n := ⟨.t n⟩
structure Blk where
 ty : TyX
 ro : Bool
 cs : List C
 tl : Nat := 0
def Blk.void (b : Blk) : Bool := match b.ro, b.cs with | true, [] => true | _, _ => false
def mapC : TyX → Bool → List C → Nat → Option (List (BV × BV) × Nat)
 | .m _ es cl, true, [], 1 => some (es, cl)
 | _, _, _, _ => none
def Blk.mapOf (b : Blk) : Option (List (BV × BV) × Nat) := mapC b.ty b.ro b.cs b.tl
def famC : TyX → Bool → Nat → Option (Bool × List Ent)
 | .x l, true, 2 => some (true, l)
 | .x l, true, 3 => some (false, l)
 | _, _, _ => none
def Blk.famOf (b : Blk) : Option (Bool × List Ent) := famC b.ty b.ro b.tl
def mapless : List Blk → Bool
 | [] => true
 | b :: l => (match b.tl with | 0 => mapless l | _ + 1 => false)
def entsV (es : List (BV × BV)) : Array MapEntry := ((es.zipIdx).map fun p => { key := p.1.1.den, val := p.1.2.den, born := p.2 }).toArray

abbrev Rho := Nat → Nat × Nat
def adr (ρ : Rho) (b off : Nat) : Value := .pointer (some ⟨(ρ b).1, (ρ b).2 + off, none⟩)
def nlA (nl : Bool) (a : Addr) : Option Addr := match nl with | true => none | false => some a
def C.cells (ρ : Rho) : C → List Value
 | .val v => [v]
 | .int n _ => [.int .i64 n]
 | .wid _ z _ => [.bool (decide (z < 0)), .string ⟨(mag z.natAbs).toArray⟩]
 | .ptr b off => [adr ρ b off]
 | .sli nl b off len cap _ => [.slice (nlA nl ⟨(ρ b).1, (ρ b).2 + off, none⟩) len cap]
 | .fn f bd caps => [.func (.func f) (bndV bd) (caps.map fun p => adr ρ p.1 p.2).toArray]
 | .mp b => [.map (some (ρ b).1)]
def C.n : C → Nat
 | .wid _ _ _ => 2
 | _ => 1
def C.one : C → Bool
 | .val v => v.oneCell'
 | .int _ _ => true
 | .wid _ _ _ => true
 | .ptr _ _ => true
 | .sli _ _ _ _ _ _ => true
 | .fn _ _ _ => true
 | .mp _ => true
def cellsL (ρ : Rho) (l : List C) : List Value := l.flatMap (C.cells ρ)
def C.den (ρ : Rho) (x : C) : Value := (x.cells ρ).headD undef
def T1.den (ρ : Rho) : T1 → Value
 | .c x => x.den ρ
 | .agg l => .agg (cellsL ρ l).toArray
def SV.den (ρ : Rho) : SV → Value
 | .c x => x.den ρ
 | .agg l => .agg (cellsL ρ l).toArray
 | .tup l => .tuple (l.map (T1.den ρ)).toArray
def T1.sv : T1 → SV
 | .c x => .c x
 | .agg l => .agg l
def uv : SV := .c (.val undef)

def nth {α : Type} (d : α) : List α → Nat → α
 | [], _ => d
 | x :: _, 0 => x
 | _ :: l, n + 1 => nth d l n
def nthO {α : Type} : List α → Nat → Option α
 | [], _ => none
 | x :: _, 0 => some x
 | _ :: l, n + 1 => nthO l n
def updK {α : Type} : List α → Nat → α → (List α → Prop) → Prop
 | [], _, _, K => K []
 | _ :: l, 0, v, K => K (v :: l)
 | x :: l, n + 1, v, K => updK l n v fun l => K (x :: l)
def snocK {α : Type} : List α → α → (List α → Prop) → Prop
 | [], v, K => K [v]
 | x :: l, v, K => snocK l v fun l => K (x :: l)
def lenK {α : Type} : List α → (Nat → Prop) → Prop
 | [], K => K 0
 | _ :: l, K => lenK l fun n => K (n + 1)
def C.force (x : C) (K : C → Prop) : Prop :=
 match x with
 | .val v => K (.val v)
 | .int n h => K (.int n h)
 | .wid k z h => K (.wid k z h)
 | .ptr b off => K (.ptr b off)
 | .sli nl b off len cap h => K (.sli nl b off len cap h)
 | .fn f bd caps => K (.fn f bd caps)
 | .mp b => K (.mp b)
def forceL : List C → (List C → Prop) → Prop
 | [], K => K []
 | x :: l, K => x.force fun x => forceL l fun l => K (x :: l)
def T1.force (x : T1) (K : T1 → Prop) : Prop :=
 match x with
 | .c x => x.force fun x => K (.c x)
 | .agg l => forceL l fun l => K (.agg l)
def forceT : List T1 → (List T1 → Prop) → Prop
 | [], K => K []
 | x :: l, K => x.force fun x => forceT l fun l => K (x :: l)
def SV.force (v : SV) (K : SV → Prop) : Prop :=
 match v with
 | .c x => x.force fun x => K (.c x)
 | .agg l => forceL l fun l => K (.agg l)
 | .tup l => forceT l fun l => K (.tup l)
def bcase (b : Bool) (X Y : Prop) : Prop :=
 match b with
 | true => X
 | false => Y

inductive Sh where
 | other
 | struct (fs : List (Nat × Nat × Bool))
 | array (n esz : Nat) (eagg : Bool)
 | slice (e : TypeId) (esz : Nat) (ez : List C)
 | int (k : IntKind)
 | bool
 | string
structure TI where
 size : Nat
 agg : Bool
 zero : List C
 sh : Sh
 eq : Option (List K) := none

def ofConst : Value → SV
 | .int .i64 n => if h : IR n then .c (.int n h) else .c (.val (.int .i64 n))
 | .agg cs => .agg (cs.toList.map .val)
 | v => .c (.val v)
def evm (tm : List SV) : Operand → SV
 | .tmp t => nth uv tm t
 | .const v => ofConst v
 | .func f => .c (.fn f [] [])
 | .global g => .c (.val (.pointer (some ⟨g, 0, none⟩)))

def B1.c : B1 → C
 | .val v => .val v
 | .int n h => .int n h
 | .wid k z h => .wid k z h
def C.b1 : C → Option B1
 | .val v => some (.val v)
 | .int n h => some (.int n h)
 | .wid k z h => some (.wid k z h)
 | _ => none
def bndL : List C → Option (List B1)
 | [] => some []
 | x :: l => (match x.b1, bndL l with | some b, some m => some (b :: m) | _, _ => none)
def bndA : List B1 → List SV
 | [] => []
 | x :: l => [.agg ((x :: l).map B1.c)]
theorem B1.c_cells (ρ : Rho) (b : B1) : b.c.cells ρ = b.cells := by cases b <;> rfl
theorem C.b1_cells (ρ : Rho) {x : C} {b : B1} (h : x.b1 = some b) : x.cells ρ = b.cells := by
 cases x <;> cases h <;> rfl
theorem bndL_cells (ρ : Rho) : ∀ {l : List C} {m : List B1}, bndL l = some m → cellsL ρ l = m.flatMap B1.cells
 | [], _, h => by cases h; rfl
 | x :: l, m, h => by
  unfold bndL at h
  split at h
  ·rename_i b m' hb hm
   cases h
   have := bndL_cells ρ hm
   unfold cellsL at this ⊢
   rw [List.flatMap_cons, List.flatMap_cons, this, C.b1_cells ρ hb]
  ·cases h
theorem bndA_den (ρ : Rho) (l : List B1) : ((bndA l).map (SV.den ρ)).toArray = bndV l := by
 cases l with
 | nil => rfl
 | cons x l =>
  have : cellsL ρ ((x :: l).map B1.c) = (x :: l).flatMap B1.cells := by
   unfold cellsL
   rw [List.flatMap_map]
   congr 1
   funext b
   exact B1.c_cells ρ b
  show #[Value.agg (cellsL ρ ((x :: l).map B1.c)).toArray] = _
  rw [this]; rfl

def SV.ch : SV → Option (List C)
 | .c x => (match x.n, x.one with
  | 1, true => some [x]
  | _, _ => none)
 | .agg l => some l
 | .tup _ => none
def takeC : Nat → List C → Option (List C × List C)
 | 0, l => some ([], l)
 | _ + 1, [] => none
 | n + 1, x :: l => if x.n ≤ n + 1 then (match takeC (n + 1 - x.n) l with | some (a, b) => some (x :: a, b) | none => none) else none
def sizeC : List C → Nat
 | [] => 0
 | x :: l => x.n + sizeC l
def subC (cs : List C) (off n : Nat) : Option (List C) :=
 match takeC off cs with
 | some (_, r) => (match takeC n r with | some (m, _) => some m | none => none)
 | none => none
def spliceC (cs : List C) (off : Nat) (new : List C) : Option (List C) :=
 match takeC off cs with
 | some (a, r) => (match takeC (sizeC new) r with | some (_, b) => some (a ++ (new ++ b)) | none => none)
 | none => none
def wrapV (agg : Bool) (m : List C) : Option SV :=
 match agg, m with
 | true, m => some (.agg m)
 | false, [x] => (match x.n with | 1 => some (.c x) | _ => none)
 | false, _ => none
def splitC : List C → List C
 | [] => []
 | .wid _ z _ :: l => .val (.bool (decide (z < 0))) :: .val (.string ⟨(mag z.natAbs).toArray⟩) :: splitC l
 | x :: l => x :: splitC l
def putC (cs : List C) (off : Nat) (new : List C) : Option (List C) :=
 match spliceC cs off new with
 | some cs => some cs
 | none => spliceC (splitC cs) off new
def partC (agg : Bool) (cs : List C) (off n : Nat) : Option SV :=
 match subC cs off n with
 | some m => wrapV agg m
 | none => (match subC (splitC cs) off n with
  | some m => wrapV agg m
  | none => none)
def fillC (place : Nat → Option (Nat × Nat)) (cs : List C) : List (Nat × SV) → Option (List C)
 | [] => some cs
 | (i, v) :: rest =>
  match place i, v.ch with
  | some (off, n), some l => if sizeC l = n then (match spliceC cs off l with | some cs => fillC place cs rest | none => none) else none
  | _, _ => none

def repC : Nat → List C → List C
 | 0, _ => []
 | n + 1, l => l ++ repC n l
def allOne : List C → Bool
 | [] => true
 | x :: l => x.one && allOne l

inductive Eff where
 | val (v : SV)
 | new (b : Blk) (v : Nat → SV)
 | put (b : Nat) (cs : List C)

def bv (b : Bool) : Option Eff := some (.val (.c (.val (.bool b))))
def iv (n : Int) : Option Eff := some (.val (.c (.int (IntKind.i64.wrap n) (IR.wrap n))))
def andO (a : Bool) (l : List C) (r : Option Bool) : Option Bool :=
 match l, r with
 | [], some _ => some a
 | _, some b => some (a && b)
 | _, none => none
def eqL : List K → List C → List C → Option Bool
 | [], [], [] => some true
 | .b :: .s :: ks, .wid _ y _ :: l, .wid _ z _ :: m => andO (decide (y = z)) l (eqL ks l m)
 | .b :: .s :: ks, .wid _ y _ :: l, .val (.bool b) :: .val (.string s) :: m => andO (decide (y < 0) == b && decide ((⟨(mag y.natAbs).toArray⟩ : ByteArray) = s)) l (eqL ks l m)
 | .b :: .s :: ks, .val (.bool b) :: .val (.string s) :: l, .wid _ z _ :: m => andO (b == decide (z < 0) && decide (s = (⟨(mag z.natAbs).toArray⟩ : ByteArray))) l (eqL ks l m)
 | .i .i64 :: ks, .int a _ :: l, .int b _ :: m => andO (decide (a = b)) l (eqL ks l m)
 | .i k :: ks, .val (.int i a) :: l, .val (.int j b) :: m => if i = k ∧ j = k then andO (decide (a = b)) l (eqL ks l m) else none
 | .b :: ks, .val (.bool a) :: l, .val (.bool b) :: m => andO (a == b) l (eqL ks l m)
 | .s :: ks, .val (.string a) :: l, .val (.string b) :: m => andO (decide (a = b)) l (eqL ks l m)
 | _, _, _ => none
def pureO : Sem Value → Option Eff
 | .pure v => some (.val (.c (.val v)))
 | _ => none
def binS (T : TypeId → Option TI) (op : BinOp) (t : TypeId) (x y : SV) : Option Eff :=
 match x, y with
 | .c (.int a ha), .c (.int b _) =>
  match op with
  | .add => iv (a + b)
  | .sub => iv (a - b)
  | .mul => iv (a * b)
  | .eql => bv (decide (a = b))
  | .neq => bv (!decide (a = b))
  | .lss => bv (decide (a < b))
  | .leq => bv (decide (a ≤ b))
  | .gtr => bv (decide (b < a))
  | .geq => bv (decide (b ≤ a))
  | .quo => if b = 0 then none else iv (a.tdiv b)
  | .rem => if b = 0 then none else some (.val (.c (.int (a.tmod b) (ha.tmod b))))
  | .and => iv ((BitVec.ofInt 64 a &&& BitVec.ofInt 64 b).toNat)
  | .or => iv ((BitVec.ofInt 64 a ||| BitVec.ofInt 64 b).toNat)
  | .xor => iv ((BitVec.ofInt 64 a ^^^ BitVec.ofInt 64 b).toNat)
  | .andNot => iv ((BitVec.ofInt 64 a &&& ~~~(BitVec.ofInt 64 b)).toNat)
  | .shl => if b < 0 then none else iv (a * 2 ^ (min b.toNat 64))
  | .shr => if b < 0 then none else some (.val (.c (.int (a.fdiv (2 ^ (min b.toNat 64))) (ha.fdiv _))))
 | .agg l, .agg m =>
  match T t with
  | some { eq := some ks, .. } => (match op, eqL ks l m with | .eql, some b => bv b | .neq, some b => bv (!b) | _, _ => none)
  | _ => none
 | .c (.val (.bool a)), .c (.val (.bool b)) => (match T t with
  | some { sh := .bool, .. } => (match op with | .eql => bv (a == b) | .neq => bv (!(a == b)) | _ => none)
  | _ => none)
 | .c (.val (.string a)), .c (.val (.string b)) => pureO (binOp op t (.string a) (.string b))
 | .c (.val (.int k a)), .c (.val (.int j b)) => pureO (binOp op t (.int k a) (.int j b))
 | .c (.int a ha), .c (.val (.int _ b)) =>
  match op with
  | .shl => if b < 0 then none else iv (a * 2 ^ (min b.toNat 64))
  | .shr => if b < 0 then none else some (.val (.c (.int (a.fdiv (2 ^ (min b.toNat 64))) (ha.fdiv _))))
  | _ => none
 | .c (.val (.int k a)), .c (.int b _) => pureO (binOp op t (.int k a) (.int .i64 b))
 | _, _ => none
def ptrs : List SV → Option (List (Nat × Nat))
 | [] => some []
 | .c (.ptr b o) :: l => (match ptrs l with | some m => some ((b, o) :: m) | none => none)
 | _ => none
def natOf : SV → Option Nat
 | .c (.int (.ofNat i) _) => some i
 | _ => none
def slOff (off esz l m : Nat) : Nat := match l with | 0 => off | l + 1 => if m = l + 1 then off else off + (l + 1) * esz
def bndO (x : Option SV) (d : Nat) : Option Nat := match x with | none => some d | some v => natOf v
def selB (t : Bool) (x y : SV) : SV := match t with | true => x | false => y
def eff (T : TypeId → Option TI) (op : Op) (ev : Operand → SV) (hp : Nat → Option Blk) : Option Eff :=
 match op with
 | .move x => some (.val (ev x))
 | .assign x => some (.val (ev x))
 | .pick c a b => (match ev c with
  | .c (.val (.bool t)) => (match ev a, ev b with
   | .c (.val (.bool x)), .c (.val (.bool y)) => bv (cond t x y)
   | x, y => some (.val (selB t x y)))
  | _ => none)
 | .alloc t => (match T t with
  | some ti => some (.new { ty := t, ro := false, cs := ti.zero } fun n => .c (.ptr n 0))
  | none => none)
 | .box t x => (match (ev x).ch with
  | some l => if allOne l then some (.new { ty := t, ro := false, cs := l } fun n => .c (.ptr n 0)) else none
  | none => none)
 | .buildSlice t len parts => (match T t with
  | some { sh := .slice e esz ez, .. } => (match fillC (fun i => some (i * esz, esz)) (repC len ez) (parts.toList.map fun p => (p.1, ev p.2)) with
   | some cs => if h : SliOk false len len ∧ len * esz ≤ 16777216 then some (.new { ty := e, ro := false, cs := cs } fun n => .c (.sli false n 0 len len h.1)) else none
   | none => none)
  | _ => none)
 | .load t x => (match ev x, T t with
  | .c (.ptr b off), some ti => (match hp b with
   | some blk => (match partC ti.agg blk.cs off ti.size with | some v => some (.val v) | none => none)
   | none => none)
  | _, _ => none)
 | .store t x y => (match ev x, (ev y).ch, T t with
  | .c (.ptr b off), some l, some ti => if sizeC l = ti.size ∧ allOne l = true then (match hp b with
   | some blk => if blk.ro then none else (match putC blk.cs off l with | some cs => some (.put b cs) | none => none)
   | none => none) else none
  | _, _, _ => none)
 | .build t parts => (match T t with
  | some { sh := .struct fs, zero := z, .. } => (match fillC (fun i => match nthO fs i with | some (o, n, _) => some (o, n) | none => none) z (parts.toList.map fun p => (p.1, ev p.2)) with
   | some cs => some (.val (.agg cs))
   | none => (match fillC (fun i => match nthO fs i with | some (o, n, _) => some (o, n) | none => none) (splitC z) (parts.toList.map fun p => (p.1, ev p.2)) with
    | some cs => some (.val (.agg cs))
    | none => none))
  | some { sh := .array _ esz _, zero := z, .. } => (match fillC (fun i => some (i * esz, esz)) z (parts.toList.map fun p => (p.1, ev p.2)) with
   | some cs => some (.val (.agg cs))
   | none => none)
  | _ => none)
 | .binOp op t x y _ => binS T op t (ev x) (ev y)
 | .unOp op _ x => (match op, ev x with
  | .not, .c (.val (.bool b)) => bv (!b)
  | .neg, .c (.int a _) => iv (0 - a)
  | op, .c (.val (.int k a)) => pureO (Op.unary op (.int k a))
  | _, _ => none)
 | .convert s d x => (match T s, T d, ev x with
  | some _, some { sh := .int .i64, .. }, .c (.int a _) => iv a
  | some _, some { sh := .int .i64, .. }, .c (.val (.int _ a)) => iv a
  | some _, some { sh := .int k, .. }, .c (.int a _) => some (.val (.c (.val (.int k (k.wrap a)))))
  | some _, some { sh := .int k, .. }, .c (.val (.int _ a)) => some (.val (.c (.val (.int k (k.wrap a)))))
  | _, _, _ => none)
 | .fieldAddr t x f => (match T t, ev x with
  | some { sh := .struct fs, .. }, .c (.ptr b off) => (match nthO fs f with
   | some (o, n, _) => if n = 0 then none else some (.val (.c (.ptr b (off + o))))
   | none => none)
  | _, _ => none)
 | .field t x f => (match T t, ev x with
  | some { sh := .struct fs, .. }, .agg l => (match nthO fs f with
   | some (o, n, a) => (match partC a l o n with | some v => some (.val v) | none => none)
   | none => none)
  | _, _ => none)
 | .indexAddr t x i => (match T t, ev x, natOf (ev i) with
  | some { sh := .array n esz _, .. }, .c (.ptr b off), some i => if i < n then some (.val (.c (.ptr b (off + i * esz)))) else none
  | some { sh := .slice _ esz _, .. }, .c (.sli _ b off len _ _), some i => if i < len then some (.val (.c (.ptr b (off + i * esz)))) else none
  | _, _, _ => none)
 | .index t x i => (match T t, ev x, natOf (ev i) with
  | some { sh := .array n esz a, .. }, .agg l, some i => if i < n then (match partC a l (i * esz) esz with | some v => some (.val v) | none => none) else none
  | some { sh := .string, .. }, .c (.val (.string s)), some i => if i < s.size then some (.val (.c (.val (.int .u8 ((s.data[i]?.getD 0).toNat))))) else none
  | _, _, _ => none)
 | .slice t x lo hi mx => (match T t, ev x with
  | some { sh := .slice _ esz _, .. }, .c (.sli nl b off len cap h) => (match bndO (lo.map ev) 0, bndO (hi.map ev) len, bndO (mx.map ev) cap with
   | some l, some k, some m => if hc : (l ≤ k ∧ k ≤ m ∧ m ≤ cap) ∧ (hi.isSome || mx.isNone) = true then some (.val (.c (.sli nl b (slOff off esz l m) (k - l) (m - l) (h.sub hc.1)))) else none
   | _, _, _ => none)
  | some { sh := .slice _ _ _, .. }, .c (.val (.slice a n c)) => (match bndO (lo.map ev) 0, bndO (hi.map ev) n, mx with
   | some 0, some k, none => if k ≤ c then some (.val (.c (.val (.slice a k c)))) else none
   | _, _, _ => none)
  | some { sh := .string, .. }, .c (.val (.string s)) => (match bndO (lo.map ev) 0, bndO (hi.map ev) s.size, mx with
   | some l, some k, none => if l ≤ k ∧ k ≤ s.size then some (.val (.c (.val (.string (s.extract l k))))) else none
   | _, _, _ => none)
  | _, _ => none)
 | .nilCheck x => (match ev x with
  | .c (.ptr b off) => some (.val (.c (.ptr b off)))
  | .c (.fn f bd caps) => some (.val (.c (.fn f bd caps)))
  | _ => none)
 | .extract x i => (match ev x with
  | .tup l => (match nthO l i with | some t => some (.val t.sv) | none => none)
  | _ => none)
 | .makeFunc fn first captured => (match fn, first.toList, ptrs (captured.toList.map ev) with
  | .func f, [], some ps => some (.val (.c (.fn f [] ps)))
  | .func f, [x], some [] => (match ev x with
   | .agg l => (match bndL l with
    | some (b :: bs) => some (.val (.c (.fn f (b :: bs) [])))
    | _ => none)
   | _ => none)
  | _, _, _ => none)
 | .call c => (match c.callee, c.args.toList, c.argTypes.toList with
  | .builtin .len, [x], [t] => (match T t, ev x with
   | some { sh := .slice _ _ _, .. }, .c (.sli _ _ _ len _ h) => some (.val (.c (.int len h.ir)))
   | some { sh := .slice _ _ _, .. }, .c (.val (.slice _ len _)) => if h : IR len then some (.val (.c (.int len h))) else none
   | some { sh := .string, .. }, .c (.val (.string s)) => if h : IR s.size then some (.val (.c (.int s.size h))) else none
   | _, _ => none)
  | .builtin .min, [x, y], _ => (match ev x, ev y with
   | .c (.int a ha), .c (.int b hb) => some (.val (.c (.int (minI a b) (ha.minI hb))))
   | _, _ => none)
  | .builtin .max, [x, y], _ => (match ev x, ev y with
   | .c (.int a ha), .c (.int b hb) => some (.val (.c (.int (maxI a b) (ha.maxI hb))))
   | _, _ => none)
  | .builtin .min, [x, y, z], _ => (match ev x, ev y, ev z with
   | .c (.int a ha), .c (.int b hb), .c (.int c hc) => some (.val (.c (.int (minI (minI a b) c) ((ha.minI hb).minI hc))))
   | _, _, _ => none)
  | .builtin .max, [x, y, z], _ => (match ev x, ev y, ev z with
   | .c (.int a ha), .c (.int b hb), .c (.int c hc) => some (.val (.c (.int (maxI (maxI a b) c) ((ha.maxI hb).maxI hc))))
   | _, _, _ => none)
  | _, _, _ => none)
 | _ => none

structure Env where
 T : TypeId → Option TI
 un : Nat
 D : FuncId → List SV → (Nat → Option Blk) → Option (Option Prop × SV)
 O : Oper → List SV → List Blk → (List SV → List Blk → Prop) → Prop := fun _ _ _ _ => False
 n0 : Nat := 0
 ord : Nat → Bool := fun _ => false
 R : FuncId → List (Nat × Nat) → (Nat → Option Blk) → (List Nat → List (List SV) → Prop) → Prop := fun _ _ _ _ => False

def putK (d : Option Tmp) (v : SV) (tm : List SV) (K : List SV → Prop) : Prop :=
 match d with
 | some t => updK tm t v K
 | none => K tm
def callee (ev : Operand → SV) (c : Call) : Option (FuncId × List SV) :=
 match c.callee with
 | .value f => (match ev f with
  | .c (.fn f bd caps) => some (f, bndA bd ++ (c.args.toList.map ev ++ caps.map fun p => .c (.ptr p.1 p.2)))
  | _ => none)
 | _ => none
inductive Bad (o : Oper) (why : Nat) (ev : List SV) : Prop
def opEv (o : Oper) (tm : List SV) : List SV := o.op.operands.toList.map (evm tm)
def vcOp (E : Env) (H : FuncId → List SV → List Blk → (SV → List Blk → Prop) → Prop) (o : Oper) (tm : List SV) (hp : List Blk) (K : List SV → List Blk → Prop) : Prop :=
 match eff E.T o.op (evm tm) (nthO hp) with
 | some (.val v) => v.force fun v => putK o.dst v tm fun tm => K tm hp
 | some (.new ⟨ty, ro, cs, tl⟩ v) => forceL cs fun cs => snocK hp ⟨ty, ro, cs, tl⟩ fun hp' => lenK hp fun n => (v n).force fun v => putK o.dst v tm fun tm => K tm hp'
 | some (.put b cs) => forceL cs fun cs => (match nthO hp b with | some ⟨ty, ro, _, tl⟩ => updK hp b ⟨ty, ro, cs, tl⟩ fun hp => putK o.dst uv tm fun tm => K tm hp | none => Bad o 1 (opEv o tm))
 | none => (match o.op with
  | .call c => (match callee (evm tm) c with
   | some (f, args) => (match E.D f args (nthO hp) with
    | some (none, v) => v.force fun v => putK o.dst v tm fun tm => K tm hp
    | some (some p, v) => p ∧ v.force fun v => putK o.dst v tm fun tm => K tm hp
    | none => H f args hp fun v hp => v.force fun v => putK o.dst v tm fun tm => K tm hp)
   | none => E.O o tm hp K)
  | _ => E.O o tm hp K)
def guardS (all : Array Oper) (j : Nat) : Option Tmp :=
 match nthO all.toList j with
 | some o => o.dst
 | none => none
def vcOps (E : Env) (H : FuncId → List SV → List Blk → (SV → List Blk → Prop) → Prop) (all : Array Oper) : List Oper → List SV → List Blk → (List SV → List Blk → Prop) → Prop
 | [], tm, hp, K => K tm hp
 | o :: os, tm, hp, K =>
  match o.guard with
  | none => vcOp E H o tm hp fun tm hp => vcOps E H all os tm hp K
  | some (j, want) => (match guardS all j with
   | some t => (match nth uv tm t with
    | .c (.val (.bool b)) => (match want with
     | true => bcase b (updK tm t (.c (.val (.bool true))) fun tm => vcOp E H o tm hp fun tm hp => vcOps E H all os tm hp K) (updK tm t (.c (.val (.bool false))) fun tm => putK o.dst uv tm fun tm => vcOps E H all os tm hp K)
     | false => bcase b (updK tm t (.c (.val (.bool true))) fun tm => putK o.dst uv tm fun tm => vcOps E H all os tm hp K) (updK tm t (.c (.val (.bool false))) fun tm => vcOp E H o tm hp fun tm hp => vcOps E H all os tm hp K))
    | .c (.val (.tuple _)) => putK o.dst uv tm fun tm => vcOps E H all os tm hp K
    | _ => Bad o 4 (opEv o tm))
   | none => Bad o 5 (opEv o tm))
inductive SE where
 | normal
 | exit (id : Nat)
 | ret
def rounds (b : List SV → List Blk → (SE → List SV → List Blk → Prop) → Prop) (Q : SE → List SV → List Blk → Prop) : Nat → List SV → List Blk → Prop
 | 0, _, _ => False
 | n + 1, tm, hp => b tm hp fun e tm hp => (match e with | .normal => rounds b Q n tm hp | .exit id => Q (.exit id) tm hp | .ret => Q .ret tm hp)
def inB : List Nat → Nat → Bool
 | [], _ => false
 | a :: l, i => a == i || inB l i
def posL : List Nat → Nat → Nat → Option Nat
 | [], _, _ => none
 | a :: l, i, k => if a = i then some k else posL l i (k + 1)
def renP (sel : List Nat) : List (Nat × Nat) → Option (List (Nat × Nat))
 | [] => some []
 | p :: l => (match posL sel p.1 0, renP sel l with | some b, some l => some ((b, p.2) :: l) | _, _ => none)
def C.ren (sel : List Nat) : C → Option C
 | .ptr b off => (match posL sel b 0 with | some b => some (.ptr b off) | none => none)
 | .sli nl b off len cap h => (match posL sel b 0 with | some b => some (.sli nl b off len cap h) | none => none)
 | .fn f bd caps => (match renP sel caps with | some caps => some (.fn f bd caps) | none => none)
 | .mp b => (match posL sel b 0 with | some b => some (.mp b) | none => none)
 | x => some x
def renL (sel : List Nat) : List C → Option (List C)
 | [] => some []
 | x :: l => (match x.ren sel, renL sel l with | some x, some l => some (x :: l) | _, _ => none)
def T1.ren (sel : List Nat) : T1 → Option T1
 | .c x => (match x.ren sel with | some x => some (.c x) | none => none)
 | .agg l => (match renL sel l with | some l => some (.agg l) | none => none)
def renT (sel : List Nat) : List T1 → Option (List T1)
 | [] => some []
 | x :: l => (match x.ren sel, renT sel l with | some x, some l => some (x :: l) | _, _ => none)
def SV.ren (sel : List Nat) : SV → Option SV
 | .c x => (match x.ren sel with | some x => some (.c x) | none => none)
 | .agg l => (match renL sel l with | some l => some (.agg l) | none => none)
 | .tup l => (match renT sel l with | some l => some (.tup l) | none => none)
def renK (sel keep : List Nat) (vs : Nat → Value) : Nat → List SV → (List SV → Prop) → Prop
 | _, [], K => K []
 | i, x :: l, K => (match inB keep i with
  | false => renK sel keep vs (i + 1) l fun l => K (.c (.val (vs i)) :: l)
  | true => (match x.ren sel with
   | some y => renK sel keep vs (i + 1) l fun l => K (y :: l)
   | none => renK sel keep vs (i + 1) l fun l => K (.c (.val (vs i)) :: l)))
def PureL (l : List C) : Prop := ∀ ρ ρ' : Rho, l.flatMap (C.cells ρ) = l.flatMap (C.cells ρ')
def selK (hp : List Blk) (sel pf : List Nat) : Nat → List Nat → (List Blk → Prop) → Prop
 | _, [], K => K []
 | k, a :: l, K => (match nthO hp a with
  | some ⟨ty, ro, cs, tl⟩ => (match inB pf k with
   | true => PureL cs ∧ selK hp sel pf (k + 1) l fun l => K (⟨ty, ro, cs, tl⟩ :: l)
   | false => (match renL sel cs with
    | some cs => selK hp sel pf (k + 1) l fun l => K (⟨ty, ro, cs, tl⟩ :: l)
    | none => False))
  | none => (match Nat.ble 1000000 a with
   | true => selK hp sel pf (k + 1) l fun l => K ({ ty := .x [], ro := true, cs := [], tl := 2 } :: l)
   | false => selK hp sel pf (k + 1) l fun l => K ({ ty := .t ((a - 1000) % 1000), ro := true, cs := [], tl := 0 } :: l)))
def preOk : Nat → Nat → List Nat → Bool
 | 0, _, _ => true
 | n + 1, i, a :: l => a == i && preOk n (i + 1) l
 | _ + 1, _, [] => false
def ndL : List Nat → Bool
 | [] => true
 | a :: l => !inB l a && ndL l
def endK (n0 : Nat) (sel keep pf : List Nat) (vs : Nat → Value) (tm : List SV) (hp : List Blk) (K : List SV → List Blk → Prop) : Prop :=
 match preOk n0 0 sel && ndL sel with
 | true => selK hp sel pf 0 sel fun hp' => renK sel keep vs 0 tm fun tm' => K tm' hp'
 | false => False
def SameTm : List SV → List SV → Prop
 | [], [] => True
 | x :: l, y :: m => (∀ ρ, x.den ρ = y.den ρ) ∧ SameTm l m
 | _, _ => False
def SameHp : List Blk → List Blk → Prop
 | [], [] => True
 | b :: l, c :: m => (b.ty = c.ty ∧ b.ro = c.ro ∧ b.tl = c.tl ∧ ∀ ρ, cellsL ρ b.cs = cellsL ρ c.cs) ∧ SameHp l m
 | _, _ => False
def entK (n0 : Nat) (tm : List SV) (hp : List Blk) (I : List SV → List Blk → Prop) : Prop :=
 ∃ sel keep pf : List Nat, ∀ vs, endK n0 sel keep pf vs tm hp fun tm hp => ∃ tm2 hp2, SameTm tm tm2 ∧ SameHp hp hp2 ∧ I tm2 hp2
def loopQ (un n0 : Nat) (b : List SV → List Blk → (SE → List SV → List Blk → Prop) → Prop) (tm : List SV) (hp : List Blk) (Q : SE → List SV → List Blk → Prop) : Prop :=
 match un with
 | n + 1 => rounds b Q (n + 1) tm hp
 | 0 => (∃ n, rounds b Q n tm hp) ∨ ∃ (I : Nat → List SV → List Blk → Prop), entK n0 tm hp (fun tm hp => ∃ n, I n tm hp) ∧
  ∀ n tm' hp', I n tm' hp' → b tm' hp' fun e tm' hp' => (match e with
   | .normal => entK n0 tm' hp' fun tm hp => ∃ n', n' < n ∧ I n' tm hp
   | .exit id => Q (.exit id) tm' hp'
   | .ret => Q .ret tm' hp')
def waits (o : Oper) (j : Nat) : Bool := o.after.toList.any fun e => decide (e.on = j) && Region.binds .any e
def isStore : Op → Bool
 | .store _ _ _ => true
 | _ => false
def lkN : List (Nat × Nat) → Nat → Option Nat
 | [], _ => none
 | (a, b) :: l, n => if a = n then some b else lkN l n
def okPut (n0 : Nat) (o : Oper) (al : List (Nat × Nat)) (b : Nat) : Bool :=
 decide (b < n0) || (match lkN al b with | some j => waits o j | none => false)
def hfR (n0 : Nat) (o : Oper) (al : List (Nat × Nat)) (hp : List Blk) : Nat → Option Blk := fun b => if okPut n0 o al b = true then nthO hp b else none
/-! may a store stand beside the looks ahead of it? -/
def maskOf : List Edge → List Nat → Nat
 | [], _ => 0
 | e :: es, acc => (if Region.binds .any e = true then 2 ^ e.on ||| nth 0 acc e.on else 0) ||| maskOf es acc
def masksA : List Oper → List Nat → List Nat
 | [], acc => acc
 | o :: os, acc => masksA os (acc ++ [maskOf o.after.toList acc])
def reading : Op → Bool
 | .load _ _ => true
 | .call c => (match c.callee with | .builtin _ => false | _ => true)
 | .select _ _ => true
 | _ => false
def lateL (ms : List Nat) (al : List (Nat × Nat)) (b n0 i : Nat) : Nat → List Oper → Bool
 | _, [] => true
 | j, a :: l => (decide (i ≤ j) || !reading a.op || (nth 0 ms i).testBit j || (decide (n0 ≤ b) && (match lkN al b with | some k => !waits a k | none => false))) && lateL ms al b n0 i (j + 1) l
def vcDop (E : Env) (all : Array Oper) (hp0 : List Blk) (o : Oper) (i : Nat) (al : List (Nat × Nat)) (tm : List SV) (hp : List Blk) (K : List (Nat × Nat) → List SV → List Blk → Prop) : Prop :=
 match isStore o.op with
 | true => (match eff E.T o.op (evm tm) (nthO hp) with
  | some (.put b cs) => if (okPut hp0.length o al b && lateL (masksA all.toList []) al b hp0.length i 0 all.toList) = true then
    (forceL cs fun cs => (match nthO hp b with | some ⟨ty, ro, _, tl⟩ => updK hp b ⟨ty, ro, cs, tl⟩ fun hp => putK o.dst uv tm fun tm => K al tm hp | none => Bad o 6 (opEv o tm))) else Bad o 7 (opEv o tm)
  | _ => Bad o 8 (opEv o tm))
 | false => (match eff E.T o.op (evm tm) (hfR hp0.length o al hp) with
  | some (.val v) => v.force fun v => putK o.dst v tm fun tm => K al tm hp
  | some (.new ⟨ty, ro, cs, tl⟩ v) => forceL cs fun cs => snocK hp ⟨ty, ro, cs, tl⟩ fun hp' => lenK hp fun n => (v n).force fun v => putK o.dst v tm fun tm => K ((n, i) :: al) tm hp'
  | some (.put _ _) => Bad o 9 (opEv o tm)
  | none => (match o.op with
   | .call c => (match callee (evm tm) c with
    | some (f, args) => (match E.D f args (hfR hp0.length o al hp) with
     | some (none, v) => v.force fun v => putK o.dst v tm fun tm => K al tm hp
     | some (some p, v) => p ∧ v.force fun v => putK o.dst v tm fun tm => K al tm hp
     | none => Bad o 10 (opEv o tm))
    | none => Bad o 11 (opEv o tm))
   | _ => Bad o 12 (opEv o tm)))
def vcDs (E : Env) (all : Array Oper) (hp0 : List Blk) : List Oper → Nat → List (Nat × Nat) → List SV → List Blk → (List SV → List Blk → Prop) → Prop
 | [], _, _, tm, hp, K => K tm hp
 | o :: os, i, al, tm, hp, K =>
  match o.guard with
  | none => vcDop E all hp0 o i al tm hp fun al tm hp => vcDs E all hp0 os (i + 1) al tm hp K
  | some (j, want) => (match guardS all j with
   | some t => (match nth uv tm t with
    | .c (.val (.bool b)) => (match want with
     | true => bcase b (updK tm t (.c (.val (.bool true))) fun tm => vcDop E all hp0 o i al tm hp fun al tm hp => vcDs E all hp0 os (i + 1) al tm hp K) (updK tm t (.c (.val (.bool false))) fun tm => putK o.dst uv tm fun tm => vcDs E all hp0 os (i + 1) al tm hp K)
     | false => bcase b (updK tm t (.c (.val (.bool true))) fun tm => putK o.dst uv tm fun tm => vcDs E all hp0 os (i + 1) al tm hp K) (updK tm t (.c (.val (.bool false))) fun tm => vcDop E all hp0 o i al tm hp fun al tm hp => vcDs E all hp0 os (i + 1) al tm hp K))
    | .c (.val (.tuple _)) => putK o.dst uv tm fun tm => vcDs E all hp0 os (i + 1) al tm hp K
    | _ => Bad o 13 (opEv o tm))
   | none => Bad o 14 (opEv o tm))
def sufG (ms : List Nat) : Nat → List Oper → Nat
 | 0, _ => 0
 | _, [] => 0
 | i + 1, o :: l => (match o.guard with
  | none => if (nth 0 ms i &&& (2 ^ i - 1)) = 2 ^ i - 1 then sufG ms i l + 1 else 0
  | some _ => 0)
def downE (i : Nat) : List Edge → Bool
 | [] => true
 | e :: l => decide (e.on < i) && downE i l
def downL : Nat → List Oper → Bool
 | _, [] => true
 | i, o :: l => downE i o.after.toList && downL (i + 1) l
def sufN (ops : List Oper) : Nat := match downL 0 ops with | true => sufG (masksA ops []) ops.length ops.reverse | false => 0
def allL : List Nat → (Nat → Prop) → Prop
 | [], _ => True
 | i :: l, p => p i ∧ allL l p
def rdyE (listed : List Bool) : List Edge → Bool
 | [] => true
 | e :: l => (!Region.binds .any e || nth false listed e.on) && rdyE listed l
def rdyG (listed : List Bool) : Nat → List Oper → List Nat
 | _, [] => []
 | i, o :: l => (match !nth true listed i && rdyE listed o.after.toList with | true => i :: rdyG listed (i + 1) l | false => rdyG listed (i + 1) l)
def setB : List Bool → Nat → List Bool
 | [], _ => []
 | _ :: l, 0 => true :: l
 | x :: l, n + 1 => x :: setB l n
def falses : List Oper → List Bool
 | [] => []
 | _ :: l => false :: falses l
def noSel : List Oper → Bool
 | [] => true
 | o :: l => (match o.op with | .select _ _ => false | _ => noSel l)
def takeB (T : TypeId → Option TI) (ops : List Oper) (tm : List SV) : List Nat → (Nat → Oper → SV → Prop) → Prop → Prop
 | [], _, Z => Z
 | i :: l, K, Z => (match nthO ops i with
  | some o => (match o.guard with
   | none => (match eff T o.op (evm tm) (fun _ => none) with
    | some (.val v) => K i o v
    | _ => takeB T ops tm l K Z)
   | some _ => takeB T ops tm l K Z)
  | none => takeB T ops tm l K Z)
def vcOrd (E : Env) (H : FuncId → List SV → List Blk → (SV → List Blk → Prop) → Prop) (ops : List Oper) : List Oper → List Bool → List SV → List Blk → (List SV → List Blk → Prop) → Prop
 | [], listed, tm, hp, K => (match rdyG listed 0 ops with | [] => K tm hp | _ => False)
 | _ :: fuel, listed, tm, hp, K => (match rdyG listed 0 ops with
  | [] => K tm hp
  | i :: l => takeB E.T ops tm (match noSel ops with | true => i :: l | false => []) (fun i o v => v.force fun v => putK o.dst v tm fun tm => vcOrd E H ops fuel (setB listed i) tm hp K) (allL (i :: l) fun i => (match nthO ops i with
   | some o => (match o.guard with
    | none => vcOp E H o tm hp fun tm hp => vcOrd E H ops fuel (setB listed i) tm hp K
    | some _ => False)
   | none => False)))
def setPs : List Tmp → List SV → List SV → (List SV → Prop) → Prop
 | [], [], tm, K => K tm
 | p :: ps, x :: xs, tm, K => updK tm p x fun tm => setPs ps xs tm K
 | _, _, _, _ => False
def keepR (ds : List Nat) (hp hp' : List Blk) : Prop :=
 match ds with
 | [] => True
 | b :: l => (match nthO hp b, nthO hp' b with
  | some ⟨.t ty, ro, cs, tl⟩, some ⟨.t ty', ro', cs', tl'⟩ => (ty' = ty ∧ ro' = ro ∧ tl' = tl) ∧ (∀ ρ, cellsL ρ cs = cellsL ρ cs') ∧ keepR l hp hp'
  | some ⟨.x l1, true, [], k⟩, some ⟨.x l2, true, [], k'⟩ => k' = k ∧ (∃ m, l2 = l1 ++ m) ∧ keepR l hp hp'
  | _, _ => False)
def againR (n0 : Nat) (hp : List Blk) (J : List Blk → Prop) : Prop := J hp ∨ entK n0 [] hp fun _ hp => J hp
def rangeK (n0 : Nat) (ps : List Tmp) (caps : List Nat) (b : List SV → List Blk → (SE → List SV → List Blk → Prop) → Prop) (tm : List SV) (Q : SE → List SV → List Blk → Prop) : List (List SV) → List Blk → Prop
 | [], hp => Q .normal tm hp
 | x :: xs, hp => setPs ps x tm fun tm1 => b tm1 hp fun e _ hp' => (match e with
  | .normal => againR n0 hp' fun hp' => keepR caps hp hp' ∧ rangeK n0 ps caps b tm Q xs hp'
  | .exit id => Q (.exit id) tm hp'
  | .ret => Q .ret tm hp')
def shE (p : Nat) : List Edge → List Edge
 | [] => []
 | e :: l => (match Nat.ble p e.on with | true => { e with on := e.on - p } :: shE p l | false => shE p l)
def shO (p : Nat) (o : Oper) : Oper := { o with after := (shE p o.after.toList).toArray, guard := (match o.guard with | some (j, w) => some (j - p, w) | none => none) }
def shL (p : Nat) (ops : List Oper) : List Oper := (ops.drop p).map (shO p)
def cutP (ms : List Nat) (p : Nat) : Nat → List Oper → Bool
 | _, [] => true
 | i, o :: l => (match Nat.ble p i with
  | true => (match o.guard with | none => true | some (j, _) => Nat.ble p j) && Nat.beq (nth 0 ms i &&& (2 ^ p - 1)) (2 ^ p - 1)
  | false => (match o.guard with | none => true | some (j, _) => Nat.blt j p)) && cutP ms p (i + 1) l
def edgesB : Nat → List Oper → Bool
 | _, [] => true
 | i, o :: os => (o.after.toList.all fun e => !Region.binds .any e || decide (e.on < i)) && edgesB (i + 1) os
def cutF (ops : List Oper) (ms : List Nat) : Nat → Nat → Option Nat
 | 0, _ => none
 | n + 1, p => (match edgesB 0 (ops.take p) && cutP ms p 0 ops with | true => some p | false => cutF ops ms n (p + 1))
def cutN (ops : List Oper) : Option Nat :=
 match downL 0 ops with
 | true => none
 | false => (match ops with | [] => none | _ :: l => cutF ops (masksA ops []) l.length 1)
def vcBase (E : Env) (H : FuncId → List SV → List Blk → (SV → List Blk → Prop) → Prop) (id : Nat) (ops : List Oper) (tm : List SV) (hp : List Blk) (K : List SV → List Blk → Prop) : Prop :=
 match ops.length - sufN ops with
 | m => (match E.ord id with
  | false => vcDs E (ops.take m).toArray hp (ops.take m) 0 [] tm hp fun tm hp => vcOps E H ops.toArray (ops.drop m) tm hp K
  | true => vcOrd E H (ops.take m) (ops.take m) (falses (ops.take m)) tm hp fun tm hp => vcOps E H ops.toArray (ops.drop m) tm hp K)
def vcR (E : Env) (H : FuncId → List SV → List Blk → (SV → List Blk → Prop) → Prop) (id : Nat) : List Oper → List Oper → List SV → List Blk → (List SV → List Blk → Prop) → Prop
 | [], ops, tm, hp, K => vcBase E H id ops tm hp K
 | _ :: f, ops, tm, hp, K => (match cutN ops with
  | none => vcBase E H id ops tm hp K
  | some p => vcBase E H id (ops.take p) tm hp fun tm hp => vcR E H id f (shL p ops) tm hp K)
def Env.at (E : Env) (n : Nat) : Env := { T := E.T, un := E.un, D := E.D, O := E.O, n0 := n, ord := E.ord, R := E.R }
def vcC (E : Env) (H : FuncId → List SV → List Blk → (SV → List Blk → Prop) → Prop) : Code → List SV → List Blk → (SE → List SV → List Blk → Prop) → Prop
 | .skip, tm, hp, Q => Q .normal tm hp
 | .ret, tm, hp, Q => Q .ret tm hp
 | .exit id, tm, hp, Q => Q (.exit id) tm hp
 | .seq a b, tm, hp, Q => vcC E H a tm hp fun e tm hp => (match e with | .normal => vcC E H b tm hp Q | .exit id => Q (.exit id) tm hp | .ret => Q .ret tm hp)
 | .cond c x y, tm, hp, Q => (match evm tm c with
  | .c (.val (.bool b)) => bcase b (vcC E H x tm hp Q) (vcC E H y tm hp Q)
  | _ => False)
 | .block id c, tm, hp, Q => vcC E H c tm hp fun e tm hp => (match e with | .normal => Q .normal tm hp | .exit i => if i = id then Q .normal tm hp else Q (.exit i) tm hp | .ret => Q .ret tm hp)
 | .loop c, tm, hp, Q => loopQ E.un E.n0 (fun tm hp Q => vcC E H c tm hp Q) tm hp Q
 | .region id ops draw, tm, hp, Q => (match draw with
  | false => vcOps E H ops ops.toList tm hp fun tm hp => Q .normal tm hp
  | true => vcR E H id ops.toList ops.toList tm hp fun tm hp => Q .normal tm hp)
 | .rangeFunc g ps a b, tm, hp, Q => (match evm tm g with
  | .c (.fn f [] caps) => E.R f caps (nthO hp) fun ds xs => keepR ds hp hp ∧ rangeK hp.length ps.toList ds (fun tm hp Q => vcC (E.at hp.length) H a tm hp fun e tm hp => (match e with | .normal => vcC (E.at hp.length) H b tm hp Q | _ => False)) tm Q xs hp
  | _ => False)
 | _, _, _, _ => False
def resV (T : TypeId → Option TI) (r : ResultVar) (tm : List SV) (hp : List Blk) : Option T1 :=
 match r with
 | .tmp t => (match nth uv tm t with | .c x => some (.c x) | .agg l => some (.agg l) | .tup _ => none)
 | .cell a t => (match nth uv tm a, T t with
  | .c (.ptr b off), some ti => (match nthO hp b with
   | some blk => (match partC ti.agg blk.cs off ti.size with | some (.c x) => some (.c x) | some (.agg l) => some (.agg l) | _ => none)
   | none => none)
  | _, _ => none)
def resL (T : TypeId → Option TI) : List ResultVar → List SV → List Blk → (List T1 → Prop) → Prop
 | [], _, _, K => K []
 | r :: rs, tm, hp, K => (match resV T r tm hp with | some v => v.force fun v => resL T rs tm hp fun l => K (v :: l) | none => False)
def retQ (T : TypeId → Option TI) (rs : List ResultVar) (tm : List SV) (hp : List Blk) (K : SV → List Blk → Prop) : Prop :=
 resL T rs tm hp fun l => (match l with | [v] => K v.sv hp | l => K (.tup l) hp)
def padK : Nat → (List SV → Prop) → Prop
 | 0, K => K []
 | n + 1, K => padK n fun l => K (uv :: l)
def appK : List SV → List SV → (List SV → Prop) → Prop
 | [], l, K => K l
 | x :: m, l, K => appK m l fun l => K (x :: l)
def vcF (E : Env) (H : FuncId → List SV → List Blk → (SV → List Blk → Prop) → Prop) (fn : Func) (args : List SV) (hp : List Blk) (K : SV → List Blk → Prop) : Prop :=
 match fn.body with
 | some c => padK (fn.ntmps - args.length) fun pad => appK args pad fun tm => vcC { T := E.T, un := E.un, D := E.D, O := E.O, n0 := hp.length, ord := E.ord, R := E.R } H c tm hp fun e tm hp => (match e with
  | .normal => retQ E.T fn.results.toList tm hp K
  | .ret => retQ E.T fn.results.toList tm hp K
  | .exit _ => False)
 | none => False
def inl (E : Env) (F : FuncId → Option Func) : Nat → FuncId → List SV → List Blk → (SV → List Blk → Prop) → Prop
 | 0, _, _, _, _ => False
 | n + 1, f, args, hp, K => (match F f with | some fn => vcF E (inl E F n) fn args hp K | none => False)
end Go.Proofs.YthmdmbpecgakkaaDoor

namespace Go.Proofs.YthmdmbpecgakkaaDoor
open Go.RowKit

section lists
variable {α : Type}
theorem nth_eq (d : α) : ∀ (l : List α) (n : Nat), nth d l n = (l[n]?).getD d
 | [], _ => by simp [nth]
 | _ :: _, 0 => by simp [nth]
 | _ :: l, n + 1 => by simp [nth, nth_eq d l n]
theorem nthO_eq : ∀ (l : List α) (n : Nat), nthO l n = l[n]?
 | [], _ => by simp [nthO]
 | _ :: _, 0 => by simp [nthO]
 | _ :: l, n + 1 => by simp [nthO, nthO_eq l n]
theorem updK_eq : ∀ (l : List α) (n : Nat) (v : α) (K : List α → Prop), updK l n v K = K (l.set n v)
 | [], _, _, _ => by simp [updK]
 | _ :: _, 0, _, _ => by simp [updK]
 | _ :: l, n + 1, v, K => by simp [updK, updK_eq l n v]
theorem snocK_eq : ∀ (l : List α) (v : α) (K : List α → Prop), snocK l v K = K (l ++ [v])
 | [], _, _ => rfl
 | _ :: l, v, K => by simp [snocK, snocK_eq l v]
end lists
theorem lenK_eq {α : Type} : ∀ (l : List α) (K : Nat → Prop), lenK l K = K l.length
 | [], _ => rfl
 | _ :: l, K => by simp [lenK, lenK_eq l]
theorem C.force_eq (x : C) (K : C → Prop) : x.force K = K x := by cases x <;> rfl
theorem forceL_eq : ∀ (l : List C) (K : List C → Prop), forceL l K = K l
 | [], _ => rfl
 | x :: l, K => by simp only [forceL, C.force_eq, forceL_eq l]
theorem T1.force_eq (x : T1) (K : T1 → Prop) : x.force K = K x := by cases x <;> simp only [T1.force, C.force_eq, forceL_eq]
theorem forceT_eq : ∀ (l : List T1) (K : List T1 → Prop), forceT l K = K l
 | [], _ => rfl
 | x :: l, K => by simp only [forceT, T1.force_eq, forceT_eq l]
theorem SV.force_eq (x : SV) (K : SV → Prop) : x.force K = K x := by cases x <;> simp only [SV.force, C.force_eq, forceL_eq, forceT_eq]
theorem padK_eq : ∀ (n : Nat) (K : List SV → Prop), padK n K = K (List.replicate n uv)
 | 0, _ => rfl
 | n + 1, K => by simp only [padK, padK_eq n, List.replicate_succ]
theorem appK_eq : ∀ (l m : List SV) (K : List SV → Prop), appK l m K = K (l ++ m)
 | [], _, _ => rfl
 | _ :: l, m, K => by simp only [appK, appK_eq l m, List.cons_append]
theorem putK_eq (d : Option Tmp) (v : SV) (tm : List SV) (K : List SV → Prop) : putK d v tm K = K (match d with | some t => tm.set t v | none => tm) := by
 cases d <;> simp [putK, updK_eq]
theorem bcase_of {b : Bool} {X Y : Prop} (h : bcase b X Y) : (b = true → X) ∧ (b = false → Y) := by
 cases b
 ·exact ⟨(fun h => nomatch h), (fun _ => h)⟩
 ·exact ⟨(fun _ => h), (fun h => nomatch h)⟩
theorem bcase_intro {b : Bool} {X Y : Prop} (hx : b = true → X) (hy : b = false → Y) : bcase b X Y := by
 cases b
 ·exact hy rfl
 ·exact hx rfl

section cells
variable (ρ : Rho)
theorem C.cells_length (x : C) : (x.cells ρ).length = x.n := by cases x <;> rfl
theorem sizeC_eq : ∀ l : List C, sizeC l = (cellsL ρ l).length
 | [] => rfl
 | x :: l => by simp [sizeC, cellsL, C.cells_length ρ x, sizeC_eq l]
theorem cellsL_cons (x : C) (l : List C) : cellsL ρ (x :: l) = x.cells ρ ++ cellsL ρ l := rfl
theorem cellsL_append (a b : List C) : cellsL ρ (a ++ b) = cellsL ρ a ++ cellsL ρ b := by simp [cellsL]
theorem sizeC_append (a b : List C) : sizeC (a ++ b) = sizeC a + sizeC b := by
 rw [sizeC_eq (fun _ => (0, 0)), sizeC_eq (fun _ => (0, 0)), sizeC_eq (fun _ => (0, 0)), cellsL_append, List.length_append]
theorem cells_one {x : C} (h : x.n = 1) : x.cells ρ = [x.den ρ] := by cases x <;> simp_all [C.n, C.cells, C.den]
theorem one_of {x : C} (h : x.one = true) : ∀ v ∈ x.cells ρ, v.oneCell' = true := by
 cases x <;> intro v hv <;> simp [C.cells, adr] at hv <;> (try (rcases hv with rfl | rfl)) <;> (try subst hv) <;> first | rfl | exact h
theorem allOne_of : ∀ {l : List C}, allOne l = true → ∀ v ∈ cellsL ρ l, v.oneCell' = true
 | [], _, v, hv => by simp [cellsL] at hv
 | x :: l, h, v, hv => by
  simp only [allOne, Bool.and_eq_true] at h
  rw [cellsL_cons, List.mem_append] at hv
  rcases hv with hv | hv
  ·exact one_of ρ h.1 v hv
  ·exact allOne_of h.2 v hv
end cells
theorem takeC_spec : ∀ (n : Nat) (l a b : List C), takeC n l = some (a, b) → l = a ++ b ∧ sizeC a = n
 | 0, l, a, b, h => by cases l <;> (simp [takeC] at h; obtain ⟨rfl, rfl⟩ := h; exact ⟨rfl, rfl⟩)
 | n + 1, [], a, b, h => by simp [takeC] at h
 | n + 1, x :: l, a, b, h => by
  unfold takeC at h
  split at h
  ·rename_i hx
   split at h
   ·rename_i a' b' hr
    cases h
    obtain ⟨rfl, hs⟩ := takeC_spec _ l _ _ hr
    exact ⟨rfl, by simp [sizeC, hs]; omega⟩
   ·cases h
  ·cases h
theorem subC_spec {cs : List C} {off n : Nat} {m : List C} (h : subC cs off n = some m) : ∃ a b, cs = a ++ (m ++ b) ∧ sizeC a = off ∧ sizeC m = n := by
 unfold subC at h
 split at h
 ·rename_i a r h1
  split at h
  ·rename_i m' b h2
   cases h
   obtain ⟨rfl, e1⟩ := takeC_spec _ _ _ _ h1
   obtain ⟨rfl, e2⟩ := takeC_spec _ _ _ _ h2
   exact ⟨_, _, rfl, e1, e2⟩
  ·cases h
 ·cases h
theorem spliceC_spec {cs : List C} {off : Nat} {new cs' : List C} (h : spliceC cs off new = some cs') : ∃ a m b, cs = a ++ (m ++ b) ∧ cs' = a ++ (new ++ b) ∧ sizeC a = off ∧ sizeC m = sizeC new := by
 unfold spliceC at h
 split at h
 ·rename_i a r h1
  split at h
  ·rename_i m b h2
   cases h
   obtain ⟨rfl, e1⟩ := takeC_spec _ _ _ _ h1
   obtain ⟨rfl, e2⟩ := takeC_spec _ _ _ _ h2
   exact ⟨_, _, _, rfl,rfl,e1, e2⟩
  ·cases h
 ·cases h
theorem wrapV_spec {a : Bool} {m : List C} {v : SV} (h : wrapV a m = some v) : (a = true ∧ v = .agg m) ∨ (a = false ∧ ∃ x, m = [x] ∧ x.n = 1 ∧ v = .c x) := by
 unfold wrapV at h
 split at h
 ·cases h; exact .inl ⟨rfl, rfl⟩
 ·split at h
  ·rename_i hx; cases h; exact .inr ⟨rfl, _, rfl, hx, rfl⟩
  ·cases h
 ·cases h
theorem foldl_splice : ∀ (new m a b : List Value) (off : Nat), a.length = off → m.length = new.length →
  (new.toArray.zipIdx.foldl (fun cs (c, j) => cs.setIfInBounds (off + j) c) (a ++ (m ++ b)).toArray) = (a ++ (new ++ b)).toArray := by
 have key : ∀ (new m a b : List Value) (off k : Nat), a.length = off + k → m.length = new.length →
   ((new.zipIdx k).foldl (fun (cs : Array Value) (p : Value × Nat) => cs.setIfInBounds (off + p.2) p.1) (a ++ (m ++ b)).toArray) = (a ++ (new ++ b)).toArray := by
  intro new
  induction new with
  | nil => intro m a b off k ha hm; have : m = [] := List.eq_nil_of_length_eq_zero hm; subst this; rfl
  | cons x new ih =>
   intro m a b off k ha hm
   cases m with
   | nil => simp at hm
   | cons y m =>
    have hset : (a ++ (y :: m ++ b)).toArray.setIfInBounds (off + k) x = ((a ++ [x]) ++ (m ++ b)).toArray := by
     rw [List.setIfInBounds_toArray, ← ha]
     simp
    rw [List.zipIdx_cons, List.foldl_cons]
    show List.foldl _ ((a ++ (y :: m ++ b)).toArray.setIfInBounds (off + k) x) _ = _
    rw [hset, ih m (a ++ [x]) b off (k + 1) (by simp; omega) (by simpa using hm)]
    simp
 intro new m a b off ha hm
 have := key new m a b off 0 (by omega) hm
 rw [← Array.foldl_toList]
 simpa using this
def partV (ρ : Rho) (p : Nat × SV) : Nat × Value := (p.1, p.2.den ρ)
theorem ch_cells {v : SV} {l : List C} (h : v.ch = some l) (ρ : Rho) : (v.den ρ).cells = (cellsL ρ l).toArray := by
 cases v with
 | c x =>
  simp only [SV.ch] at h
  split at h
  ·rename_i h1 h2
   cases h
   have e := cells_one ρ h1
   have o := one_of ρ h2 (x.den ρ) (by rw [e]; simp)
   simp only [SV.den, cellsL, List.flatMap_cons, List.flatMap_nil, e, List.append_nil]
   cases hx : x.den ρ <;> simp_all [Value.cells, Value.oneCell']
  ·cases h
 | agg l' => cases h; rfl
 | tup _ => cases h
theorem fillC_spec (place : Nat → Option (Nat × Nat)) (ρ : Rho) : ∀ (parts : List (Nat × SV)) (cs cs' : List C), fillC place cs parts = some cs' →
  Instr.fill place (cellsL ρ cs).toArray (parts.map (partV ρ)) = some (cellsL ρ cs').toArray
 | [], cs, cs', h => by simp [fillC] at h; subst h; rfl
 | (i, v) :: rest, cs, cs', h => by
  unfold fillC at h
  split at h
  ·rename_i off n l hp hl
   split at h
   ·rename_i hs
    split at h
    ·rename_i cs1 h1
     obtain ⟨a, m, b, rfl,rfl,e1, e2⟩ := spliceC_spec h1
     have ih := fillC_spec place ρ rest _ _ h
     have hc := ch_cells hl ρ
     have hn : (cellsL ρ l).length = n := by rw [← sizeC_eq]; exact hs
     simp only [List.map_cons, partV, Instr.fill, hp, hc]
     rw [if_neg]
     ·rw [cellsL_append, cellsL_append] at ih ⊢
      rw [foldl_splice _ _ _ _ off (by rw [← sizeC_eq]; exact e1) (by rw [← sizeC_eq, ← sizeC_eq]; exact e2)]
      exact ih
     ·rw [cellsL_append, cellsL_append]
      simp only [List.size_toArray, List.length_append, hn]
      have q1 : (cellsL ρ a).length = off := by rw [← sizeC_eq]; exact e1
      have q2 : (cellsL ρ m).length = n := by rw [← sizeC_eq, e2]; exact hs
      simp
      omega
    ·cases h
   ·cases h
  ·cases h

def facZ : List C → Nat
 | [.val (.int .u8 _)] => 1
 | [.int _ _, .int _ _, .int _ _] => 8
 | _ => 24
theorem facZ_le (z : List C) : facZ z ≤ 24 := by unfold facZ; split <;> decide
def ShOk (P : Program) (t : TypeId) : Sh → Prop
 | .other => True
 | .struct fs => ∃ fd, P.underlying t = some (.struct fd) ∧ fd.toList.map (fun f => (f.offset, P.cellsOf f.type, rowO P f.type)) = fs.map (fun x => (x.1, x.2.1, some x.2.2)) ∧ ∀ x ∈ fs, x.2.2 = false → x.2.1 = 1
 | .array n esz a => ∃ e, P.underlying t = some (.array n e) ∧ P.cellsOf e = esz ∧ rowO P e = some a ∧ (a = false → esz = 1)
 | .slice e esz ez => P.underlying t = some (.slice e) ∧ P.cellsOf e = esz ∧ (P.info? e).isSome = true ∧ 0 < esz ∧ ((P.info? e).map fun i => decide (i.bytes ≤ facZ ez * esz)) = some true ∧ ∀ ρ, ((P.info? e).bind (·.zero)).map (·.cells) = some (cellsL ρ ez).toArray ∧ (cellsL ρ ez).length = esz
 | .int k => P.underlying t = some (.int k)
 | .bool => P.underlying t = some .bool
 | .string => P.underlying t = some .string
structure TIOk (P : Program) (t : TypeId) (ti : TI) : Prop where
 size : P.cellsOf t = ti.size
 row : rowO P t = some ti.agg
 zero : ∀ ρ, ((P.info? t).bind (·.zero)).map (·.cells) = some (cellsL ρ ti.zero).toArray
 sh : ShOk P t ti.sh
 eq : ∀ ks, ti.eq = some ks → kindsOf P 9 t = some ks ∧ P.eqGuardType P.depth t = false ∧ ti.agg = true
def TOk (P : Program) (T : TypeId → Option TI) : Prop := ∀ t ti, T t = some ti → TIOk P t ti

def Holds (ρ : Rho) (blk : Blk) (i : Nat) (w : World) : Prop :=
 w.rangeAt (ρ i).1 (ρ i).2 (cellsL ρ blk.cs) ∧ (blk.ro = false → (ρ i).2 = 0 ∧ ∃ t : List Value, t.length = blk.tl ∧ w.heap[(ρ i).1]? = some (.cells (cellsL ρ blk.cs ++ t).toArray blk.ty (0, 0)))
theorem range_sub {w : World} {g o : Nat} {a m b : List Value} (h : w.rangeAt g o (a ++ (m ++ b))) : w.rangeAt g (o + a.length) m := fun j v hv => by
 have hj := (List.getElem?_eq_some_iff.1 hv).1
 have := h (a.length + j) v (by rw [List.getElem?_append_right (by omega), Nat.add_sub_cancel_left, List.getElem?_append_left hj]; exact hv)
 rw [← Nat.add_assoc] at this
 exact this

section
variable {P : Program}
theorem run_new_sx (w : World) (t : TypeId) (cs : Array Value) : (newRow t cs).run P w = .ok ⟨w.heap.size, 0, none⟩ (w.alloc (.cells cs t)) := rfl
theorem run_box_sx {t : TypeId} {v : SV} {l : List C} (hl : v.ch = some l) (ρ : Rho) (w : World) :
  (Instr.box t (v.den ρ)).run P w = .ok (.pointer (some ⟨w.heap.size, 0, none⟩)) (w.alloc (.cells (cellsL ρ l).toArray t)) := by
 simp only [Instr.box, newVar, ch_cells hl, run_new_sx, Sem.run_bind, Result.andThen_ok, Sem.run_pure]
theorem sx_setCells_block {W : World} {g : Nat} {t : TypeId} : ∀ (vs : List Value) (o : Nat) (pre mid rest : List Value), pre.length = o → mid.length = vs.length →
  W.heap[g]? = some (.cells (pre ++ (mid ++ rest)).toArray t (0, 0)) → (W.setCells g o vs).heap[g]? = some (.cells (pre ++ (vs ++ rest)).toArray t (0, 0)) := by
 intro vs
 induction vs generalizing W with
 | nil => intro o pre mid rest _ hr h; have : mid = [] := List.eq_nil_of_length_eq_zero hr; subst this; exact h
 | cons v vs ih =>
  intro o pre mid rest hp hr h
  cases mid with
  | nil => simp at hr
  | cons r mid =>
   have h1 := heap_setCell_same W g o _ t v h
   have h2 : (pre ++ (r :: mid ++ rest)).toArray.setIfInBounds o v = (pre ++ [v] ++ (mid ++ rest)).toArray := by
    subst hp
    simp
   rw [h2] at h1
   have := ih (W := W.setCell ⟨g, o, none⟩ v) (o + 1) (pre ++ [v]) mid rest (by simp [hp]) (by simpa using hr) h1
   rw [World.setCells]
   simpa using this
theorem sx_setCells_other {g k : Nat} (hk : k ≠ g) : ∀ (vs : List Value) (o : Nat) (W : World), (W.setCells g o vs).heap[k]? = W.heap[k]?
 | [], _, _ => rfl
 | v :: vs, o, W => by rw [World.setCells, sx_setCells_other hk vs, heap_setCell_other _ _ _ _ hk]
theorem sx_setCells_size {g : Nat} : ∀ (vs : List Value) (o : Nat) (W : World), (W.setCells g o vs).heap.size = W.heap.size
 | [], _, _ => rfl
 | v :: vs, o, W => by rw [World.setCells, sx_setCells_size vs]; simp [World.setCell]
theorem sx_setCells_below {B g : Nat} {w : World} (hg : B ≤ g) : ∀ (vs : List Value) (o : Nat) {W : World}, Below B w W → Below B w (W.setCells g o vs)
 | [], _, _, h => h
 | v :: vs, o, _, h => by rw [World.setCells]; exact sx_setCells_below hg vs (o + 1) (h.setCell (p := ⟨g, o, none⟩) hg v)
theorem cellsL_split (ρ : Rho) : ∀ l : List C, cellsL ρ (splitC l) = cellsL ρ l
 | [] => rfl
 | x :: l => by
  have ih := cellsL_split ρ l
  cases x <;> simp [splitC, cellsL, C.cells] at ih ⊢ <;> exact ih
theorem partC_spec (ρ : Rho) {a : Bool} {cs : List C} {off n : Nat} {v : SV} (h : partC a cs off n = some v) : ∃ cs' m, cellsL ρ cs' = cellsL ρ cs ∧ subC cs' off n = some m ∧ wrapV a m = some v := by
 unfold partC at h
 split at h
 ·rename_i m hm; exact ⟨cs, m, rfl, hm, h⟩
 ·split at h
  ·rename_i m hm; exact ⟨splitC cs, m, cellsL_split ρ cs, hm, h⟩
  ·cases h
theorem run_part_sx {e : TypeId} {a : Bool} (hr : rowO P e = some a) (h1 : a = false → P.cellsOf e = 1) {ρ : Rho} {cs : List C} {off : Nat} {v : SV} (hv : partC a cs off (P.cellsOf e) = some v) (w : World) :
  (part e (cellsL ρ cs).toArray off).run P w = .ok (v.den ρ) w := by
 obtain ⟨cs', m, hcc, hm, hv⟩ := partC_spec ρ hv
 rw [← hcc]
 ·obtain ⟨x, r, e1, h2, h3⟩ := subC_spec hm
  have l1 : (cellsL ρ x).length = off := by rw [← sizeC_eq]; exact h2
  have l2 : (cellsL ρ m).length = P.cellsOf e := by rw [← sizeC_eq]; exact h3
  have hcs : cellsL ρ cs' = cellsL ρ x ++ (cellsL ρ m ++ cellsL ρ r) := by rw [e1, cellsL_append, cellsL_append]
  rw [run_partO hr w (cellsL ρ cs') off (by rw [hcs]; simp; omega) h1]
  have : List.take (P.cellsOf e) (List.drop off (cellsL ρ cs')) = cellsL ρ m := by
   rw [hcs, ← l1, List.drop_left, ← l2, List.take_left]
  rw [this]
  rcases wrapV_spec hv with ⟨rfl, rfl⟩ | ⟨rfl, y, rfl, hy, rfl⟩
  ·rfl
  ·simp [mkV, cellsL, cells_one ρ hy, SV.den]
end
section
variable {P : Program} {T : TypeId → Option TI} (hT : TOk P T)
include hT
theorem info_ok {t : TypeId} {ti : TI} (h : T t = some ti) : ∃ i, P.info? t = some i := info_of_rowO (hT t ti h).row
theorem under_ok {t : TypeId} {ti : TI} (h : T t = some ti) : ∃ d, P.underlying t = some d ∧ d.isRow = ti.agg := by
 have := (hT t ti h).row
 unfold rowO at this
 cases hu : P.underlying t with
 | none => simp [hu] at this
 | some d => exact ⟨d, rfl, by simpa [hu] using this⟩
theorem size_ok {t : TypeId} {ti : TI} (h : T t = some ti) : (P.info? t).map (·.size) = some ti.size := by
 obtain ⟨i, hi⟩ := info_ok hT h
 have := (hT t ti h).size
 unfold Program.cellsOf at this
 rw [hi] at this ⊢
 simpa using this
theorem run_load_sx {t : TypeId} {ti : TI} (h : T t = some ti) {ρ : Rho} {b off : Nat} {blk : Blk} {w : World} (hb : Holds ρ blk b w) {v : SV} (hv : partC ti.agg blk.cs off ti.size = some v) :
  (Instr.loadAt t (adr ρ b off)).run P w = .ok (v.den ρ) w := by
 obtain ⟨cs', m, hcc, hm, hv⟩ := partC_spec ρ hv
 ·obtain ⟨a, r, e, h1, h2⟩ := subC_spec hm
  have hr := hb.1
  rw [← hcc, e, cellsL_append, cellsL_append] at hr
  have hr := range_sub hr
  rw [← sizeC_eq, h1] at hr
  obtain ⟨d, hd, hrow⟩ := under_ok hT h
  rcases wrapV_spec hv with ⟨hg, rfl⟩ | ⟨hg, x, rfl, hx, rfl⟩
  ·rw [hg] at hrow
   exact run_loadAt_mid w _ _ t (cellsL ρ m) d hr hd hrow (by rw [size_ok hT h, ← h2, sizeC_eq ρ])
  ·have hc := hr 0 (x.den ρ) (by simp [cellsL, cells_one ρ hx])
   have hagg : (isAgg t).run P w = .ok false w := run_isAggO (by rw [← hg]; exact (hT t ti h).row) w
   simp only [Nat.add_zero] at hc
   simp [Instr.loadAt, adr, Instr.sureAddr, loadVar, hagg, hc, SV.den]
theorem run_alloc_sx {t : TypeId} {ti : TI} (h : T t = some ti) (ρ : Rho) (w : World) (u : Value) :
  (Instr.alloc t true u).run P w = .ok (.pointer (some ⟨w.heap.size, 0, none⟩)) (w.alloc (.cells (cellsL ρ ti.zero).toArray t)) := by
 have hz := (hT t ti h).zero ρ
 obtain ⟨i, hi⟩ := info_ok hT h
 cases hz0 : i.zero with
 | none => simp [hi, hz0] at hz
 | some z =>
  simp only [hi, Option.bind_some, hz0, Option.map_some, Option.some.injEq] at hz
  simp only [Instr.alloc, Sem.run_bind, zeroValue, run_typeInfo w hi, Result.andThen_ok, hz0, Sem.run_pure]
  simp only [newVar, hz, run_new_sx, Result.andThen_ok]
theorem run_store_sx0 {t : TypeId} {ti : TI} (h : T t = some ti) {ρ : Rho} {b off : Nat} {blk : Blk} {w : World} (hb : Holds ρ blk b w) (hro : blk.ro = false) {v : SV} {l cs' : List C} (hl : v.ch = some l)
  (hs : sizeC l = ti.size) (h1 : allOne l = true) (hc : spliceC blk.cs off l = some cs') :
  (Instr.storeAt t (adr ρ b off) (v.den ρ)).run P w = .ok () (w.setCells (ρ b).1 off (cellsL ρ l)) ∧ ∃ t : List Value, t.length = blk.tl ∧ (w.setCells (ρ b).1 off (cellsL ρ l)).heap[(ρ b).1]? = some (.cells (cellsL ρ cs' ++ t).toArray blk.ty (0, 0)) := by
 obtain ⟨a, m, r, e1, e2, e3, e4⟩ := spliceC_spec hc
 obtain ⟨h0, tl, htl, hk⟩ := hb.2 hro
 rw [e1, cellsL_append, cellsL_append, List.append_assoc, List.append_assoc] at hk
 have la : (cellsL ρ a).length = off := by rw [← sizeC_eq]; exact e3
 have lm : (cellsL ρ m).length = (cellsL ρ l).length := by rw [← sizeC_eq, ← sizeC_eq]; exact e4
 have hblk := sx_setCells_block (cellsL ρ l) off _ _ _ la lm hk
 refine ⟨?_, tl, htl, by rw [e2, cellsL_append, cellsL_append, List.append_assoc, List.append_assoc]; exact hblk⟩
 have hcells := ch_cells hl ρ
 have hone := allOne_of ρ h1
 have hthere : ∀ j, j < (cellsL ρ l).length → (w.cell? ⟨(ρ b).1, off + j, none⟩).isSome = true ∧ w.frozen? ⟨(ρ b).1, off + j, none⟩ = false := fun j hj => by
  refine ⟨?_, frozen_of_row _ _ _ _ _ hk⟩
  rw [cell_of_row _ _ _ _ _ _ hk]
  have : off + j < (cellsL ρ a ++ (cellsL ρ m ++ (cellsL ρ r ++ tl))).toArray.size := by simp; omega
  rw [Array.getElem?_eq_getElem this]
  rfl
 have hst := run_storeCells_cells (P := P) (ρ b).1 off (cellsL ρ l) 0 w (fun j hj => by simpa using (hthere j hj).1) (fun j hj => by simpa using (hthere j hj).2) hone
 obtain ⟨i, hi⟩ := info_ok hT h
 have hsz := size_ok hT h
 simp only [hi, Option.map_some, Option.some.injEq] at hsz
 simp only [Nat.add_zero] at hst
 have e5 : (v.den ρ).cells.size = i.size := by rw [hcells, hsz, ← hs, sizeC_eq ρ]; simp
 have e6 : (v.den ρ).cells.toList = cellsL ρ l := by rw [hcells]
 simp only [Instr.storeAt, adr, h0, Nat.zero_add, Instr.sureAddr, Sem.run_bind, Sem.run_pure, Result.andThen_ok, storeVar, sizeOf, run_typeInfo w hi]
 rw [if_neg (by rw [e5]; simp), e6]
 exact hst
theorem run_store_sx {t : TypeId} {ti : TI} (h : T t = some ti) {ρ : Rho} {b off : Nat} {blk : Blk} {w : World} (hb : Holds ρ blk b w) (hro : blk.ro = false) {v : SV} {l cs' : List C} (hl : v.ch = some l)
  (hs : sizeC l = ti.size) (h1 : allOne l = true) (hc : putC blk.cs off l = some cs') :
  (Instr.storeAt t (adr ρ b off) (v.den ρ)).run P w = .ok () (w.setCells (ρ b).1 off (cellsL ρ l)) ∧ ∃ t : List Value, t.length = blk.tl ∧ (w.setCells (ρ b).1 off (cellsL ρ l)).heap[(ρ b).1]? = some (.cells (cellsL ρ cs' ++ t).toArray blk.ty (0, 0)) := by
 unfold putC at hc
 split at hc
 ·rename_i hc'; cases hc; exact run_store_sx0 hT h hb hro hl hs h1 hc'
 ·have hb' : Holds ρ { blk with cs := splitC blk.cs } b w := by
   unfold Holds at hb ⊢
   simpa only [cellsL_split] using hb
  exact run_store_sx0 hT h hb' hro hl hs h1 hc
end
theorem cellsL_repC (ρ : Rho) (l : List C) : ∀ n i, i < n * (cellsL ρ l).length → (cellsL ρ (repC n l))[i]? = (cellsL ρ l)[i % (cellsL ρ l).length]?
 | 0, i, h => by omega
 | n + 1, i, h => by
  rw [repC, cellsL_append]
  by_cases hi : i < (cellsL ρ l).length
  ·rw [List.getElem?_append_left hi, Nat.mod_eq_of_lt hi]
  ·rw [List.getElem?_append_right (by omega), cellsL_repC ρ l n _ (by rw [Nat.succ_mul] at h; omega), Nat.mod_eq_sub_mod (by omega : i ≥ _)]
theorem cellsL_repC_length (ρ : Rho) (l : List C) : ∀ n, (cellsL ρ (repC n l)).length = n * (cellsL ρ l).length
 | 0 => by simp [repC, cellsL]
 | n + 1 => by rw [repC, cellsL_append, List.length_append, cellsL_repC_length ρ l n, Nat.succ_mul]; omega
theorem run_buildSlice_sx {P : Program} {t e : TypeId} {esz : Nat} {ez : List C} (h : ShOk P t (.slice e esz ez)) {len : Nat} {parts : Array (Nat × Value)} {ps : List (Nat × SV)} {cs : List C} {ρ : Rho} (hp : parts.toList = ps.map (partV ρ))
  (hf : fillC (fun i => some (i * esz, esz)) (repC len ez) ps = some cs) (hl : len * esz ≤ 16777216) (w : World) :
  (Instr.buildSlice t len parts).run P w = .ok (.slice (some ⟨w.heap.size, 0, none⟩) len len) (w.alloc (.cells (cellsL ρ cs).toArray e)) := by
 obtain ⟨hu, hc, hi, h0, -, hz⟩ := h
 obtain ⟨i, hi⟩ := Option.isSome_iff_exists.1 hi
 have hs := run_sizeOf w hi
 obtain ⟨hz, hzl⟩ := hz ρ
 cases hz0 : i.zero with
 | none => simp [hi, hz0] at hz
 | some z =>
  simp only [hi, Option.bind_some, hz0, Option.map_some, Option.some.injEq] at hz
  have hzv : (zeroValue e).run P w = .ok z w := by simp [zeroValue, run_typeInfo w hi, hz0]
  have hfill := fillC_spec _ ρ _ _ _ hf
  rw [← hp] at hfill
  have hrep : (cellsL ρ (repC len ez)).toArray = (Array.range (len * esz)).map (fun x => z.cells[x % z.cells.size]!) := by
   apply Array.ext_getElem?
   intro j
   rw [List.getElem?_toArray, Array.getElem?_map, Array.getElem?_range]
   have hzs : z.cells.size = esz := by rw [hz]; simpa using hzl
   by_cases hj : j < len * esz
   ·rw [if_pos hj, cellsL_repC ρ ez len j (by rw [hzl]; exact hj), hzl]
    have hm : j % esz < (cellsL ρ ez).length := by rw [hzl]; exact Nat.mod_lt _ h0
    rw [List.getElem?_eq_getElem hm]
    simp only [Option.map_some, hzs]
    have : j % esz < z.cells.size := by rw [hzs]; exact Nat.mod_lt _ h0
    rw [getElem!_pos z.cells (j % esz) this]
    simp only [hz, List.getElem_toArray]
   ·rw [if_neg hj, List.getElem?_eq_none (by rw [cellsL_repC_length, hzl]; omega)]; rfl
  have h24 : (2:Nat)^24 = 16777216 := by decide
  have hle : ¬ len * esz > 2 ^ 24 := by omega
  unfold Instr.buildSlice
  simp only [Sem.run_bind, run_underlying hu w, Result.andThen_ok, hs, hc]
  rw [if_neg hle]
  rw [hrep] at hfill
  by_cases h00 : len * esz = 0
  ·have : len = 0 := by rcases Nat.mul_eq_zero.1 h00 with h | h; exact h; omega
   subst this
   simp only [Nat.zero_mul, if_true, Sem.run_bind, Sem.run_pure, Result.andThen_ok] at hfill ⊢
   have e0 : (Array.range 0).map (fun x => (#[] : Array Value)[x % (#[] : Array Value).size]!) = (Array.range 0).map (fun x => z.cells[x % z.cells.size]!) := by simp
   rw [e0, hfill]
   simp only [Sem.run_bind, run_new_sx, Result.andThen_ok, Sem.run_pure]
  ·rw [if_neg h00]
   simp only [Sem.run_bind, hzv, Result.andThen_ok, Sem.run_pure, hfill, run_new_sx]
end Go.Proofs.YthmdmbpecgakkaaDoor

namespace Go.Proofs.YthmdmbpecgakkaaDoor
open Go.RowKit

theorem wid_cells_iff (ρ : Rho) {j k : Nat} {y z : Int} (hy : Sm j y) (hz : Sm k z) : (C.wid j y hy).cells ρ = (C.wid k z hz).cells ρ ↔ y = z := by
  simp only [C.cells, List.cons.injEq, and_true, Value.bool.injEq, Value.string.injEq]
  have := Can.inj (b := decide (y < 0)) (s := ⟨(mag y.natAbs).toArray⟩) (b' := decide (z < 0)) (s' := ⟨(mag z.natAbs).toArray⟩) (z := y) (z' := z) ⟨rfl, rfl⟩ ⟨rfl, rfl⟩
  exact this
theorem andO_spec {a : Bool} {l : List C} {r : Option Bool} {b : Bool} (h : andO a l r = some b) : (∃ c, r = some c ∧ l ≠ [] ∧ b = (a && c)) ∨ (l = [] ∧ (∃ c, r = some c) ∧ b = a) := by
  unfold andO at h
  split at h
  · cases h; exact .inr ⟨rfl, ⟨_, rfl⟩, rfl⟩
  · rename_i l' b' hl
    cases h
    exact .inl ⟨_, rfl, fun hn => hl hn, rfl⟩
  · cases h
theorem eq_step {a : Bool} {l m : List C} {ks : List K} {kx : List K} {x y : List Value} {r : Bool} (ρ : Rho) (ha : a = true ↔ x = y) (hx : Fits kx x) (hy : Fits kx y)
    (ih : ∀ r, eqL ks l m = some r → Fits ks (cellsL ρ l) ∧ Fits ks (cellsL ρ m) ∧ (r = true ↔ cellsL ρ l = cellsL ρ m)) (h : andO a l (eqL ks l m) = some r) :
    Fits (kx ++ ks) (x ++ cellsL ρ l) ∧ Fits (kx ++ ks) (y ++ cellsL ρ m) ∧ (r = true ↔ x ++ cellsL ρ l = y ++ cellsL ρ m) := by
  have hlen : x.length = y.length := by rw [hx.length, hy.length]
  rcases andO_spec h with ⟨c, hc, -, rfl⟩ | ⟨rfl, ⟨c, hc⟩, rfl⟩
  · obtain ⟨f1, f2, hiff⟩ := ih c hc
    refine ⟨hx.append f1, hy.append f2, ?_⟩
    rw [Bool.and_eq_true, ha, hiff]
    constructor
    · rintro ⟨e1, e2⟩; rw [e1, e2]
    · intro e; exact List.append_inj e hlen
  · obtain ⟨f1, f2, hiff⟩ := ih c hc
    refine ⟨hx.append f1, hy.append f2, ?_⟩
    have hm : cellsL ρ m = [] := by
      have := f1.length
      rw [← f2.length] at this
      exact List.eq_nil_of_length_eq_zero this.symm
    rw [ha, hm]
    simp [cellsL]
theorem eqL_spec (ρ : Rho) : ∀ (ks : List K) (l m : List C) (r : Bool), eqL ks l m = some r → Fits ks (cellsL ρ l) ∧ Fits ks (cellsL ρ m) ∧ (r = true ↔ cellsL ρ l = cellsL ρ m) := by
  intro ks l m
  induction ks, l, m using eqL.induct with
  | case1 => intro r h; simp [eqL] at h; subst h; exact ⟨trivial, trivial, by simp⟩
  | case2 ks j y hy l k z hz m ih =>
    intro r h
    rw [eqL] at h
    exact eq_step (kx := [.b, .s]) (x := (C.wid j y hy).cells ρ) (y := (C.wid k z hz).cells ρ) ρ (by rw [wid_cells_iff]; simp) ⟨trivial, trivial, trivial⟩ ⟨trivial, trivial, trivial⟩ ih h
  | case3 ks j y hy l b s m ih =>
    intro r h
    rw [eqL] at h
    exact eq_step (kx := [.b, .s]) (x := (C.wid j y hy).cells ρ) (y := [.bool b, .string s]) ρ (by simp [C.cells]) ⟨trivial, trivial, trivial⟩ ⟨trivial, trivial, trivial⟩ ih h
  | case4 ks b s l k z hz m ih =>
    intro r h
    rw [eqL] at h
    exact eq_step (kx := [.b, .s]) (x := [.bool b, .string s]) (y := (C.wid k z hz).cells ρ) ρ (by simp [C.cells]) ⟨trivial, trivial, trivial⟩ ⟨trivial, trivial, trivial⟩ ih h
  | case5 ks a ha l b hb m ih =>
    intro r h
    rw [eqL] at h
    exact eq_step (kx := [.i .i64]) (x := [.int .i64 a]) (y := [.int .i64 b]) ρ (by simp) ⟨rfl, trivial⟩ ⟨rfl, trivial⟩ ih h
  | case6 ks k i a l j b m hc ih =>
    intro r h
    rw [eqL, if_pos hc] at h
    obtain ⟨rfl, rfl⟩ := hc
    exact eq_step (kx := [.i _]) (x := [.int _ a]) (y := [.int _ b]) ρ (by simp) ⟨rfl, trivial⟩ ⟨rfl, trivial⟩ ih h
  | case7 ks k i a l j b m hc =>
    intro r h
    rw [eqL, if_neg hc] at h
    cases h
  | case8 ks a l b m ih =>
    intro r h
    rw [eqL] at h
    · exact eq_step (kx := [.b]) (x := [.bool a]) (y := [.bool b]) ρ (by simp) ⟨trivial, trivial⟩ ⟨trivial, trivial⟩ ih h
    all_goals assumption
  | case9 ks a l b m ih =>
    intro r h
    rw [eqL] at h
    exact eq_step (kx := [.s]) (x := [.string a]) (y := [.string b]) ρ (by simp) ⟨trivial, trivial⟩ ⟨trivial, trivial⟩ ih h
  | case10 ks l m h1 h2 h3 h4 h5 h6 h7 h8 =>
    intro r h
    rw [eqL] at h
    · cases h
    all_goals assumption

def evr (ev : Operand → SV) (ρ : Rho) : Operand → Value := fun x => (ev x).den ρ
section
variable {P : Program} {T : TypeId → Option TI} (hT : TOk P T)
include hT
theorem sh_ok {t : TypeId} {ti : TI} (h : T t = some ti) : ShOk P t ti.sh := (hT t ti h).sh
omit hT in
theorem den_agg (ρ : Rho) (l : List C) : (SV.agg l).den ρ = .agg (cellsL ρ l).toArray := rfl
theorem run_eql_sx {t : TypeId} {ti : TI} (h : T t = some ti) {ks : List K} (hk : ti.eq = some ks) {ρ : Rho} {l m : List C} {r : Bool} (hr : eqL ks l m = some r) (w : World) :
    (Op.equal t (.agg (cellsL ρ l).toArray) (.agg (cellsL ρ m).toArray)).run P w = .ok r w := by
  obtain ⟨h1, h2, h3⟩ := (hT t ti h).eq ks hk
  obtain ⟨f1, f2, hiff⟩ := eqL_spec ρ ks l m r hr
  have hrow := (hT t ti h).row
  rw [h3] at hrow
  obtain ⟨r', hr', hiff'⟩ := eqK (P := P) 9 t ks h1 9991 w _ _ true hrow f1 f2
  have : r' = r := by
    rw [← hiff] at hiff'
    cases r <;> cases r' <;> simp_all
  subst this
  exact hr'
theorem binS_ok {op : BinOp} {t : TypeId} {x y : SV} {v : SV} (h : binS T op t x y = some (.val v)) (ρ : Rho) (w : World) (ox oy : Operand) :
    (do eqGuard op t ox oy (x.den ρ) (y.den ρ); binOp op t (x.den ρ) (y.den ρ) : Sem Value).run P w = .ok (v.den ρ) w := by
  unfold binS at h
  split at h
  · rename_i a ha b hb
    have e1 : (SV.c (C.int a ha)).den ρ = .int .i64 a := rfl
    have e2 : (SV.c (C.int b hb)).den ρ = .int .i64 b := rfl
    rw [e1, e2, eqGuard_at_int]
    split at h
    all_goals first | (simp only [iv, bv, Option.some.injEq, Eff.val.injEq] at h; subst h) | skip
    · simp [binOp, Op.intArith, SV.den, C.den, C.cells]
    · simp [binOp, Op.intArith, SV.den, C.den, C.cells]
    · simp [binOp, Op.intArith, SV.den, C.den, C.cells]
    · simp [binOp, Op.intCmp, SV.den, C.den, C.cells]; rfl
    · simp [binOp, Op.intCmp, SV.den, C.den, C.cells]; rfl
    · simp [binOp, Op.intCmp, SV.den, C.den, C.cells]
    · simp [binOp, Op.intCmp, SV.den, C.den, C.cells]
    · simp [binOp, Op.intCmp, SV.den, C.den, C.cells]
    · simp [binOp, Op.intCmp, SV.den, C.den, C.cells]
    · split at h
      · cases h
      · rename_i hb0
        simp only [iv, Option.some.injEq, Eff.val.injEq] at h; subst h
        simp [binOp, Op.intDiv, hb0, SV.den, C.den, C.cells]
    · split at h
      · cases h
      · rename_i hb0
        simp only [Option.some.injEq, Eff.val.injEq] at h; subst h
        simp [binOp, Op.intDiv, hb0, SV.den, C.den, C.cells]
    · rfl
    · rfl
    · rfl
    · rfl
    · split at h
      · cases h
      · rename_i hb0
        simp only [iv, Option.some.injEq, Eff.val.injEq] at h; subst h
        simp [binOp, Op.shift, hb0, SV.den, C.den, C.cells, IntKind.bits]
    · split at h
      · cases h
      · rename_i hb0
        simp only [Option.some.injEq, Eff.val.injEq] at h; subst h
        simp [binOp, Op.shift, hb0, SV.den, C.den, C.cells, IntKind.bits]
  · rename_i l m
    split at h
    · rename_i ti sz ag z sh ks hti
      have he := (hT _ _ hti).eq ks rfl
      rw [den_agg, den_agg, Sem.run_bind, run_eqGuard_agg w op t ox oy _ _ he.2.1]
      split at h
      · rename_i b hb
        simp only [bv, Option.some.injEq, Eff.val.injEq] at h; subst h
        have := run_eql_sx hT hti rfl hb (ρ := ρ) w
        simp [binOp, this, SV.den, C.den, C.cells]
      · rename_i b hb
        simp only [bv, Option.some.injEq, Eff.val.injEq] at h; subst h
        have := run_eql_sx hT hti rfl hb (ρ := ρ) w
        simp [binOp, this, SV.den, C.den, C.cells]
      · cases h
    · cases h
  · rename_i a b
    have e1 : (SV.c (C.val (.bool a))).den ρ = .bool a := rfl
    have e2 : (SV.c (C.val (.bool b))).den ρ = .bool b := rfl
    rw [e1, e2, eqGuard_at_bool]
    split at h
    · rename_i hti
      have hu : P.underlying t = some .bool := sh_ok hT hti
      have hq : (Op.equal t (.bool a) (.bool b)).run P w = .ok (a == b) w := run_equalIn_bool w 9999 t a b hu
      split at h
      · simp only [bv, Option.some.injEq, Eff.val.injEq] at h; subst h
        simp [binOp, hq, SV.den, C.den, C.cells]
      · simp only [bv, Option.some.injEq, Eff.val.injEq] at h; subst h
        simp [binOp, hq, SV.den, C.den, C.cells]
      · cases h
    · cases h
  · rename_i a b
    have e1 : (SV.c (C.val (.string a))).den ρ = .string a := rfl
    have e2 : (SV.c (C.val (.string b))).den ρ = .string b := rfl
    rw [e1, e2, eqGuard_at_string]
    unfold pureO at h
    split at h
    · rename_i v' hv
      simp only [Option.some.injEq, Eff.val.injEq] at h; subst h
      rw [Sem.run_bind, Sem.run_pure, Result.andThen_ok, hv]
      rfl
    · cases h
  · rename_i k a j b
    have e1 : (SV.c (C.val (.int k a))).den ρ = .int k a := rfl
    have e2 : (SV.c (C.val (.int j b))).den ρ = .int j b := rfl
    rw [e1, e2, eqGuard_at_int]
    unfold pureO at h
    split at h
    · rename_i v' hv
      simp only [Option.some.injEq, Eff.val.injEq] at h; subst h
      rw [Sem.run_bind, Sem.run_pure, Result.andThen_ok, hv]
      rfl
    · cases h
  · rename_i a ha k b
    have e1 : (SV.c (C.int a ha)).den ρ = .int .i64 a := rfl
    have e2 : (SV.c (C.val (.int k b))).den ρ = .int k b := rfl
    rw [e1, e2, eqGuard_at_int]
    split at h
    · split at h
      · cases h
      · rename_i hb0
        simp only [iv, Option.some.injEq, Eff.val.injEq] at h; subst h
        simp [binOp, Op.shift, hb0, SV.den, C.den, C.cells, IntKind.bits]
    · split at h
      · cases h
      · rename_i hb0
        simp only [Option.some.injEq, Eff.val.injEq] at h; subst h
        simp [binOp, Op.shift, hb0, SV.den, C.den, C.cells, IntKind.bits]
    · cases h
  · rename_i k a b hb
    have e1 : (SV.c (C.val (.int k a))).den ρ = .int k a := rfl
    have e2 : (SV.c (C.int b hb)).den ρ = .int .i64 b := rfl
    rw [e1, e2, eqGuard_at_int]
    unfold pureO at h
    split at h
    · rename_i v' hv
      simp only [Option.some.injEq, Eff.val.injEq] at h; subst h
      rw [Sem.run_bind, Sem.run_pure, Result.andThen_ok, hv]
      rfl
    · cases h
  · cases h
omit hT in
theorem den_int (ρ : Rho) (n : Int) (h : IR n) : (SV.c (.int n h)).den ρ = .int .i64 n := rfl
omit hT in
theorem natOf_ok {v : SV} {i : Nat} (h : natOf v = some i) (ρ : Rho) : v.den ρ = .int .i64 i := by
  unfold natOf at h
  split at h
  · cases h; rfl
  · cases h
omit hT in
theorem ptrs_ok (ρ : Rho) : ∀ {l : List SV} {ps : List (Nat × Nat)}, ptrs l = some ps → l.map (SV.den ρ) = ps.map fun p => adr ρ p.1 p.2
  | [], ps, h => by simp [ptrs] at h; subst h; rfl
  | v :: l, ps, h => by
    cases v with
    | agg _ => simp [ptrs] at h
    | tup _ => simp [ptrs] at h
    | c x =>
      cases x <;> simp only [ptrs] at h <;> try (cases h; done)
      case ptr b o =>
        split at h
        · rename_i m hm
          cases h
          simp only [List.map_cons, ptrs_ok ρ hm]
          rfl
        · cases h
omit hT in
theorem fields_get {fd : Array Field} {fs : List (Nat × Nat × Bool)} (h : fd.toList.map (fun f => (f.offset, P.cellsOf f.type, rowO P f.type)) = fs.map (fun x => (x.1, x.2.1, some x.2.2))) {f o n : Nat} {a : Bool} (hf : nthO fs f = some (o, n, a)) :
    ∃ g, fd[f]? = some g ∧ g.offset = o ∧ P.cellsOf g.type = n ∧ rowO P g.type = some a := by
  have := congrArg (·[f]?) h
  rw [nthO_eq] at hf
  simp only [List.getElem?_map, hf, Option.map_some, Option.map_eq_some_iff] at this
  obtain ⟨g, hg, he⟩ := this
  simp only [Prod.mk.injEq] at he
  exact ⟨g, by simpa using hg, he.1, he.2.1, he.2.2⟩
omit hT in
theorem built_array {t e : TypeId} {n esz : Nat} {z : List C} {a : Bool} (ρ : Rho) (hu : P.underlying t = some (.array n e)) (he : P.cellsOf e = esz) (hr : rowO P e = some a)
    (hz : ((P.info? t).bind (·.zero)).map (·.cells) = some (cellsL ρ z).toArray) {parts : List (Nat × SV)} {cs : List C} (hf : fillC (fun i => some (i * esz, esz)) z parts = some cs) :
    P.built t (parts.map (partV ρ)) = some (cellsL ρ cs).toArray := by
  obtain ⟨i, hi⟩ := info_of_underlying hu
  obtain ⟨j, hj⟩ := info_of_rowO hr
  unfold Program.built
  simp only [hi, Option.bind_some] at hz
  cases hz0 : i.zero with
  | none => simp [hz0] at hz
  | some z0 =>
    simp only [hz0, Option.map_some, Option.some.injEq] at hz
    have hes : j.size = esz := by simpa [Program.cellsOf, hj] using he
    simp only [hi, hu, hz0, hj, hz, hes]
    exact fillC_spec _ ρ _ _ _ hf
omit hT in
theorem places_ok {fd : List Field} {fs : List (Nat × Nat × Bool)} (h : fd.map (fun f => (f.offset, P.cellsOf f.type, rowO P f.type)) = fs.map (fun x => (x.1, x.2.1, some x.2.2))) :
    fd.mapM (fun f => (P.info? f.type).map fun i => (f.offset, i.size)) = some (fs.map fun x => (x.1, x.2.1)) := by
  induction fd generalizing fs with
  | nil => cases fs with
    | nil => rfl
    | cons x fs => simp at h
  | cons f fd ih =>
    cases fs with
    | nil => simp at h
    | cons x fs =>
      simp only [List.map_cons, List.cons.injEq, Prod.mk.injEq] at h
      obtain ⟨⟨h1, h2, h3⟩, h4⟩ := h
      obtain ⟨i, hi⟩ := info_of_rowO h3
      have hs : i.size = x.2.1 := by simpa [Program.cellsOf, hi] using h2
      simp [List.mapM_cons, hi, ih h4, h1, hs]
omit hT in
theorem built_struct {t : TypeId} {fd : Array Field} {fs : List (Nat × Nat × Bool)} {z : List C} (ρ : Rho) (hu : P.underlying t = some (.struct fd))
    (h : fd.toList.map (fun f => (f.offset, P.cellsOf f.type, rowO P f.type)) = fs.map (fun x => (x.1, x.2.1, some x.2.2)))
    (hz : ((P.info? t).bind (·.zero)).map (·.cells) = some (cellsL ρ z).toArray) {parts : List (Nat × SV)} {cs : List C} (hf : fillC (fun i => match nthO fs i with | some (o, n, _) => some (o, n) | none => none) z parts = some cs) :
    P.built t (parts.map (partV ρ)) = some (cellsL ρ cs).toArray := by
  obtain ⟨i, hi⟩ := info_of_underlying hu
  unfold Program.built
  simp only [hi, Option.bind_some] at hz
  cases hz0 : i.zero with
  | none => simp [hz0] at hz
  | some z0 =>
    simp only [hz0, Option.map_some, Option.some.injEq] at hz
    simp only [hi, hu, hz0, hz, places_ok h]
    have e : (fun i => match nthO fs i with | some (o, n, _) => some (o, n) | none => none) = (fun x => (fs.map fun x => (x.1, x.2.1)).toArray[x]?) := by
      funext j
      rw [nthO_eq]
      simp only [List.getElem?_toArray, List.getElem?_map]
      cases fs[j]? <;> rfl
    rw [← e]
    exact fillC_spec _ ρ _ _ _ hf
omit hT in
theorem parts_map (ev : Operand → SV) (ρ : Rho) (ps : Array (Nat × Operand)) : (ps.map fun (i, x) => (i, evr ev ρ x)).toList = (ps.toList.map fun p => (p.1, ev p.2)).map (partV ρ) := by
  simp [partV, evr, Function.comp_def]
omit hT in
theorem slOff_eq (off esz l m : Nat) : slOff off esz l m = if m = l ∨ l = 0 then off else off + l * esz := by
  cases l with
  | zero => simp [slOff]
  | succ l => simp [slOff]
omit hT in
theorem run_bound_sx {v : SV} {n : Nat} (h : natOf v = some n) (ρ : Rho) (w : World) {y : Nat} (hy : n ≤ y) (code : BoundsCode) : (Instr.sliceBound (v.den ρ) y code).run P w = .ok n w := by
  have hn : (0 : Int) ≤ (n : Int) ∧ (n : Int) ≤ (y : Int) := ⟨by omega, by omega⟩
  simp only [natOf_ok h ρ, Instr.sliceBound, asIntOf, Sem.run_bind, Sem.run_pure, Result.andThen_ok]
  rw [if_pos hn]
  simp
omit hT in
theorem run_bounds_sx {ev : Operand → SV} (ρ : Rho) (w : World) (len cap : Nat) (lo hi mx : Option Operand) {l k m : Nat} (hl : bndO (lo.map ev) 0 = some l) (hk : bndO (hi.map ev) len = some k) (hm : bndO (mx.map ev) cap = some m)
    (hc : l ≤ k ∧ k ≤ m ∧ m ≤ cap) (hne : ∀ b : Operand, hi = none → mx = some b → False) (is : Bool) :
    (Instr.sliceBounds is len cap (lo.map (evr ev ρ)) (hi.map (evr ev ρ)) (mx.map (evr ev ρ))).run P w = .ok (l, k, m) w := by
  unfold Instr.sliceBounds
  have bd : ∀ {v : SV} {n y : Nat} {code : BoundsCode}, natOf v = some n → n ≤ y → (Instr.sliceBound (v.den ρ) y code).run P w = .ok n w := fun h hy => run_bound_sx h ρ w hy _
  cases mx with
  | none =>
    simp only [bndO, Option.map_none, Option.some.injEq] at hm
    subst hm
    cases hi with
    | none =>
      simp only [bndO, Option.map_none, Option.some.injEq] at hk
      subst hk
      cases lo with
      | none => simp only [bndO, Option.map_none, Option.some.injEq] at hl; subst hl; simp
      | some a => simp only [bndO, Option.map_some] at hl; simp [evr, bd hl hc.1]
    | some b =>
      simp only [bndO, Option.map_some] at hk
      cases lo with
      | none => simp only [bndO, Option.map_none, Option.some.injEq] at hl; subst hl; simp [evr, bd hk hc.2.1]
      | some a => simp only [bndO, Option.map_some] at hl; simp [evr, bd hl hc.1, bd hk hc.2.1]
  | some c =>
    simp only [bndO, Option.map_some] at hm
    cases hi with
    | none => exact (hne c rfl rfl).elim
    | some b =>
      simp only [bndO, Option.map_some] at hk
      cases lo with
      | none => simp only [bndO, Option.map_none, Option.some.injEq] at hl; subst hl; simp [evr, bd hm hc.2.2, bd hk hc.2.1]
      | some a => simp only [bndO, Option.map_some] at hl; simp [evr, bd hl hc.1, bd hk hc.2.1, bd hm hc.2.2]
theorem eff_val {o : Oper} {ev : Operand → SV} {hp : Nat → Option Blk} {v : SV} (h : eff T o.op ev hp = some (.val v)) (ρ : Rho) (w : World) (hh : ∀ b blk, hp b = some blk → Holds ρ blk b w) :
    (execOp (evr ev ρ) o).run P w = .ok (.value (v.den ρ)) w := by
  obtain ⟨dst, op, ty, pos, after, guard⟩ := o
  simp only at h
  cases op <;> simp only [eff] at h <;> try (cases h; done)
  case move x => cases h; rfl
  case assign x => cases h; rfl
  case pick c a b =>
    split at h
    · rename_i t hc
      split at h
      · rename_i x y ha hb
        simp only [bv, Option.some.injEq, Eff.val.injEq] at h; subst h
        simp only [execOp, evr, hc, ha, hb]
        cases t <;> simp [SV.den, C.den, C.cells, asBool]
      · simp only [Option.some.injEq, Eff.val.injEq] at h; subst h
        have e : (SV.c (C.val (.bool t))).den ρ = .bool t := rfl
        simp only [execOp, evr, hc, e]
        cases t <;> simp [selB, asBool]
    · cases h
  case alloc t => split at h <;> cases h
  case box t x =>
    split at h
    · split at h <;> cases h
    · cases h
  case buildSlice t len parts =>
    split at h
    · split at h
      · split at h <;> cases h
      · cases h
    · cases h
  case load t x =>
    split at h
    · rename_i b off ti hx ht
      split at h
      · rename_i blk hb
        split at h
        · rename_i v' hv
          cases h
          have := run_load_sx hT ht (hh b blk hb) hv
          have e : (SV.c (C.ptr b off)).den ρ = adr ρ b off := rfl
          simp only [execOp, evr, hx, e, Sem.run_bind, this, Result.andThen_ok, Sem.run_pure]
        · cases h
      · cases h
    · cases h
  case store t x y =>
    split at h
    · split at h
      · split at h
        · split at h
          · cases h
          · split at h <;> cases h
        · cases h
      · cases h
    · cases h
  case build t parts =>
    split at h
    · rename_i size ag z fs eq ht
      obtain ⟨fd, hu, hm, -⟩ := sh_ok hT ht
      split at h
      · rename_i cs hf
        cases h
        have hb := built_struct ρ hu hm ((hT _ _ ht).zero ρ) hf
        rw [← parts_map] at hb
        simp only [execOp, Sem.run_bind, run_build w t _ _ hb, Result.andThen_ok, Sem.run_pure]
        rfl
      · split at h
        · rename_i cs hf
          cases h
          have hb := built_struct ρ hu hm (by rw [cellsL_split]; exact (hT _ _ ht).zero ρ) hf
          rw [← parts_map] at hb
          simp only [execOp, Sem.run_bind, run_build w t _ _ hb, Result.andThen_ok, Sem.run_pure]
          rfl
        · cases h
    · rename_i size ag z n esz a eq ht
      obtain ⟨e, hu, he, hr, -⟩ := sh_ok hT ht
      split at h
      · rename_i cs hf
        cases h
        have hb := built_array ρ hu he hr ((hT _ _ ht).zero ρ) hf
        rw [← parts_map] at hb
        simp only [execOp, Sem.run_bind, run_build w t _ _ hb, Result.andThen_ok, Sem.run_pure]
        rfl
      · cases h
    · cases h
  case binOp op t x y yt =>
    have := binS_ok hT h ρ w x y
    simp only [execOp, evr]
    rw [Sem.run_bind, this]
    rfl
  case unOp op t x =>
    split at h
    · rename_i b hx
      simp only [bv, Option.some.injEq, Eff.val.injEq] at h; subst h
      simp only [execOp, evr, hx]; rfl
    · rename_i a ha hx
      simp only [iv, Option.some.injEq, Eff.val.injEq] at h; subst h
      simp only [execOp, evr, hx]; rfl
    · rename_i op k a hx
      unfold pureO at h
      split at h
      · rename_i v' hv
        cases h
        have e : (SV.c (C.val (.int k a))).den ρ = .int k a := rfl
        simp only [execOp, evr, hx, e, hv]; rfl
      · cases h
    · cases h
  case convert s d x =>
    split at h
    all_goals first
      | (cases h; done)
      | (rename_i hs ht hx
         have hu := sh_ok hT ht
         obtain ⟨ds, hds, -⟩ := under_ok hT hs
         simp only [iv, Option.some.injEq, Eff.val.injEq] at h
         subst h
         simp only [execOp, evr, hx]
         simp only [ShOk] at hu
         simp [convert, run_underlying hds w, run_underlying hu w, SV.den, C.den, C.cells, Conv.intToInt])
  case fieldAddr t x f =>
    split at h
    · rename_i sz ag z fs eq b off ht hx
      obtain ⟨fd, hu, hm, -⟩ := sh_ok hT ht
      split at h
      · rename_i o n a hf
        split at h
        · cases h
        · rename_i hn
          cases h
          obtain ⟨g, hg, rfl,rfl,hr⟩ := fields_get hm hf
          obtain ⟨i, hi⟩ := info_of_rowO hr
          have e : (SV.c (C.ptr b off)).den ρ = adr ρ b off := rfl
          have hs := run_sizeOf w hi
          simp only [execOp, evr, hx, e, Instr.fieldAt, Sem.run_bind, run_underlying hu w, Result.andThen_ok, hg, adr, Instr.sureAddr, Sem.run_pure, fieldPlace, hs]
          rw [if_neg hn]
          simp only [Sem.run_pure, Result.andThen_ok, Addr.add_mid]
          simp [SV.den, C.den, C.cells, adr, Nat.add_assoc]
      · cases h
    · cases h
  case field t x f =>
    split at h
    · rename_i sz ag z fs eq l ht hx
      obtain ⟨fd, hu, hm, h1⟩ := sh_ok hT ht
      split at h
      · rename_i o n a hf
        split at h
        · rename_i v' hv
          cases h
          have hmem : (o, n, a) ∈ fs := by rw [nthO_eq] at hf; exact List.mem_of_getElem? hf
          obtain ⟨g, hg, rfl,rfl,hr⟩ := fields_get hm hf
          have hp := run_part_sx hr (fun e => h1 _ hmem e) hv w (ρ := ρ)
          simp only [execOp, evr, hx, den_agg, Instr.field, Sem.run_bind, run_underlying hu w, Result.andThen_ok, hg, asAgg, Sem.run_pure, hp]
        · cases h
      · cases h
    · cases h
  case indexAddr t x i =>
    split at h
    · rename_i sz ag z n esz a eq b off j ht hx hi
      obtain ⟨e, hu, he, hr, -⟩ := sh_ok hT ht
      split at h
      · rename_i hlt
        cases h
        obtain ⟨ie, hie⟩ := info_of_rowO hr
        have hs := run_sizeOf w hie
        have hpx : (SV.c (C.ptr b off)).den ρ = adr ρ b off := rfl
        have hj : (0 : Int) ≤ (j : Int) ∧ (j : Int) < (n : Int) := ⟨by omega, by omega⟩
        simp only [execOp, evr, hx, natOf_ok hi ρ, hpx, Instr.indexAt, asIntOf, Sem.run_bind, Sem.run_pure, Result.andThen_ok, run_underlying hu w, adr, Instr.sureAddr]
        rw [if_pos hj]
        simp only [Sem.run_bind, hs, Result.andThen_ok, Sem.run_pure, Addr.add_mid, Int.toNat_natCast, he]
        simp [SV.den, C.den, C.cells, adr, Nat.add_assoc]
      · cases h
    · rename_i sz ag z e esz ez eq nl b off len cap hl j ht hx hi
      obtain ⟨hu, he, hie, -⟩ := sh_ok hT ht
      split at h
      · rename_i hlt
        cases h
        obtain ⟨ie, hie⟩ := Option.isSome_iff_exists.1 hie
        have hs := run_sizeOf w hie
        have hnl := hl.pos hlt
        subst hnl
        have hpx : (SV.c (C.sli false b off len cap hl)).den ρ = .slice (some ⟨(ρ b).1, (ρ b).2 + off, none⟩) len cap := rfl
        have hj : (0 : Int) ≤ (j : Int) ∧ (j : Int) < (len : Int) := ⟨by omega, by omega⟩
        simp only [execOp, evr, hx, natOf_ok hi ρ, hpx, Instr.indexAt, asIntOf, Sem.run_bind, Sem.run_pure, Result.andThen_ok, run_underlying hu w]
        rw [if_pos hj]
        simp only [Sem.run_bind, hs, Result.andThen_ok, Sem.run_pure, Addr.add_mid, Int.toNat_natCast, he]
        simp [SV.den, C.den, C.cells, adr, Nat.add_assoc]
      · cases h
    · cases h
  case index t x i =>
    split at h
    · rename_i sz ag z n esz a eq l j ht hx hi
      obtain ⟨e, hu, he, hr, h1⟩ := sh_ok hT ht
      split at h
      · rename_i hlt
        split at h
        · rename_i v' hv
          cases h
          obtain ⟨ie, hie⟩ := info_of_rowO hr
          have hs := run_sizeOf w hie
          subst he
          have hp := run_part_sx hr h1 hv w (ρ := ρ)
          have hj : (0 : Int) ≤ (j : Int) ∧ (j : Int) < (n : Int) := ⟨by omega, by omega⟩
          simp only [execOp, evr, hx, natOf_ok hi ρ, den_agg, Instr.index, asIntOf, Sem.run_bind, Sem.run_pure, Result.andThen_ok, run_underlying hu w]
          rw [if_pos hj]
          simp only [Sem.run_bind, hs, Result.andThen_ok, Int.toNat_natCast, hp]
        · cases h
      · cases h
    · rename_i sz ag z eq s j ht hx hi
      have hu : P.underlying t = some .string := sh_ok hT ht
      split at h
      · rename_i hlt
        cases h
        have e1 : (SV.c (C.val (.string s))).den ρ = .string s := rfl
        have h0 : (0 : Int) ≤ (j : Int) := by omega
        have hb : s[j]? = some (s.data[j]?.getD 0) := by
          have hd : j < s.data.size := hlt
          rw [getElem?_pos s j hlt, Array.getElem?_eq_getElem hd]
          rfl
        simp only [execOp, evr, hx, natOf_ok hi ρ, e1, Instr.index, asIntOf, Sem.run_bind, Sem.run_pure, Result.andThen_ok, run_underlying hu w]
        simp only [if_pos h0, Int.toNat_natCast, hb]
        rfl
      · cases h
    · cases h
  case slice t x lo hi mx =>
    split at h
    · rename_i sz ag z e esz ez eq nl b off len cap hl ht hx
      obtain ⟨hu, he, hie, -⟩ := sh_ok hT ht
      obtain ⟨ie, hie⟩ := Option.isSome_iff_exists.1 hie
      have hs := run_sizeOf w hie
      have hpx : (SV.c (C.sli nl b off len cap hl)).den ρ = .slice (nlA nl ⟨(ρ b).1, (ρ b).2 + off, none⟩) len cap := rfl
      split at h
      · rename_i l k m hl1 hk1 hm1
        split at h
        · rename_i hc
          cases h
          have hbd := run_bounds_sx (P := P) (ev := ev) ρ w len cap lo hi mx hl1 hk1 hm1 hc.1 (fun b e1 e2 => by subst e1; subst e2; simp at hc) true
          simp only [execOp, evr, hx, hpx, Instr.sliceAt, Instr.slice, Sem.run_bind, run_underlying hu w, Result.andThen_ok]
          rw [hbd]
          simp only [Result.andThen_ok, hs, Sem.run_pure, SV.den, C.den, C.cells, List.headD_cons, he]
          have ea : (if m = l then nlA nl ⟨(ρ b).1, (ρ b).2 + off, none⟩ else Option.map (fun x => x.add (l * esz)) (nlA nl ⟨(ρ b).1, (ρ b).2 + off, none⟩)) = nlA nl ⟨(ρ b).1, (ρ b).2 + slOff off esz l m, none⟩ := by
            rw [slOff_eq]
            cases nl
            · simp only [nlA, Option.map_some, Addr.add_mid]
              by_cases h1 : m = l
              · simp [h1]
              · by_cases h2 : l = 0
                · subst h2; simp [h1]
                · simp [h1, h2, Nat.add_assoc]
            · simp [nlA]
          rw [ea]
        · cases h
      · cases h
    · rename_i sz ag z e esz ez eq a n c ht hx
      obtain ⟨hu, he, hie, -⟩ := sh_ok hT ht
      obtain ⟨ie, hie⟩ := Option.isSome_iff_exists.1 hie
      have hs := run_sizeOf w hie
      split at h
      · rename_i k hl1 hk1
        split at h
        · rename_i hkc
          cases h
          have hbd := run_bounds_sx (P := P) (ev := ev) ρ w n c lo hi none hl1 hk1 rfl ⟨Nat.zero_le _, hkc, Nat.le_refl _⟩ (fun b e1 e2 => by cases e2) true
          have e1 : (SV.c (C.val (.slice a n c))).den ρ = .slice a n c := rfl
          simp only [execOp, evr, hx, e1, Instr.sliceAt, Instr.slice, Sem.run_bind, run_underlying hu w, Result.andThen_ok]
          rw [hbd]
          simp only [Result.andThen_ok, hs, Sem.run_pure]
          have ea : (if c = 0 then a else Option.map (fun x => x.add (0 * P.cellsOf e)) a) = a := by cases a <;> simp [Addr.add]
          rw [ea]
          rfl
        · cases h
      · cases h
    · rename_i sz ag z eq s ht hx
      have hu : P.underlying t = some .string := sh_ok hT ht
      split at h
      · rename_i l k hl1 hk1
        split at h
        · rename_i hc
          cases h
          have hbd := run_bounds_sx (P := P) (ev := ev) ρ w s.size s.size lo hi none hl1 hk1 rfl ⟨hc.1, hc.2, Nat.le_refl _⟩ (fun b e1 e2 => by cases e2) false
          have e1 : (SV.c (C.val (.string s))).den ρ = .string s := rfl
          simp only [execOp, evr, hx, e1, Instr.sliceAt, Instr.slice, Sem.run_bind, run_underlying hu w, Result.andThen_ok]
          simp only [Option.map_none] at hbd
          simp [hbd]
          rfl
        · cases h
      · cases h
    · cases h
  case nilCheck x =>
    split at h
    · rename_i b off hx
      cases h
      have e : (SV.c (C.ptr b off)).den ρ = adr ρ b off := rfl
      simp only [execOp, evr, hx, e, adr]; rfl
    · rename_i f bd caps hx
      cases h
      have e : (SV.c (C.fn f bd caps)).den ρ = .func (.func f) (bndV bd) (caps.map fun p => adr ρ p.1 p.2).toArray := rfl
      simp only [execOp, evr, hx, e]; rfl
    · cases h
  case extract x i =>
    split at h
    · rename_i l hx
      split at h
      · rename_i t ht
        cases h
        rw [nthO_eq] at ht
        have e : (SV.tup l).den ρ = .tuple (l.map (T1.den ρ)).toArray := rfl
        have : (l.map (T1.den ρ)).toArray[i]? = some (t.den ρ) := by simp [ht]
        simp only [execOp, evr, hx, e, Instr.extract, this, Sem.run_bind, Sem.run_pure, Result.andThen_ok]
        cases t <;> rfl
      · cases h
    · cases h
  case makeFunc fn first captured =>
    split at h
    · rename_i f ps hf hp
      cases h
      have hc := ptrs_ok ρ hp
      have hfirst : first = #[] := Array.toList_eq_nil_iff.1 hf
      subst hfirst
      have : captured.map (evr ev ρ) = (ps.map fun p => adr ρ p.1 p.2).toArray := by
        apply Array.toList_inj.1
        rw [← hc]
        simp [evr, Function.comp_def]
      simp only [execOp, this, Instr.makeFunc, Sem.run_bind, Sem.run_pure, Result.andThen_ok, Array.map_empty]
      rfl
    · rename_i f x hf hp
      have hc := ptrs_ok ρ hp
      have hfirst : first = #[x] := Array.toList_inj.1 (by rw [hf])
      subst hfirst
      have hn : captured.toList = [] := by
        have hc : List.map (SV.den ρ) (List.map ev captured.toList) = [] := hc
        simpa using hc
      have : captured.map (evr ev ρ) = #[] := by
        apply Array.toList_inj.1
        rw [Array.toList_map, hn]; rfl
      split at h
      · rename_i l hx
        split at h
        · rename_i b bs hb
          cases h
          have e : (SV.agg l).den ρ = .agg (cellsL ρ l).toArray := rfl
          have e3 : (#[x] : Array Operand).map (evr ev ρ) = bndV (b :: bs) := by
            apply Array.toList_inj.1
            rw [Array.toList_map]
            show [(ev x).den ρ] = _
            rw [hx, e, bndL_cells ρ hb]; rfl
          simp only [execOp, this, e3, Instr.makeFunc, Sem.run_bind, Sem.run_pure, Result.andThen_ok]
          rfl
        · cases h
      · cases h
    · cases h
  case call c =>
    obtain ⟨ce, args, ts⟩ := c
    simp only at h
    have two : ∀ {x y : Operand}, args.toList = [x, y] → args = #[x, y] := fun h => Array.toList_inj.1 (by rw [h])
    have three : ∀ {x y z : Operand}, args.toList = [x, y, z] → args = #[x, y, z] := fun h => Array.toList_inj.1 (by rw [h])
    split at h
    · rename_i x t ha htt
      have ea : args = #[x] := Array.toList_inj.1 (by rw [ha])
      have et : ts = #[t] := Array.toList_inj.1 (by rw [htt])
      subst ea; subst et
      split at h
      · rename_i sz ag z e esz ez eq nl b off len cap hl ht hx
        cases h
        obtain ⟨hu, -⟩ := sh_ok hT ht
        simp only [execOp, resolve, invoke, builtin, Builtin.len_]
        simp [evr, hx, run_underlying hu w, goInt, SV.den, C.den, C.cells]
      · rename_i sz ag z e esz ez eq av len cap ht hx
        split at h
        · cases h
          obtain ⟨hu, -⟩ := sh_ok hT ht
          simp only [execOp, resolve, invoke, builtin, Builtin.len_]
          simp [evr, hx, run_underlying hu w, goInt, SV.den, C.den, C.cells]
        · cases h
      · rename_i sz ag z eq s ht hx
        split at h
        · cases h
          have hu : P.underlying t = some .string := sh_ok hT ht
          simp only [execOp, resolve, invoke, builtin, Builtin.len_]
          simp [evr, hx, run_underlying hu w, goInt, SV.den, C.den, C.cells]
        · cases h
      · cases h
    · rename_i x y ha
      have ea := two ha
      subst ea
      split at h
      · rename_i a h1 b h2 hx hy
        cases h
        simp only [execOp, resolve, invoke, builtin, Builtin.min_]
        simp [evr, hx, hy, SV.den, C.den, C.cells, Builtin.min2, minI]
      · cases h
    · rename_i x y ha
      have ea := two ha
      subst ea
      split at h
      · rename_i a h1 b h2 hx hy
        cases h
        simp only [execOp, resolve, invoke, builtin, Builtin.max_]
        simp [evr, hx, hy, SV.den, C.den, C.cells, Builtin.max2, maxI]
      · cases h
    · rename_i x y z ha
      have ea := three ha
      subst ea
      split at h
      · rename_i a h1 b h2 c h3 hx hy hz
        cases h
        simp only [execOp, resolve, invoke, builtin, Builtin.min_]
        simp [evr, hx, hy, hz, SV.den, C.den, C.cells, Builtin.min2, minI]
        rfl
      · cases h
    · rename_i x y z ha
      have ea := three ha
      subst ea
      split at h
      · rename_i a h1 b h2 c h3 hx hy hz
        cases h
        simp only [execOp, resolve, invoke, builtin, Builtin.max_]
        simp [evr, hx, hy, hz, SV.den, C.den, C.cells, Builtin.max2, maxI]
        rfl
      · cases h
    · cases h
end
end Go.Proofs.YthmdmbpecgakkaaDoor

namespace Go.Proofs.YthmdmbpecgakkaaDoor
open Go.RowKit

def Eff.isVal : Option Eff → Prop
 | some (.val _) => True
 | none => True
 | _ => False
theorem pureO_val (s : Sem Value) : Eff.isVal (pureO s) := by unfold pureO; split <;> trivial
theorem binS_val (T : TypeId → Option TI) (op : BinOp) (t : TypeId) (x y : SV) : Eff.isVal (binS T op t x y) := by
 unfold binS
 (repeat' split) <;> first | trivial | exact pureO_val _
section
variable {P : Program} {T : TypeId → Option TI} (hT : TOk P T)
include hT
theorem eff_new {o : Oper} {ev : Operand → SV} {hp : Nat → Option Blk} {b : Blk} {f : Nat → SV} (h : eff T o.op ev hp = some (.new b f)) (ρ : Rho) (w : World) :
  ∃ val, (execOp (evr ev ρ) o).run P w = .ok (.value val) (w.alloc (.cells (cellsL ρ b.cs).toArray b.ty)) ∧ (b.ro = false ∧ b.tl = 0) ∧ ∀ (ρ' : Rho) (n : Nat), ρ' n = (w.heap.size, 0) → (f n).den ρ' = val := by
 obtain ⟨dst, op, ty, pos, after, guard⟩ := o
 simp only at h
 cases op <;> simp only [eff] at h <;> try (cases h; done)
 case alloc t =>
  split at h
  ·rename_i ti ht
   cases h
   refine ⟨.pointer (some ⟨w.heap.size, 0, none⟩), ?_, ⟨rfl, rfl⟩, fun ρ' n hn => by simp [SV.den, C.den, C.cells, adr, hn]⟩
   simp only [execOp, Sem.run_bind, run_alloc_sx hT ht ρ, Result.andThen_ok, Sem.run_pure]
  ·cases h
 case box t x =>
  split at h
  ·rename_i l hl
   split at h
   ·cases h
    refine ⟨.pointer (some ⟨w.heap.size, 0, none⟩), ?_, ⟨rfl, rfl⟩, fun ρ' n hn => by simp [SV.den, C.den, C.cells, adr, hn]⟩
    simp only [execOp, evr, Sem.run_bind, run_box_sx hl ρ, Result.andThen_ok, Sem.run_pure]
   ·cases h
  ·cases h
 case buildSlice t len parts =>
  split at h
  ·rename_i sz ag z e esz ez eq ht
   split at h
   ·rename_i cs hf
    split at h
    ·rename_i hl
     cases h
     refine ⟨.slice (some ⟨w.heap.size, 0, none⟩) len len, ?_, ⟨rfl, rfl⟩, fun ρ' n hn => by simp [SV.den, C.den, C.cells, nlA, hn]⟩
     have hp := parts_map ev ρ parts
     simp only [execOp, Sem.run_bind, run_buildSlice_sx (sh_ok hT ht) hp hf hl.2 w, Result.andThen_ok, Sem.run_pure]
    ·cases h
   ·cases h
  ·cases h
 case store t x y => (repeat' split at h) <;> cases h
 all_goals
  exfalso
  have hv : Eff.isVal (some (.new b f)) := by
   rw [← h]
   (repeat' split) <;> first | trivial | exact pureO_val _ | exact binS_val _ _ _ _ _
  exact hv
theorem eff_put {o : Oper} {ev : Operand → SV} {hp : Nat → Option Blk} {b : Nat} {cs : List C} (h : eff T o.op ev hp = some (.put b cs)) :
  ∃ blk off l, hp b = some blk ∧ blk.ro = false ∧ isStore o.op = true ∧ ∀ (ρ : Rho) (w : World), Holds ρ blk b w → (execOp (evr ev ρ) o).run P w = .ok .skip (w.setCells (ρ b).1 off (cellsL ρ l)) ∧
   ∃ t : List Value, t.length = blk.tl ∧ (w.setCells (ρ b).1 off (cellsL ρ l)).heap[(ρ b).1]? = some (.cells (cellsL ρ cs ++ t).toArray blk.ty (0, 0)) := by
 obtain ⟨dst, op, ty, pos, after, guard⟩ := o
 simp only at h
 cases op <;> simp only [eff] at h <;> try (cases h; done)
 case store t x y =>
  split at h
  ·rename_i b' off l ti hx hy ht
   split at h
   ·rename_i hs
    split at h
    ·rename_i blk hb
     split at h
     ·cases h
     ·rename_i hro
      have hro : blk.ro = false := by simpa using hro
      split at h
      ·rename_i cs' hc
       cases h
       refine ⟨blk, off, l, hb, hro, rfl, fun ρ w hh => ?_⟩
       obtain ⟨h1, h2⟩ := run_store_sx hT ht hh hro hy hs.1 hs.2 hc
       have hpx : (SV.c (C.ptr b off)).den ρ = adr ρ b off := rfl
       refine ⟨?_, h2⟩
       simp only [execOp, evr, hx, hpx, Sem.run_bind, h1, Result.andThen_ok, Sem.run_pure]
      ·cases h
    ·cases h
   ·cases h
  ·cases h
 case alloc t => (repeat' split at h) <;> cases h
 case buildSlice t len parts => (repeat' split at h) <;> cases h
 case box t x => (repeat' split at h) <;> cases h
 all_goals
  exfalso
  have hv : Eff.isVal (some (.put b cs)) := by
   rw [← h]
   (repeat' split) <;> first | trivial | exact pureO_val _ | exact binS_val _ _ _ _ _
  exact hv
omit hT in
def Callable (P : Program) (f : FuncId) : Prop := ∃ fn, P.funcs[f]? = some fn ∧ fn.body.isNone = false ∧ (fn.name == "runtime.NumGoroutine") = false
omit hT in
theorem run_call_sx {o : Oper} {c : Call} (ho : o.op = .call c) {ev : Operand → SV} {f : FuncId} {args : List SV} (hc : callee ev c = some (f, args)) (hf : Callable P f) (ρ : Rho) (w : World) :
  (execOp (evr ev ρ) o).run P w = .ok (.enter f (args.map (SV.den ρ)).toArray) w := by
 obtain ⟨fn, h1, h2, h3⟩ := hf
 obtain ⟨ce, xs, ts⟩ := c
 unfold callee at hc
 split at hc
 ·rename_i fo hce
  split at hc
  ·rename_i g bd caps hg
   cases hc
   simp only at hce
   subst hce
   have e : (SV.c (C.fn f bd caps)).den ρ = .func (.func f) (bndV bd) (caps.map fun p => adr ρ p.1 p.2).toArray := rfl
   have ea : bndV bd ++ xs.map (evr ev ρ) ++ (caps.map fun p => adr ρ p.1 p.2).toArray = ((bndA bd ++ (xs.toList.map ev ++ caps.map fun p => SV.c (.ptr p.1 p.2))).map (SV.den ρ)).toArray := by
    rw [← bndA_den ρ bd]
    apply Array.toList_inj.1
    simp [evr, Function.comp_def, SV.den, C.den, C.cells]
   simp only [execOp, ho, resolve]
   have e2 : evr ev ρ fo = .func (.func f) (bndV bd) (caps.map fun p => adr ρ p.1 p.2).toArray := by simp only [evr, hg, e]
   rw [e2]
   simp only [Deferred.ofValue, Sem.run_bind, Sem.run_pure, Result.andThen_ok, invoke, ea, callFunc, run_program, h1, h2, h3]
   simp
  ·cases hc
 ·cases hc
end

def Agr (hf : Nat → Option Blk) (ρ ρ0 : Rho) : Prop := ∀ i, (hf i).isSome = true → ρ i = ρ0 i
def upF (hf : Nat → Option Blk) (n : Nat) (b : Blk) : Nat → Option Blk := fun i => if i = n then some b else hf i
def upR (ρ : Rho) (n : Nat) (p : Nat × Nat) : Rho := fun i => if i = n then p else ρ i
structure Base where
 w : World
 B : Nat → Prop
 ρ : Rho
 lo : Nat
def softO : Obj → Bool
 | .cells _ _ _ => true
 | .map _ _ => true
 | _ => false
theorem soft_of_cells {o : Obj} (h : o.isCells = true) : softO o = true := by cases o <;> first | rfl | cases h
structure KeepsO2 (W W' : World) : Prop where
 size : W.heap.size ≤ W'.heap.size
 same : ∀ (k : Nat) (o : Obj), W.heap[k]? = some o → softO o = false → W'.heap[k]? = some o
theorem KeepsO2.of {W W' : World} (h : KeepsOthers W W') : KeepsO2 W W' := ⟨h.size, fun k o hk ho => h.same k o hk (by cases hc : o.isCells; rfl; rw [soft_of_cells hc] at ho; cases ho)⟩
theorem KeepsO2.refl (W : World) : KeepsO2 W W := ⟨Nat.le_refl _, fun _ _ h _ => h⟩
theorem KeepsO2.trans {A B C : World} (h : KeepsO2 A B) (k : KeepsO2 B C) : KeepsO2 A C := ⟨Nat.le_trans h.size k.size, fun i o hi ho => k.same i o (h.same i o hi ho) ho⟩
structure BelO (N : Nat) (A B : World) : Prop where
 below : Below N A B
 oth : KeepsO2 A B
theorem BelO.refl (N : Nat) (A : World) : BelO N A A := ⟨Below.refl _ _, KeepsO2.refl _⟩
theorem BelO.trans {N : Nat} {A B C : World} (h : BelO N A B) (k : BelO N B C) : BelO N A C := ⟨h.below.trans k.below, h.oth.trans k.oth⟩
theorem keeps_of_below {A B : World} (h : Below A.heap.size A B) : KeepsOthers A B := ⟨h.size, fun k _ hk _ => (h.block k (Array.getElem?_eq_some_iff.1 hk).1).trans hk⟩
theorem BelO.of {N : Nat} {A B : World} (h : Below A.heap.size A B) (hN : N ≤ A.heap.size) : BelO N A B := ⟨h.mono hN, .of (keeps_of_below h)⟩
theorem BelO.alloc {N : Nat} {A B : World} (h : BelO N A B) (hN : N ≤ B.heap.size) (o : Obj) : BelO N A (B.alloc o) := ⟨h.below.alloc hN _, h.oth.trans (.of (KeepsOthers.alloc _ _))⟩
theorem BelO.grown {N : Nat} {A B C : World} {g : Option Nat} (h : BelO N A B) (hg : B.grownBy C g) (hN : N ≤ B.heap.size) (h1 : ∀ k, g = some k → N ≤ k) (h2 : ∀ k, g = some k → ∃ vs t p, B.heap[k]? = some (.cells vs t p)) : BelO N A C :=
 ⟨h.below.grown hg hN h1, h.oth.trans (.of (KeepsOthers.of_grownBy hg fun j o hj ho => by obtain ⟨vs, t, p, e⟩ := h2 j hj; rw [e] at ho; cases ho; rfl))⟩
theorem sx_setCells_oth {g : Nat} {w : World} : ∀ (vs : List Value) (o : Nat) {W : World}, KeepsOthers w W → KeepsOthers w (W.setCells g o vs)
 | [], _, _, h => h
 | v :: vs, o, W, h => by rw [World.setCells]; exact sx_setCells_oth vs (o + 1) (h.trans (KeepsOthers.setCell W ⟨g, o, none⟩ v))
theorem BelO.setCells {N g : Nat} {A B : World} (h : BelO N A B) (hg : N ≤ g) (vs : List Value) (o : Nat) : BelO N A (B.setCells g o vs) := ⟨sx_setCells_below hg vs o h.below, h.oth.trans (.of (sx_setCells_oth vs o (KeepsOthers.refl _)))⟩
structure FamAt (N : Nat) (w : World) (o : Bool) (e : Ent) : Prop where
 pure : PureL e.cs
 row : ∃ x : Obj, w.heap[e.a.1]? = some x ∧ x.isCells = true
 own : o = true → N ≤ e.a.1 ∧ e.a.2 = 0 ∧ ∃ t : List Value, t.length = e.tl ∧ w.heap[e.a.1]? = some (.cells (cellsL (fun _ => (0, 0)) e.cs ++ t).toArray e.ty (0, 0))
 holds : w.rangeAt e.a.1 e.a.2 (cellsL (fun _ => (0, 0)) e.cs)
 old : o = false → e.a.1 < N
theorem FamAt.lt {N : Nat} {w : World} {o : Bool} {e : Ent} (h : FamAt N w o e) : e.a.1 < w.heap.size := let ⟨_, h1, _⟩ := h.row; (Array.getElem?_eq_some_iff.1 h1).1
theorem FamAt.keep {N : Nat} {w w' : World} {o : Bool} {e : Ent} (h : FamAt N w o e) (hk : w'.heap[e.a.1]? = w.heap[e.a.1]?) : FamAt N w' o e :=
 ⟨h.pure, by rw [hk]; exact h.row, fun ho => ⟨(h.own ho).1, (h.own ho).2.1, by rw [hk]; exact (h.own ho).2.2⟩, fun j v hv => (World.cell?_of_block (w := w) (a := ⟨e.a.1, e.a.2 + j, none⟩) hk).trans (h.holds j v hv), h.old⟩
def FamS (N : Nat) (hf : Nat → Option Blk) (ρ : Rho) (w : World) : Prop := ∀ i b o l e, hf i = some b → b.famOf = some (o, l) → e ∈ l → FamAt N w o e ∧ ∀ j c, hf j = some c → c.ro = false → (ρ j).1 ≠ e.a.1
theorem FamS.keep {N : Nat} {hf : Nat → Option Blk} {ρ : Rho} {w w' : World} (h : FamS N hf ρ w) (hk : ∀ i b o l e, hf i = some b → b.famOf = some (o, l) → e ∈ l → FamAt N w o e → (∀ j c, hf j = some c → c.ro = false → (ρ j).1 ≠ e.a.1) → w'.heap[e.a.1]? = w.heap[e.a.1]?) : FamS N hf ρ w' :=
 fun i b o l e hi hb he => ⟨(h i b o l e hi hb he).1.keep (hk i b o l e hi hb he (h i b o l e hi hb he).1 (h i b o l e hi hb he).2), (h i b o l e hi hb he).2⟩
theorem FamS.up {N : Nat} {hf hf' : Nat → Option Blk} {ρ ρ' : Rho} {w : World} (h : FamS N hf ρ w) (h1 : ∀ i b, hf' i = some b → b.famOf.isSome = true → ∃ i' b', hf i' = some b' ∧ b'.famOf = b.famOf)
  (h2 : ∀ j c, hf' j = some c → c.ro = false → (∃ j' c', hf j' = some c' ∧ c'.ro = false ∧ (ρ' j).1 = (ρ j').1) ∨ ∀ i b o l e, hf i = some b → b.famOf = some (o, l) → e ∈ l → FamAt N w o e → (ρ' j).1 ≠ e.a.1) : FamS N hf' ρ' w := fun i b o l e hi hb he => by
 obtain ⟨i', b', hi', hb'⟩ := h1 i b hi (by rw [hb]; rfl)
 rw [hb] at hb'
 obtain ⟨k1, k2⟩ := h i' b' o l e hi' hb' he
 refine ⟨k1, fun j c hj hc => ?_⟩
 rcases h2 j c hj hc with ⟨j', c', h3, h4, h5⟩ | h3
 ·rw [h5]; exact k2 j' c' h3 h4
 ·exact h3 i' b' o l e hi' hb' he k1
theorem FamS.up2 {N : Nat} {hf hf' : Nat → Option Blk} {ρ ρ' : Rho} {w : World} (h : FamS N hf ρ w) (h1 : ∀ i b, hf' i = some b → b.famOf.isSome = true → (∃ i' b', hf i' = some b' ∧ b'.famOf = b.famOf) ∨ b.famOf = some (true, []))
  (h2 : ∀ j c, hf' j = some c → c.ro = false → (∃ j' c', hf j' = some c' ∧ c'.ro = false ∧ (ρ' j).1 = (ρ j').1) ∨ ∀ i b o l e, hf i = some b → b.famOf = some (o, l) → e ∈ l → FamAt N w o e → (ρ' j).1 ≠ e.a.1) : FamS N hf' ρ' w := fun i b o l e hi hb he => by
 rcases h1 i b hi (by rw [hb]; rfl) with ⟨i', b', hi', hb'⟩ | h0
 ·rw [hb] at hb'
  obtain ⟨k1, k2⟩ := h i' b' o l e hi' hb' he
  refine ⟨k1, fun j c hj hc => ?_⟩
  rcases h2 j c hj hc with ⟨j', c', h3, h4, h5⟩ | h3
  ·rw [h5]; exact k2 j' c' h3 h4
  ·exact h3 i' b' o l e hi' hb' he k1
 ·rw [hb] at h0
  cases h0
  cases he
theorem fam_tl {b : Blk} (h : b.tl = 0) : b.famOf = none := by
 obtain ⟨ty, ro, cs, tl⟩ := b
 subst h
 unfold Blk.famOf famC
 split
 ·rename_i h; cases h
 ·rename_i h; cases h
 ·rfl
theorem fam_ro {b : Blk} (h : b.ro = false) : b.famOf = none := by
 obtain ⟨ty, ro, cs, tl⟩ := b
 subst h
 unfold Blk.famOf famC
 split
 ·rename_i h _; cases h
 ·rename_i h _; cases h
 ·rfl
structure HRel (N : Nat) (w0 : Base) (hf : Nat → Option Blk) (ρ0 : Rho) (w : World) : Prop where
 old : ∀ i b, hf i = some b → b.void = false → (ρ0 i).1 < w.heap.size
 own : ∀ i b, hf i = some b → b.ro = false → N ≤ (ρ0 i).1
 apart : ∀ i j b c, hf i = some b → b.ro = false → hf j = some c → c.void = false → j ≠ i → (ρ0 j).1 ≠ (ρ0 i).1
 holds : ∀ ρ, Agr hf ρ ρ0 → ∀ i b, hf i = some b → Holds ρ b i w
 bel : BelO N w0.w w
 big : N ≤ w.heap.size
 ext : ∀ i, w0.B i → (hf i).isSome = true ∧ ρ0 i = w0.ρ i
 maps : ∀ i b e, hf i = some b → b.mapOf = some e → N ≤ (ρ0 i).1 ∧ w.heap[(ρ0 i).1]? = some (.map (entsV e.1) e.2)
 mapA : ∀ i j b c, hf i = some b → hf j = some c → b.mapOf.isSome = true → c.mapOf.isSome = true → j ≠ i → (ρ0 j).1 ≠ (ρ0 i).1
 fam : FamS N hf ρ0 w
theorem Holds.keep {ρ : Rho} {b : Blk} {i : Nat} {w w' : World} (h : Holds ρ b i w) (hk : w'.heap[(ρ i).1]? = w.heap[(ρ i).1]?) : Holds ρ b i w' :=
 ⟨fun j v hv => (World.cell?_of_block (w := w) (a := ⟨(ρ i).1, (ρ i).2 + j, none⟩) hk).trans (h.1 j v hv), fun hr => ⟨(h.2 hr).1, let ⟨t, h1, h2⟩ := (h.2 hr).2; ⟨t, h1, hk.trans h2⟩⟩⟩
theorem void_spec {b : Blk} (h : b.void = true) : b.ro = true ∧ b.cs = [] := by
 unfold Blk.void at h
 split at h
 ·rename_i h1 h2; exact ⟨h1, h2⟩
 ·cases h
theorem map_spec {b : Blk} {e : List (BV × BV) × Nat} (h : b.mapOf = some e) : ∃ n, b = ⟨.m n e.1 e.2, true, [], 1⟩ := by
 obtain ⟨ty, ro, cs, tl⟩ := b
 unfold Blk.mapOf at h
 simp only at h
 unfold mapC at h
 split at h
 ·cases h; exact ⟨_, rfl⟩
 ·cases h
theorem map_ro {b : Blk} (h : b.ro = false) : b.mapOf = none := by
 cases hm : b.mapOf with
 | none => rfl
 | some e => obtain ⟨n, rfl⟩ := map_spec hm; cases h
theorem map_void {b : Blk} (h : b.mapOf.isSome = true) : b.ro = true := by
 cases hr : b.ro
 ·rw [map_ro hr] at h; cases h
 ·rfl
theorem map_tl {b : Blk} (h : b.tl = 0) : b.mapOf = none := by
 cases hm : b.mapOf with
 | none => rfl
 | some e => obtain ⟨n, rfl⟩ := map_spec hm; cases h
theorem mapless_get : ∀ {l : List Blk} (_ : mapless l = true) {i : Nat} {b : Blk}, nthO l i = some b → b.mapOf = none
 | [], _, i, b, h => by simp [nthO] at h
 | x :: l, hp, i, b, h => by
  unfold mapless at hp
  split at hp
  ·rename_i h0
   cases i with
   | zero => simp [nthO] at h; subst h; exact map_tl h0
   | succ i => exact mapless_get hp (by simpa [nthO] using h)
  ·cases hp
theorem fam_map {b : Blk} (h : b.mapOf.isSome = true) : b.famOf = none := by
 obtain ⟨e, he⟩ := Option.isSome_iff_exists.1 h
 obtain ⟨n, rfl⟩ := map_spec he
 rfl
theorem famless_get : ∀ {l : List Blk} (_ : mapless l = true) {i : Nat} {b : Blk}, nthO l i = some b → b.famOf = none
 | [], _, i, b, h => by simp [nthO] at h
 | x :: l, hp, i, b, h => by
  unfold mapless at hp
  split at hp
  ·rename_i h0
   cases i with
   | zero => simp [nthO] at h; subst h; exact fam_tl h0
   | succ i => exact famless_get hp (by simpa [nthO] using h)
  ·cases hp
theorem own_live {b : Blk} (h : b.ro = false) : b.void = false := by
 unfold Blk.void; rw [h]
theorem Holds.void {b : Blk} (h : b.void = true) (ρ : Rho) (i : Nat) (w : World) : Holds ρ b i w := by
 obtain ⟨h1, h2⟩ := void_spec h
 refine ⟨fun j v hv => ?_, fun h => by rw [h1] at h; cases h⟩
 rw [h2] at hv; simp [cellsL] at hv
theorem void_or (b : Blk) : b.void = true ∨ b.void = false := by cases b.void <;> simp
theorem Agr.refl (hf : Nat → Option Blk) (ρ : Rho) : Agr hf ρ ρ := fun _ _=>rfl
theorem HRel.below {N : Nat} {w0 : Base} {hf : Nat → Option Blk} {ρ0 : Rho} {w w' : World} (h : HRel N w0 hf ρ0 w) (hb : Below w.heap.size w w') : HRel N w0 hf ρ0 w' where
 old i b hi hv := Nat.lt_of_lt_of_le (h.old i b hi hv) hb.size
 own := h.own
 apart := h.apart
 holds ρ hρ i b hi := (void_or b).elim (fun hv => Holds.void hv ρ i w') fun hv => (h.holds ρ hρ i b hi).keep (hb.block _ (by rw [hρ i (by rw [hi]; rfl)]; exact h.old i b hi hv))
 bel := h.bel.trans (BelO.of hb h.big)
 big := Nat.le_trans h.big hb.size
 ext := h.ext
 maps i b e hi he := ⟨(h.maps i b e hi he).1, (hb.block _ (Array.getElem?_eq_some_iff.1 (h.maps i b e hi he).2).1).trans (h.maps i b e hi he).2⟩
 mapA := h.mapA
 fam := h.fam.keep fun _ _ _ _ _ _ _ _ hk _ => hb.block _ hk.lt
theorem HRel.rebase {N : Nat} {w0 w1 : Base} {hf : Nat → Option Blk} {ρ : Rho} {w : World} (h : HRel N w1 hf ρ w) (hb : BelO N w0.w w1.w) (hB : ∀ i, w0.B i → w1.B i ∧ w1.ρ i = w0.ρ i) : HRel N w0 hf ρ w :=
 ⟨h.old, h.own, h.apart, h.holds, hb.trans h.bel, h.big, fun i hi => ⟨(h.ext i (hB i hi).1).1, (h.ext i (hB i hi).1).2.trans (hB i hi).2⟩, h.maps, h.mapA, h.fam⟩
theorem Holds.isCells {ρ : Rho} {b : Blk} {i : Nat} {w : World} (h : Holds ρ b i w) (hv : b.void = false) {o : Obj} (ho : w.heap[(ρ i).1]? = some o) : o.isCells = true := by
 cases hro : b.ro with
 | false =>
  obtain ⟨-, t, -, e⟩ := h.2 hro
  rw [e] at ho; cases ho; rfl
 | true =>
  cases hc : b.cs with
  | nil => unfold Blk.void at hv; rw [hro, hc] at hv; cases hv
  | cons x l =>
   have h0 : 0 < (cellsL ρ b.cs).length := by rw [← sizeC_eq, hc]; cases x <;> simp [sizeC, C.n] <;> omega
   obtain ⟨o', h1, h2⟩ := cells_of_cell (h.1 0 _ (List.getElem?_eq_getElem h0))
   rw [ho] at h1; cases h1; exact h2
theorem HRel.grownBy {N : Nat} {w0 : Base} {hf : Nat → Option Blk} {ρ0 : Rho} {w w' : World} (h : HRel N w0 hf ρ0 w) {row : Option Nat} (hg : w.grownBy w' row) (hr : ∀ r, row = some r → w0.w.heap.size ≤ r ∧ N ≤ r ∧ ∃ o : Obj, w.heap[r]? = some o ∧ softO o = false) : HRel N w0 hf ρ0 w' where
 old i b hi hv := Nat.lt_of_lt_of_le (h.old i b hi hv) hg.size
 own := h.own
 apart := h.apart
 holds ρ hρ i b hi := (void_or b).elim (fun hv => Holds.void hv ρ i w') fun hv => (h.holds ρ hρ i b hi).keep (hg.block _ (by rw [hρ i (by rw [hi]; rfl)]; exact h.old i b hi hv) fun e => by
  obtain ⟨-, -, o, ho, hc⟩ := hr _ e.symm
  rw [soft_of_cells ((h.holds ρ hρ i b hi).isCells hv ho)] at hc; cases hc)
 bel := ⟨h.bel.below.grown hg h.big fun k hk => (hr k hk).2.1, ⟨Nat.le_trans h.bel.oth.size hg.size, fun k o hk ho => (hg.block k (Nat.lt_of_lt_of_le (Array.getElem?_eq_some_iff.1 hk).1 h.bel.oth.size) fun e => by
  have := (hr k e.symm).1
  have := (Array.getElem?_eq_some_iff.1 hk).1
  omega).trans (h.bel.oth.same k o hk ho)⟩⟩
 big := Nat.le_trans h.big hg.size
 ext := h.ext
 maps i b e hi he := ⟨(h.maps i b e hi he).1, (hg.block _ (Array.getElem?_eq_some_iff.1 (h.maps i b e hi he).2).1 fun e2 => by
  obtain ⟨-, -, o, ho, hc⟩ := hr _ e2.symm
  rw [(h.maps i b e hi he).2] at ho; cases ho; cases hc).trans (h.maps i b e hi he).2⟩
 mapA := h.mapA
 fam := h.fam.keep fun _ _ _ _ _ _ _ _ hk _ => hg.block _ hk.lt fun e2 => by
  obtain ⟨-, -, o, ho, hc⟩ := hr _ e2.symm
  obtain ⟨x, h1, h2⟩ := hk.row
  rw [ho] at h1; cases h1
  rw [soft_of_cells h2] at hc; cases hc
theorem HRel.anew {N : Nat} {w0 : Base} {hf : Nat → Option Blk} {ρ0 : Rho} {w w' : World} (h : HRel N w0 hf ρ0 w) {row : Option Nat} (hg : w.grownBy w' row) (hr : ∀ r, row = some r → ∃ o : Obj, w.heap[r]? = some o ∧ softO o = false) (lo : Nat) : HRel N ⟨w', fun i => (hf i).isSome = true, ρ0, lo⟩ hf ρ0 w' where
 old i b hi hv := Nat.lt_of_lt_of_le (h.old i b hi hv) hg.size
 own := h.own
 apart := h.apart
 holds ρ hρ i b hi := (void_or b).elim (fun hv => Holds.void hv ρ i w') fun hv => (h.holds ρ hρ i b hi).keep (hg.block _ (by rw [hρ i (by rw [hi]; rfl)]; exact h.old i b hi hv) fun e => by
  obtain ⟨o, ho, hc⟩ := hr _ e.symm
  rw [soft_of_cells ((h.holds ρ hρ i b hi).isCells hv ho)] at hc; cases hc)
 bel := BelO.refl _ _
 big := Nat.le_trans h.big hg.size
 ext i hi := ⟨hi, rfl⟩
 maps i b e hi he := ⟨(h.maps i b e hi he).1, (hg.block _ (Array.getElem?_eq_some_iff.1 (h.maps i b e hi he).2).1 fun e2 => by
  obtain ⟨o, ho, hc⟩ := hr _ e2.symm
  rw [(h.maps i b e hi he).2] at ho; cases ho; cases hc).trans (h.maps i b e hi he).2⟩
 mapA := h.mapA
 fam := h.fam.keep fun _ _ _ _ _ _ _ _ hk _ => hg.block _ hk.lt fun e2 => by
  obtain ⟨o, ho, hc⟩ := hr _ e2.symm
  obtain ⟨x, h1, h2⟩ := hk.row
  rw [ho] at h1; cases h1
  rw [soft_of_cells h2] at hc; cases hc
theorem range_whole {w : World} {g : Nat} {cs : List Value} {t : TypeId} (h : w.heap[g]? = some (.cells cs.toArray t (0, 0))) : w.rangeAt g 0 cs := fun j v hv => by
 rw [Nat.zero_add, cell_of_row _ _ _ _ _ _ h]; simpa using hv
theorem HRel.new {N : Nat} {w0 : Base} {hf : Nat → Option Blk} {ρ0 : Rho} {w : World} (h : HRel N w0 hf ρ0 w) {n : Nat} (hn : hf n = none) {b : Blk} (hro : b.ro = false ∧ b.tl = 0) {L : List Value}
  (hL : ∀ ρ, Agr hf ρ ρ0 → cellsL ρ b.cs = L) : HRel N w0 (upF hf n b) (upR ρ0 n (w.heap.size, 0)) (w.alloc (.cells L.toArray b.ty)) := by
 have hne : ∀ i c, hf i = some c → i ≠ n := fun i c hi e => by rw [e, hn] at hi; cases hi
 have hup : ∀ i c, upF hf n b i = some c → (i = n ∧ c = b) ∨ (i ≠ n ∧ hf i = some c) := fun i c hi => by
  unfold upF at hi
  split at hi
  ·rename_i e; cases hi; exact .inl ⟨e, rfl⟩
  ·rename_i e; exact .inr ⟨e, hi⟩
 have hr : ∀ i, i ≠ n → upR ρ0 n (w.heap.size, 0) i = ρ0 i := fun i e => if_neg e
 have hrn : upR ρ0 n (w.heap.size, 0) n = (w.heap.size, 0) := if_pos rfl
 refine ⟨fun i c hi hv => ?_, fun i c hi hc => ?_, fun i j c d hi hc hj hd hji => ?_, fun ρ hρ i c hi => ?_, h.bel.alloc h.big _, Nat.le_trans h.big (by simp), fun i hi => ?_, fun i c e hi he => ?_, fun i j c d hi hj hc hd hji => ?_, (h.fam.up (fun i c hi hm => ?_) (fun j c hj hc => ?_)).keep fun _ _ _ _ _ _ _ _ hk _ => Below.heap_alloc _ _ _ hk.lt⟩
 ·rcases hup i c hi with ⟨rfl, rfl⟩ | ⟨e, hi⟩
  ·rw [hrn]; simp
  ·rw [hr i e]; have := h.old i c hi hv; simp; omega
 ·rcases hup i c hi with ⟨rfl, rfl⟩ | ⟨e, hi⟩
  ·rw [hrn]; exact h.big
  ·rw [hr i e]; exact h.own i c hi hc
 ·rcases hup i c hi with ⟨rfl, rfl⟩ | ⟨e, hi1⟩ <;> rcases hup j d hj with ⟨rfl, rfl⟩ | ⟨e', hj1⟩
  ·exact absurd rfl hji
  ·rw [hrn, hr j e']; have := h.old j d hj1 hd; simp; omega
  ·rw [hrn, hr i e]; have := h.old i c hi1 (own_live hc); simp; omega
  ·rw [hr i e, hr j e']; exact h.apart i j c d hi1 hc hj1 hd hji
 ·have hρ' : Agr hf ρ ρ0 := fun k hk => by
   obtain ⟨c', hc'⟩ := Option.isSome_iff_exists.1 hk
   have := hρ k (by unfold upF; rw [if_neg (hne k c' hc')]; exact hk)
   rw [this, hr k (hne k c' hc')]
  rcases hup i c hi with ⟨rfl, rfl⟩ | ⟨e, hi⟩
  ·have hi' : ρ i = (w.heap.size, 0) := by rw [hρ i (by unfold upF; rw [if_pos rfl]; rfl), hrn]
   unfold Holds
   rw [hi', hL ρ hρ']
   have hk := heap_alloc_new w (.cells L.toArray c.ty)
   exact ⟨range_whole hk, fun _ => ⟨rfl, [], hro.2.symm, by rw [List.append_nil]; exact hk⟩⟩
  ·refine (void_or c).elim (fun hv => Holds.void hv ρ i _) fun hv => (h.holds ρ hρ' i c hi).keep (Below.heap_alloc _ _ _ ?_)
   rw [hρ' i (by rw [hi]; rfl)]; exact h.old i c hi hv
 ·obtain ⟨h1, h2⟩ := h.ext i hi
  have hin : i ≠ n := fun e => by rw [e, hn] at h1; cases h1
  rw [hr i hin]
  refine ⟨?_, h2⟩
  unfold upF; rw [if_neg hin]; exact h1
 ·rcases hup i c hi with ⟨rfl, rfl⟩ | ⟨e2, hi⟩
  ·rw [map_ro hro.1] at he; cases he
  ·rw [hr i e2]
   have := h.maps i c e hi he
   exact ⟨this.1, (Below.heap_alloc _ _ _ (Array.getElem?_eq_some_iff.1 this.2).1).trans this.2⟩
 ·rcases hup i c hi with ⟨rfl, rfl⟩ | ⟨e, hi1⟩
  ·rw [map_ro hro.1] at hc; cases hc
  ·rcases hup j d hj with ⟨rfl, rfl⟩ | ⟨e', hj1⟩
   ·rw [map_ro hro.1] at hd; cases hd
   ·rw [hr i e, hr j e']; exact h.mapA i j c d hi1 hj1 hc hd hji
 ·rcases hup i c hi with ⟨rfl, rfl⟩ | ⟨e, hi1⟩
  ·rw [fam_ro hro.1] at hm; cases hm
  ·exact ⟨i, c, hi1, rfl⟩
 ·rcases hup j c hj with ⟨rfl, rfl⟩ | ⟨e, hj1⟩
  ·refine .inr fun i b o l e _ _ _ hk => ?_
   rw [hrn]
   have := hk.lt
   show w.heap.size ≠ _
   omega
  ·exact .inl ⟨j, c, hj1, hc, by rw [hr j e]⟩
theorem range_head {w : World} {g : Nat} {cs t : List Value} {ty : TypeId} (h : w.heap[g]? = some (.cells (cs ++ t).toArray ty (0, 0))) : w.rangeAt g 0 cs := fun j v hv => by
 have hj := (List.getElem?_eq_some_iff.1 hv).1
 rw [Nat.zero_add, cell_of_row _ _ _ _ _ _ h]
 simp only [List.getElem?_toArray]
 rw [List.getElem?_append_left hj]; exact hv
theorem HRel.write {N : Nat} {w0 : Base} {hf : Nat → Option Blk} {ρ0 : Rho} {w w' : World} (h : HRel N w0 hf ρ0 w) {b : Nat} {blk c : Blk} (hb : hf b = some blk) (hro : blk.ro = false) (hcro : c.ro = false)
  (hother : ∀ k, k < w.heap.size → k ≠ (ρ0 b).1 → w'.heap[k]? = w.heap[k]?) (hbel : BelO N w0.w w') (hsz : w.heap.size ≤ w'.heap.size)
  (hk : ∀ ρ, Agr hf ρ ρ0 → ∃ t : List Value, t.length = c.tl ∧ w'.heap[(ρ0 b).1]? = some (.cells (cellsL ρ c.cs ++ t).toArray c.ty (0, 0))) :
  HRel N w0 (upF hf b c) ρ0 w' := by
 have hup : ∀ i d, upF hf b c i = some d → (i = b ∧ d = c) ∨ (i ≠ b ∧ hf i = some d) := fun i d hi => by
  unfold upF at hi
  split at hi
  ·rename_i e; cases hi; exact .inl ⟨e, rfl⟩
  ·rename_i e; exact .inr ⟨e, hi⟩
 have hN := h.own b blk hb hro
 refine ⟨fun i d hi hv => ?_, fun i d hi hc => ?_, fun i j d e hi hc hj he hji => ?_, fun ρ hρ i d hi => ?_, hbel, Nat.le_trans h.big hsz, fun i hi => ?_, fun i d e hi he => ?_, fun i j d e hi hj hd he hji => ?_, (h.fam.keep fun _ _ _ _ _ _ _ _ hk hs => hother _ hk.lt fun e2 => hs b blk hb hro e2.symm).up (fun i d hi hm => ?_) fun j d hj hd => ?_⟩
 ·rcases hup i d hi with ⟨rfl, rfl⟩ | ⟨e, hi⟩
  ·exact Nat.lt_of_lt_of_le (h.old i blk hb (own_live hro)) hsz
  ·exact Nat.lt_of_lt_of_le (h.old i d hi hv) hsz
 ·rcases hup i d hi with ⟨rfl, rfl⟩ | ⟨e, hi⟩
  ·exact hN
  ·exact h.own i d hi hc
 ·rcases hup i d hi with ⟨rfl, rfl⟩ | ⟨e1, hi1⟩ <;> rcases hup j e hj with ⟨rfl, rfl⟩ | ⟨e', hj1⟩
  ·exact absurd rfl hji
  ·exact h.apart i j blk e hb hro hj1 he hji
  ·exact h.apart i j d blk hi1 hc hb (own_live hro) hji
  ·exact h.apart i j d e hi1 hc hj1 he hji
 ·have hρ' : Agr hf ρ ρ0 := fun k hk => hρ k (by unfold upF; split; rfl; exact hk)
  have hbb : ρ b = ρ0 b := hρ' b (by rw [hb]; rfl)
  rcases hup i d hi with ⟨rfl, rfl⟩ | ⟨e, hi⟩
  ·unfold Holds
   have h0 := ((h.holds ρ hρ' i blk hb).2 hro).1
   obtain ⟨t, ht, hk⟩ := hk ρ hρ'
   rw [hbb] at h0 ⊢
   rw [h0]
   exact ⟨range_head hk, fun _ => ⟨rfl, t, ht, hk⟩⟩
  ·refine (void_or d).elim (fun hv => Holds.void hv ρ i _) fun hv => (h.holds ρ hρ' i d hi).keep (hother _ ?_ ?_)
   ·rw [hρ' i (by rw [hi]; rfl)]; exact h.old i d hi hv
   ·rw [hρ' i (by rw [hi]; rfl)]
    exact h.apart b i blk d hb hro hi hv e
 ·obtain ⟨h1, h2⟩ := h.ext i hi
  refine ⟨?_, h2⟩
  unfold upF; split
  ·rfl
  ·exact h1
 ·rcases hup i d hi with ⟨rfl, rfl⟩ | ⟨e2, hi⟩
  ·rw [map_ro hcro] at he; cases he
  ·have hm := h.maps i d e hi he
   refine ⟨hm.1, (hother _ (Array.getElem?_eq_some_iff.1 hm.2).1 fun e3 => ?_).trans hm.2⟩
   obtain ⟨-, t, -, hc⟩ := (h.holds ρ0 (Agr.refl _ _) b blk hb).2 hro
   rw [e3, hc] at hm
   cases hm.2
 ·rcases hup i d hi with ⟨rfl, rfl⟩ | ⟨e1, hi1⟩
  ·rw [map_ro hcro] at hd; cases hd
  ·rcases hup j e hj with ⟨rfl, rfl⟩ | ⟨e', hj1⟩
   ·rw [map_ro hcro] at he; cases he
   ·exact h.mapA i j d e hi1 hj1 hd he hji
 ·rcases hup i d hi with ⟨rfl, rfl⟩ | ⟨e1, hi1⟩
  ·rw [fam_ro hcro] at hm; cases hm
  ·exact ⟨i, d, hi1, rfl⟩
 ·rcases hup j d hj with ⟨rfl, rfl⟩ | ⟨e1, hj1⟩
  ·exact .inl ⟨j, blk, hb, hro, rfl⟩
  ·exact .inl ⟨j, d, hj1, hd, rfl⟩
theorem HRel.put {N : Nat} {w0 : Base} {hf : Nat → Option Blk} {ρ0 : Rho} {w : World} (h : HRel N w0 hf ρ0 w) {b off : Nat} {blk : Blk} {M : List Value} {cs : List C} (hb : hf b = some blk) (hro : blk.ro = false)
  (hk : ∀ ρ, Agr hf ρ ρ0 → ∃ t : List Value, t.length = blk.tl ∧ (w.setCells (ρ0 b).1 off M).heap[(ρ0 b).1]? = some (.cells (cellsL ρ cs ++ t).toArray blk.ty (0, 0))) :
  HRel N w0 (upF hf b { ty := blk.ty, ro := blk.ro, cs := cs, tl := blk.tl }) ρ0 (w.setCells (ρ0 b).1 off M) :=
 h.write hb hro hro (fun _ _ hne => sx_setCells_other hne _ _ _) (h.bel.setCells (h.own b blk hb hro) _ _) (Nat.le_of_eq (sx_setCells_size _ _ _).symm) hk

theorem den_ofConst (v : Value) (ρ : Rho) : (ofConst v).den ρ = v := by
 unfold ofConst
 split
 ·split <;> rfl
 ·rename_i cs
  have : cellsL ρ (cs.toList.map .val) = cs.toList := by
   induction cs.toList with
   | nil => rfl
   | cons x l ih => rw [List.map_cons, cellsL_cons, ih]; rfl
  rw [den_agg, this]
 ·rfl
theorem den_uv (ρ : Rho) : uv.den ρ = undef := rfl
theorem nth_den (ρ : Rho) (tm : List SV) (t : Nat) : (nth uv tm t).den ρ = ((tm.map (SV.den ρ))[t]?).getD undef := by
 rw [nth_eq]
 simp only [List.getElem?_map]
 cases tm[t]? <;> rfl
theorem eval_ok {a : Act} {tm : List SV} {ρ : Rho} (h : a.tmps.toList = tm.map (SV.den ρ)) : a.eval = evr (evm tm) ρ := by
 funext x
 cases x with
 | tmp t =>
  simp only [Act.eval, evr, evm, nth_den, ← h]
  simp
 | const v => simp only [Act.eval, evr, evm, den_ofConst]
 | global g => rfl
 | func f => rfl
theorem put_ok {a : Act} {tm : List SV} {ρ : Rho} (h : a.tmps.toList = tm.map (SV.den ρ)) (d : Option Tmp) (v : SV) {u : Value} (hu : u = v.den ρ) :
  (a.put d u).tmps.toList = (match d with | some t => tm.set t v | none => tm).map (SV.den ρ) := by
 subst hu
 cases d with
 | none => exact h
 | some t => simp [Act.put, h]
theorem put_defers (a : Act) (d : Option Tmp) (u : Value) : (a.put d u).defers = a.defers := by cases d <;> rfl
end Go.Proofs.YthmdmbpecgakkaaDoor

namespace Go.Proofs.YthmdmbpecgakkaaDoor
open Go.RowKit

def markD (D : Nat) : Deferred := { target := .collected D, args := #[] }
def Marks (N : Nat) (w0 : Base) (ds : List Deferred) : Prop := ∃ M : List Nat, ds = M.map markD ∧ M.Nodup ∧ w0.lo ≤ w0.w.heap.size ∧ ∀ D ∈ M, N ≤ D ∧ w0.lo ≤ D ∧ w0.w.heap[D]? = some (.deferred (some []))
theorem Marks.nil (N : Nat) (w0 : Base) (h : w0.lo ≤ w0.w.heap.size) : Marks N w0 [] := ⟨[], rfl, List.nodup_nil, h, fun _ h => by cases h⟩
def IterOk (P : Program) (f : FuncId) (lb : Array Value) (encs : Nat → Array Value) (n : Nat) (G : World → Prop) : Prop :=
 ∀ (l : Nat) (J : Nat → World → Prop) (Jx : World → Prop) (W : World), (∀ k A B, J k A → A.grownBy B none → J k B) → (∀ A B, Jx A → A.grownBy B none → Jx B) → (∀ k A, J k A → G A) →
  (∀ k A, J k A → k < n → YieldAt Fence.wide 0 P l (encs k) A fun e B => (e = .returned (.bool true) ∧ J (k + 1) B) ∨ (e = .returned (.bool false) ∧ Jx B)) → J 0 W →
  CallsIn Fence.wide 0 P f (#[.func (.yield l) #[] #[]] ++ lb) W fun e B => (∃ v, e = .returned v) ∧ (J n B ∨ Jx B)
def RelS (N : Nat) (w0 : Base) (tm : List SV) (hp : List Blk) (a : Act) (w : World) : Prop :=
 ∃ ρ0, HRel N w0 (nthO hp) ρ0 w ∧ (∀ ρ, Agr (nthO hp) ρ ρ0 → a.tmps.toList = tm.map (SV.den ρ)) ∧ Marks N w0 a.defers
def OOk (P : Program) (O : Oper → List SV → List Blk → (List SV → List Blk → Prop) → Prop) : Prop :=
 ∀ o tm hp K, O o tm hp K → ∀ {N : Nat} {w0 : Base} {a : Act} {w : World} {next : Act → World → Prop} {Q : Exit → Act → World → Prop}, RelS N w0 tm hp a w →
  (∀ tm' hp' a' w', K tm' hp' → RelS N w0 tm' hp' a' w' → next a' w') → o.wp P a w next Q
def GR (hf : Nat → Option Blk) (ρ : Rho) (ds : List Nat) (w : World) : Prop := ∃ ρ', Agr hf ρ' ρ ∧ ∀ b ∈ ds, ∀ blk, hf b = some blk → Holds ρ' blk b w ∧ (blk.void = false → (ρ' b).1 < w.heap.size) ∧ ∀ o l, blk.famOf = some (o, l) → ∀ e ∈ l, FamAt w.heap.size w false e
structure EOk (P : Program) (E : Env) : Prop where
 T : TOk P E.T
 D : ∀ f args hf p v, E.D f args hf = some (p, v) → Callable P f ∧ (∀ ρ ρ', args.map (SV.den ρ) = args.map (SV.den ρ') → v.den ρ = v.den ρ') ∧ ((∀ q, p = some q → q) → ∀ ρ w, (∀ b blk, hf b = some blk → Holds ρ blk b w) →
  Calls P f (args.map (SV.den ρ)).toArray w fun e w' => e = .returned (v.den ρ) ∧ Below w.heap.size w w')
 O : OOk P E.O
 R : ∀ f caps hf K, E.R f caps hf K → ∃ ds xs, K ds xs ∧ Callable P f ∧ (∀ x ∈ xs, ∀ y ∈ x, ∀ ρ ρ', y.den ρ = y.den ρ') ∧ ∀ ρ : Rho,
  IterOk P f (caps.map fun p => adr ρ p.1 p.2).toArray (fun k => ((nth [] xs k).map (SV.den ρ)).toArray) xs.length (GR hf ρ ds) := by exact fun _ _ _ _ h => absurd (show False from h) id
def HOk (P : Program) (H : FuncId → List SV → List Blk → (SV → List Blk → Prop) → Prop) : Prop :=
 ∀ f args hp K, H f args hp K → Callable P f ∧ ∀ N w0 ρ0 w, HRel N w0 (nthO hp) ρ0 w → (∀ ρ, Agr (nthO hp) ρ ρ0 → args.map (SV.den ρ) = args.map (SV.den ρ0)) →
  Calls P f (args.map (SV.den ρ0)).toArray w fun e w' => ∃ v hp' ρ0', K v hp' ∧ HRel N w0 (nthO hp') ρ0' w' ∧ (∀ i, (nthO hp i).isSome = true → (nthO hp' i).isSome = true ∧ ρ0' i = ρ0 i) ∧ ∀ ρ, Agr (nthO hp') ρ ρ0' → e = .returned (v.den ρ)

theorem nthO_none {α : Type} (l : List α) : nthO l l.length = none := by rw [nthO_eq]; simp
theorem nthO_snoc {α : Type} (l : List α) (x : α) (i : Nat) : nthO (l ++ [x]) i = if i = l.length then some x else nthO l i := by
 rw [nthO_eq, nthO_eq]
 split
 ·rename_i h; subst h; simp
 ·rename_i h
  by_cases hi : i < l.length
  ·rw [List.getElem?_append_left hi]
  ·rw [List.getElem?_eq_none (by simp; omega), List.getElem?_eq_none (by omega)]
theorem nthO_snoc' (l : List Blk) (x : Blk) : nthO (l ++ [x]) = upF (nthO l) l.length x := by funext i; rw [nthO_snoc]; rfl
theorem nthO_set (l : List Blk) (n : Nat) (x y : Blk) (h : nthO l n = some y) : nthO (l.set n x) = upF (nthO l) n x := by
 funext i
 rw [nthO_eq] at h ⊢
 unfold upF
 rw [nthO_eq]
 have hn := (List.getElem?_eq_some_iff.1 h).1
 split
 ·rename_i e; subst e; rw [List.getElem?_set_self hn]
 ·rename_i e; rw [List.getElem?_set_ne (fun h => e h.symm)]
theorem Agr.sub {hf hg : Nat → Option Blk} {ρ ρ0 ρ1 : Rho} (h : Agr hg ρ ρ1) (hs : ∀ i, (hf i).isSome = true → (hg i).isSome = true ∧ ρ1 i = ρ0 i) : Agr hf ρ ρ0 := fun i hi => (h i (hs i hi).1).trans (hs i hi).2
theorem up_agr {hf : Nat → Option Blk} {ρ0 : Rho} {n : Nat} {b : Blk} {p : Nat × Nat} (hn : hf n = none) : ∀ i, (hf i).isSome = true → (upF hf n b i).isSome = true ∧ upR ρ0 n p i = ρ0 i := fun i hi => by
 have : i ≠ n := fun e => by rw [e, hn] at hi; cases hi
 unfold upF upR
 rw [if_neg this, if_neg this]
 exact ⟨hi, rfl⟩
theorem RelS.put {N : Nat} {w0 : Base} {tm : List SV} {hp hp' : List Blk} {a : Act} {w' : World} {ρ0 ρ1 : Rho} (ht : ∀ ρ, Agr (nthO hp) ρ ρ0 → a.tmps.toList = tm.map (SV.den ρ)) (hd : Marks N w0 a.defers)
  (h : HRel N w0 (nthO hp') ρ1 w') (hs : ∀ i, (nthO hp i).isSome = true → (nthO hp' i).isSome = true ∧ ρ1 i = ρ0 i) (d : Option Tmp) {v : SV} {u : Value} (hu : ∀ ρ, Agr (nthO hp') ρ ρ1 → u = v.den ρ) :
  RelS N w0 (match d with | some t => tm.set t v | none => tm) hp' (a.put d u) w' :=
 ⟨ρ1, h, fun ρ hρ => put_ok (ht ρ (hρ.sub hs)) d v (hu ρ hρ), by rw [put_defers]; exact hd⟩

section
variable {P : Program} {E : Env} (hE : EOk P E) {H : FuncId → List SV → List Blk → (SV → List Blk → Prop) → Prop} (hH : HOk P H)
include hE hH
theorem vcOp_ok {N : Nat} {w0 : Base} {o : Oper} {tm : List SV} {hp : List Blk} {K : List SV → List Blk → Prop} (h : vcOp E H o tm hp K) {a : Act} {w : World} (hr : RelS N w0 tm hp a w)
  {next : Act → World → Prop} {Q : Exit → Act → World → Prop} (hn : ∀ tm' hp' a' w', K tm' hp' → RelS N w0 tm' hp' a' w' → next a' w') : o.wp P a w next Q := by
 obtain ⟨ρ0, hh, ht, hd⟩ := hr
 have hev : ∀ ρ, Agr (nthO hp) ρ ρ0 → a.eval = evr (evm tm) ρ := fun ρ hρ => eval_ok (ht ρ hρ)
 unfold vcOp at h
 split at h
 ·rename_i v hv
  unfold Oper.wp
  rw [SV.force_eq, putK_eq] at h
  have hrun : ∀ ρ, Agr (nthO hp) ρ ρ0 → (execOp a.eval o).run P w = .ok (.value (v.den ρ)) w := fun ρ hρ => by
   rw [hev ρ hρ]; exact eff_val hE.T hv ρ w fun b blk hb => hh.holds ρ hρ b blk hb
  have h0 := hrun ρ0 (Agr.refl _ _)
  rw [h0]
  refine hn _ _ _ _ h (RelS.put ht hd hh (fun i hi => ⟨hi, rfl⟩) o.dst fun ρ hρ => ?_)
  have := hrun ρ hρ
  rw [h0] at this
  simpa using this
 ·rename_i ty ro cs tl f hv
  unfold Oper.wp
  rw [forceL_eq, snocK_eq, lenK_eq, SV.force_eq, putK_eq] at h
  obtain ⟨val, h0, hro, hval⟩ := eff_new hE.T hv ρ0 w
  have hL : ∀ ρ, Agr (nthO hp) ρ ρ0 → cellsL ρ cs = cellsL ρ0 cs := fun ρ hρ => by
   obtain ⟨val', h1, -⟩ := eff_new hE.T hv ρ w
   rw [← hev ρ hρ] at h1
   rw [← hev ρ0 (Agr.refl _ _), h1] at h0
   simp only [Result.ok.injEq] at h0
   have := congrArg (fun W => W.heap[w.heap.size]?) h0.2
   simp only [heap_alloc_new] at this
   simpa using this
  have hnew := hh.new (nthO_none hp) hro hL
  rw [← hev ρ0 (Agr.refl _ _)] at h0
  rw [h0]
  refine hn _ _ _ _ h (RelS.put (ρ1 := upR ρ0 hp.length (w.heap.size, 0)) ht hd ?_ (fun i hi => ?_) o.dst fun ρ hρ => ?_)
  ·rw [nthO_snoc']; exact hnew
  ·rw [nthO_snoc']; exact up_agr (nthO_none hp) i hi
  ·refine (hval ρ _ ?_).symm
   rw [hρ _ (by rw [nthO_snoc]; simp)]
   unfold upR; rw [if_pos rfl]
 ·rename_i b cs hv
  unfold Oper.wp
  rw [forceL_eq] at h
  obtain ⟨blk, off, l, hb, hro, -, hrun⟩ := eff_put hE.T hv
  rw [hb] at h
  simp only [updK_eq, putK_eq] at h
  have key : ∀ ρ, Agr (nthO hp) ρ ρ0 → (execOp a.eval o).run P w = .ok .skip (w.setCells (ρ0 b).1 off (cellsL ρ l)) ∧ ∃ t : List Value, t.length = blk.tl ∧ (w.setCells (ρ0 b).1 off (cellsL ρ l)).heap[(ρ0 b).1]? = some (.cells (cellsL ρ cs ++ t).toArray blk.ty (0, 0)) := fun ρ hρ => by
   have := hrun ρ w (hh.holds ρ hρ b blk hb)
   rw [hρ b (by rw [hb]; rfl), ← hev ρ hρ] at this
   exact this
  obtain ⟨h0, -⟩ := key ρ0 (Agr.refl _ _)
  have hput := hh.put (cs := cs) (M := cellsL ρ0 l) (off := off) hb hro (fun ρ hρ => by
   obtain ⟨h1, hk1⟩ := key ρ hρ
   rw [h0] at h1
   simp only [Result.ok.injEq, true_and] at h1
   rw [h1]; exact hk1)
  rw [h0]
  refine hn _ _ _ _ h (RelS.put (ρ1 := ρ0) ht hd ?_ (fun i hi => ?_) o.dst fun ρ hρ => rfl)
  ·rw [nthO_set _ _ _ blk hb]; exact hput
  ·rw [nthO_set _ _ _ blk hb]; unfold upF; split
   ·exact ⟨rfl, rfl⟩
   ·exact ⟨hi, rfl⟩
 ·split at h
  ·rename_i c hc
   split at h
   ·rename_i f args hcal
    unfold Oper.wp
    have hcall : ∀ (hf : Callable P f) ρ, Agr (nthO hp) ρ ρ0 → (execOp a.eval o).run P w = .ok (.enter f (args.map (SV.den ρ)).toArray) w := fun hf ρ hρ => by
     rw [hev ρ hρ]; exact run_call_sx hc hcal hf ρ w
    have func : ∀ p v, E.D f args (nthO hp) = some (p, v) → (∀ q, p = some q → q) → K (match o.dst with | some t => tm.set t v | none => tm) hp → o.upon P a next Q ((execOp a.eval o).run P w) := fun p v hD hp' hK => by
     obtain ⟨hf, hpure, hspec⟩ := hE.D f args _ p v hD
     rw [hcall hf ρ0 (Agr.refl _ _)]
     refine (hspec hp' ρ0 w fun b blk hb => hh.holds ρ0 (Agr.refl _ _) b blk hb).mono ?_
     rintro e w' ⟨rfl, hb⟩
     exact hn _ _ _ _ hK (RelS.put ht hd (hh.below hb) (fun i hi => ⟨hi, rfl⟩) o.dst fun ρ hρ => hpure _ _ (by
      have h1 := hcall hf ρ hρ
      rw [hcall hf ρ0 (Agr.refl _ _)] at h1
      simpa using h1))
    split at h
    ·rename_i v hD
     rw [SV.force_eq, putK_eq] at h
     exact func _ _ hD (fun q hq => by cases hq) h
    ·rename_i p v hD
     rw [SV.force_eq, putK_eq] at h
     exact func _ _ hD (fun q hq => by cases hq; exact h.1) h.2
    ·obtain ⟨hf, hspec⟩ := hH f args hp _ h
     have hargs : ∀ ρ, Agr (nthO hp) ρ ρ0 → args.map (SV.den ρ) = args.map (SV.den ρ0) := fun ρ hρ => by
      have h1 := hcall hf ρ hρ
      rw [hcall hf ρ0 (Agr.refl _ _)] at h1
      simpa using h1.symm
     rw [hcall hf ρ0 (Agr.refl _ _)]
     refine (hspec N w0 ρ0 w hh hargs).mono ?_
     rintro e w' ⟨v, hp', ρ1, hK, hh', hs, he⟩
     rw [SV.force_eq, putK_eq] at hK
     have e0 := he ρ1 (Agr.refl _ _)
     subst e0
     exact hn _ _ _ _ hK (RelS.put ht hd hh' hs o.dst fun ρ hρ => by have := he ρ hρ; simpa using this)
   ·exact hE.O o tm hp K h ⟨ρ0, hh, ht, hd⟩ hn
  ·exact hE.O o tm hp K h ⟨ρ0, hh, ht, hd⟩ hn
omit hE hH in
theorem set_same {tm : List SV} {t : Nat} {x : SV} (h : nth uv tm t = x) (hx : x ≠ uv) : tm.set t x = tm := by
 rw [nth_eq] at h
 by_cases ht : t < tm.length
 ·rw [List.getElem?_eq_getElem ht] at h
  simp only [Option.getD_some] at h
  subst h
  exact List.set_getElem_self ht
 ·rw [List.getElem?_eq_none (by omega)] at h
  exact absurd h.symm hx
omit hE hH in
theorem bool_ne (b : Bool) : (SV.c (.val (.bool b))) ≠ uv := by unfold uv undef; intro h; cases h
omit hE hH in
theorem yielded_ok {all : Array Oper} {j : Nat} {t : Tmp} (hg : guardS all j = some t) {a : Act} {tm : List SV} {ρ : Rho} (h : a.tmps.toList = tm.map (SV.den ρ)) {b : Bool} (hb : nth uv tm t = .c (.val (.bool b))) :
  yielded all a.tmps j = some b := by
 unfold guardS at hg
 rw [nthO_eq] at hg
 split at hg
 ·rename_i o ho
  have ho : all[j]? = some o := by simpa using ho
  unfold yielded
  simp only [ho, Option.bind_some, hg]
  have : a.tmps[t]? = some (.bool b) := by
   have e : a.tmps[t]? = a.tmps.toList[t]? := by simp
   rw [e, h, List.getElem?_map]
   rw [nth_eq] at hb
   cases htm : tm[t]? with
   | none => rw [htm] at hb; exact absurd hb.symm (bool_ne b)
   | some x => rw [htm] at hb; simp only [Option.getD_some] at hb; subst hb; rfl
  rw [this]
 ·cases hg
omit hE hH in
theorem yielded_no {all : Array Oper} {j : Nat} {t : Tmp} (hg : guardS all j = some t) {a : Act} {tm : List SV} {ρ : Rho} (h : a.tmps.toList = tm.map (SV.den ρ)) {l : Array Value} (hb : nth uv tm t = .c (.val (.tuple l))) :
  yielded all a.tmps j = none := by
 unfold guardS at hg
 rw [nthO_eq] at hg
 split at hg
 ·rename_i o ho
  have ho : all[j]? = some o := by simpa using ho
  unfold yielded
  simp only [ho, Option.bind_some, hg]
  have e : a.tmps[t]? = a.tmps.toList[t]? := by simp
  rw [e, h, List.getElem?_map]
  rw [nth_eq] at hb
  cases htm : tm[t]? with
  | none => rfl
  | some x => rw [htm] at hb; simp only [Option.getD_some] at hb; subst hb; rfl
 ·cases hg
theorem vcOps_ok {N : Nat} {w0 : Base} {all : Array Oper} {K : List SV → List Blk → Prop} {Q : Exit → Act → World → Prop} (hQ : ∀ tm' hp' a' w', K tm' hp' → RelS N w0 tm' hp' a' w' → Q .normal a' w') :
  ∀ (os : List Oper) (tm : List SV) (hp : List Blk), vcOps E H all os tm hp K → ∀ a w, RelS N w0 tm hp a w → wpList P all Q os a w
 | [], tm, hp, h, a, w, hr => hQ _ _ _ _ h hr
 | o :: os, tm, hp, h, a, w, hr => by
  unfold vcOps at h
  unfold wpList
  split at h
  ·rename_i hg
   rw [if_pos (by simp [Region.wanted, hg])]
   exact .inl (vcOp_ok hE hH h hr fun tm' hp' a' w' hK hr' => vcOps_ok hQ os tm' hp' hK a' w' hr')
  ·rename_i j want hg
   split at h
   ·rename_i t hgs
    split at h
    ·rename_i b hb
     have hy : yielded all a.tmps j = some b := by
      obtain ⟨ρ0, -, ht, -⟩ := hr
      exact yielded_ok hgs (ht ρ0 (Agr.refl _ _)) hb
     have hw : Region.wanted o (yielded all a.tmps) = (b == want) := by
      unfold Region.wanted
      rw [hg]
      simp only [hy]
      cases b <;> cases want <;> rfl
     have run : vcOp E H o tm hp (fun tm hp => vcOps E H all os tm hp K) → o.wp P a w (wpList P all Q os) Q := fun h =>
      vcOp_ok hE hH h hr fun tm' hp' a' w' hK hr' => vcOps_ok hQ os tm' hp' hK a' w' hr'
     have skip : putK o.dst uv tm (fun tm => vcOps E H all os tm hp K) → wpList P all Q os (a.put o.dst undef) w := fun h => by
      rw [putK_eq] at h
      obtain ⟨ρ0, hh, ht, hd⟩ := hr
      exact vcOps_ok hQ os _ hp h _ _ (RelS.put ht hd hh (fun i hi => ⟨hi, rfl⟩) o.dst fun ρ _ => rfl)
     split at h
     ·obtain ⟨h1, h2⟩ := bcase_of h
      rw [updK_eq] at h1 h2
      cases b with
      | true => rw [if_pos (by rw [hw]; rfl)]; exact .inl (run (by rw [set_same hb (bool_ne _)] at h1; exact h1 rfl))
      | false => rw [if_neg (by rw [hw]; simp)]; exact skip (by rw [set_same hb (bool_ne _)] at h2; exact h2 rfl)
     ·obtain ⟨h1, h2⟩ := bcase_of h
      rw [updK_eq] at h1 h2
      cases b with
      | true => rw [if_neg (by rw [hw]; simp)]; exact skip (by rw [set_same hb (bool_ne _)] at h1; exact h1 rfl)
      | false => rw [if_pos (by rw [hw]; rfl)]; exact .inl (run (by rw [set_same hb (bool_ne _)] at h2; exact h2 rfl))
    ·rename_i l hb
     have hy : yielded all a.tmps j = none := by
      obtain ⟨ρ0, -, ht, -⟩ := hr
      exact yielded_no hgs (ht ρ0 (Agr.refl _ _)) hb
     have hw : Region.wanted o (yielded all a.tmps) = false := by
      unfold Region.wanted
      rw [hg]
      simp only [hy]
      cases want <;> rfl
     rw [if_neg (by rw [hw]; simp)]
     rw [putK_eq] at h
     obtain ⟨ρ0, hh, ht, hd⟩ := hr
     exact vcOps_ok hQ os _ hp h _ _ (RelS.put ht hd hh (fun i hi => ⟨hi, rfl⟩) o.dst fun ρ _ => rfl)
    ·cases h
   ·cases h
end
end Go.Proofs.YthmdmbpecgakkaaDoor
