/- What == says of values whose cells are bools, integers and strings. A reckoner of states in symbols: what it is. The reckoner: what one operation does. The reckoner: each operation's effect is what the model says. The reckoner is sound: blocks, calls, lists of operations, code. The reckoner is sound: lists of operations in the order of the text. The reckoner is sound: a region that draws its order. The reckoner is sound: a region that draws its order (in any order the same comes out). The reckoner is sound: a region that draws its order, the theorem. A region that draws its order and whose last operation waits for all the others: the others are walked as a region of their own (their condition on the world need not hold behind the last one). The reckoner is sound: code and functions. The reckoner is sound: functions. -/
import Derived.DeepKeys
import Derived.Test.YtefgchmbdijjdaaGreatDoorWka
import Derived.Deep.MidRow
import Derived.LoopN
import Derived.Orders
import Derived.Laws.StructEq
import Derived.Deep.RegionHeld3
import Derived.StillTail
namespace Go.Proofs.YtefgchmbdijjdaaGreatDoor
open Go.RowKit

inductive K where
  | b
  | i (k : IntKind)
  | s
def K.fits : K → Value → Prop
  | .b, .bool _ => True
  | .i k, .int j _ => j = k
  | .s, .string _ => True
  | _, _ => False
def Fits : List K → List Value → Prop
  | [], [] => True
  | k :: ks, v :: vs => k.fits v ∧ Fits ks vs
  | _, _ => False
theorem Fits.length : ∀ {ks : List K} {vs : List Value}, Fits ks vs → vs.length = ks.length
  | [], [], _ => rfl
  | _ :: _, _ :: _, h => by simp [Fits.length h.2]
theorem Fits.append : ∀ {ks js : List K} {vs us : List Value}, Fits ks vs → Fits js us → Fits (ks ++ js) (vs ++ us)
  | [], _, [], _, _, h => h
  | _ :: _, _, _ :: _, _, h, h' => ⟨h.1, Fits.append h.2 h'⟩
theorem Fits.split : ∀ {ks js : List K} {vs : List Value}, Fits (ks ++ js) vs → Fits ks (vs.take ks.length) ∧ Fits js (vs.drop ks.length)
  | [], _, _, h => ⟨trivial, h⟩
  | _ :: _, _, _ :: _, h => ⟨⟨h.1, (Fits.split h.2).1⟩, (Fits.split h.2).2⟩
def repK : Nat → List K → List K
  | 0, _ => []
  | n + 1, ks => ks ++ repK n ks
theorem repK_length (n : Nat) (ks : List K) : (repK n ks).length = n * ks.length := by
  induction n with
  | zero => simp [repK]
  | succ n ih => rw [repK, List.length_append, ih, Nat.succ_mul]; omega
theorem Fits.chunk : ∀ {n : Nat} {ks : List K} {vs : List Value}, Fits (repK n ks) vs → ∀ i, i < n → Fits ks ((vs.drop (i * ks.length)).take ks.length)
  | 0, _, _, _, _, h => absurd h (by omega)
  | n + 1, ks, vs, h, 0, _ => by simpa using (Fits.split h).1
  | n + 1, ks, vs, h, i + 1, hi => by
    have := Fits.chunk (Fits.split h).2 i (by omega)
    rw [List.drop_drop] at this
    rw [Nat.succ_mul, Nat.add_comm]
    exact this

def rowO (P : Program) (t : TypeId) : Option Bool := (P.underlying t).map TypeDesc.isRow
def mkV (row : Bool) (vs : List Value) : Value := if row then .agg vs.toArray else vs.headD undef

section
variable {P : Program}
theorem run_isAggO {t : TypeId} {b : Bool} (h : rowO P t = some b) (w : World) : (isAgg t).run P w = .ok b w := by
  unfold rowO at h
  cases hu : P.underlying t with
  | none => simp [hu] at h
  | some d =>
    simp only [hu, Option.map_some, Option.some.injEq] at h
    unfold isAgg
    rw [Sem.run_bind, run_underlying hu w]
    cases d <;> simp_all [TypeDesc.isRow]
theorem info_of_rowO {t : TypeId} {b : Bool} (h : rowO P t = some b) : ∃ i, P.info? t = some i := by
  unfold rowO at h
  cases hu : P.underlying t with
  | none => simp [hu] at h
  | some d => exact info_of_underlying hu
theorem run_partO {t : TypeId} {b : Bool} (h : rowO P t = some b) (w : World) (xs : List Value) (off : Nat) (hlt : off + P.cellsOf t ≤ xs.length) (h1 : b = false → P.cellsOf t = 1) :
    (part t xs.toArray off).run P w = .ok (mkV b ((xs.drop off).take (P.cellsOf t))) w := by
  obtain ⟨i, hi⟩ := info_of_rowO h
  unfold part mkV
  rw [Sem.run_bind, run_isAggO h w]
  cases b with
  | true =>
    simp [run_sizeOf w hi, List.extract]
  | false =>
    have hc := h1 rfl
    have : xs[off]? = some xs[off] := List.getElem?_eq_getElem (by omega)
    rw [hc]
    have e : List.take 1 (List.drop off xs) = [xs[off]'(by omega)] := by
      rw [List.drop_eq_getElem_cons (by omega)]; rfl
    simp [this, e]

def kf (P : Program) (g : TypeId → Option (List K)) : Nat → List Field → Option (List K)
  | _, [] => some []
  | off, f :: fs =>
    if f.offset = off ∧ f.name ≠ "_" ∧ (P.info? f.type).isSome = true then
      (match g f.type with
      | some ks => if P.cellsOf f.type = ks.length ∧ 0 < ks.length then (match kf P g (off + ks.length) fs with | some js => some (ks ++ js) | none => none) else none
      | none => none)
    else none
def kindsOf (P : Program) : Nat → TypeId → Option (List K)
  | 0, _ => none
  | d + 1, t =>
    match P.underlying t with
    | some .bool => some [.b]
    | some (.int k) => some [.i k]
    | some .string => some [.s]
    | some (.array n e) => (match kindsOf P d e with
      | some ks => if P.cellsOf e = ks.length ∧ 0 < ks.length ∧ (P.info? e).isSome = true then some (repK n ks) else none
      | none => none)
    | some (.struct fs) => if P.stoodInHeld t = false then kf P (kindsOf P d) 0 fs.toList else none
    | _ => none
theorem kindsOf_row {d : Nat} {t : TypeId} {ks : List K} (h : kindsOf P d t = some ks) : ∃ b, rowO P t = some b ∧ (b = false → ks.length = 1) := by
  cases d with
  | zero => simp [kindsOf] at h
  | succ d =>
    unfold kindsOf at h
    unfold rowO
    cases hu : P.underlying t with
    | none => simp [hu] at h
    | some k => cases k <;> simp_all [TypeDesc.isRow] <;> (subst h; rfl)
/-- d more levels than the type has -/
def EqAtK (P : Program) (d : Nat) (t : TypeId) (ks : List K) : Prop :=
  ∀ w xs ys b, rowO P t = some b → Fits ks xs → Fits ks ys → ∃ r : Bool, (Op.equalIn d t (mkV b xs) (mkV b ys)).run P w = .ok r w ∧ (r = true ↔ xs = ys)

theorem eqItemsK (d : Nat) {e : TypeId} {ks : List K} {b : Bool} (he : EqAtK P d e ks) (hb : rowO P e = some b) (hc : P.cellsOf e = ks.length) (h1 : b = false → ks.length = 1) (w : World) (xs ys : List Value) (hl : xs.length = ys.length) :
    ∀ is : List Nat, (∀ i ∈ is, (i + 1) * ks.length ≤ xs.length ∧ Fits ks ((xs.drop (i * ks.length)).take ks.length) ∧ Fits ks ((ys.drop (i * ks.length)).take ks.length)) →
      ∃ r : Bool, (Op.eqItems d e (P.cellsOf e) xs.toArray ys.toArray is).run P w = .ok r w ∧ (r = true ↔ ∀ i ∈ is, (xs.drop (i * ks.length)).take ks.length = (ys.drop (i * ks.length)).take ks.length)
  | [], _ => ⟨true, rfl, by simp⟩
  | i :: is, h => by
    obtain ⟨hi, hx, hy⟩ := h i (by simp)
    have hm : i * ks.length + ks.length ≤ xs.length := by rw [Nat.succ_mul] at hi; exact hi
    have p1 := run_partO hb w xs (i * ks.length) (by rw [hc]; omega) (fun h => by rw [hc]; exact h1 h)
    have p2 := run_partO hb w ys (i * ks.length) (by rw [hc]; omega) (fun h => by rw [hc]; exact h1 h)
    obtain ⟨r, hr, hiff⟩ := he w _ _ b hb hx hy
    obtain ⟨r', hr', hiff'⟩ := eqItemsK d he hb hc h1 w xs ys hl is (fun j hj => h j (by simp [hj]))
    rw [hc] at p1 p2 hr' ⊢
    cases r
    · refine ⟨false, ?_, ?_⟩
      · simp [Op.eqItems, p1, p2, hr]
      · simp only [Bool.false_eq_true, false_iff]
        intro h
        exact absurd (hiff.2 (h i (by simp))) (by simp)
    · refine ⟨r', ?_, ?_⟩
      · simp [Op.eqItems, p1, p2, hr, hr']
      · rw [hiff']
        constructor
        · intro h j hj
          rcases List.mem_cons.1 hj with rfl | hj
          · exact hiff.1 rfl
          · exact h j hj
        · intro h j hj; exact h j (by simp [hj])
theorem eqFieldsK (d : Nat) {g : TypeId → Option (List K)} (hg : ∀ t ks, g t = some ks → EqAtK P d t ks ∧ ∃ b, rowO P t = some b ∧ (b = false → ks.length = 1)) (w : World) (xs ys : List Value) :
    ∀ (fs : List Field) (off : Nat) (ks : List K), kf P g off fs = some ks → off + ks.length = xs.length → xs.length = ys.length → Fits ks (xs.drop off) → Fits ks (ys.drop off) →
      ∃ r : Bool, (Op.eqFields d xs.toArray ys.toArray fs).run P w = .ok r w ∧ (r = true ↔ xs.drop off = ys.drop off)
  | [], off, ks, h, hl, hxy, _, _ => by
    simp [kf] at h
    subst h
    refine ⟨true, by simp [Op.eqFields], ?_⟩
    simp at hl
    simp [List.drop_eq_nil_of_le (show xs.length ≤ off by omega), List.drop_eq_nil_of_le (show ys.length ≤ off by omega)]
  | f :: fs, off, ks, h, hl, hxy, hx, hy => by
    unfold kf at h
    split at h
    · rename_i hf
      obtain ⟨rfl, hn, hi⟩ := hf
      split at h
      · rename_i k1 hk1
        split at h
        · rename_i hc
          split at h
          · rename_i js hjs
            cases h
            obtain ⟨he, b, hb, h1⟩ := hg _ _ hk1
            obtain ⟨fx, rx⟩ := Fits.split hx
            obtain ⟨fy, ry⟩ := Fits.split hy
            rw [List.drop_drop] at rx ry
            simp only [List.length_append] at hl
            have p1 := run_partO hb w xs f.offset (by rw [hc.1]; omega) (fun h => by rw [hc.1]; exact h1 h)
            have p2 := run_partO hb w ys f.offset (by rw [hc.1]; omega) (fun h => by rw [hc.1]; exact h1 h)
            rw [hc.1] at p1 p2
            obtain ⟨r, hr, hiff⟩ := he w _ _ b hb fx fy
            obtain ⟨r', hr', hiff'⟩ := eqFieldsK d hg w xs ys fs (f.offset + k1.length) js hjs (by omega) hxy rx ry
            have key : xs.drop f.offset = ys.drop f.offset ↔ (xs.drop f.offset).take k1.length = (ys.drop f.offset).take k1.length ∧ xs.drop (f.offset + k1.length) = ys.drop (f.offset + k1.length) := by
              constructor
              · intro e
                refine ⟨by rw [e], ?_⟩
                have := congrArg (List.drop k1.length) e
                simpa [List.drop_drop] using this
              · rintro ⟨e1, e2⟩
                rw [← List.take_append_drop k1.length (xs.drop f.offset), ← List.take_append_drop k1.length (ys.drop f.offset), List.drop_drop, List.drop_drop, e1, e2]
            rw [key]
            cases r
            · refine ⟨false, by simp [Op.eqFields, hn, p1, p2, hr], ?_⟩
              simp only [Bool.false_eq_true, false_iff]
              rintro ⟨h1, -⟩
              exact absurd (hiff.2 h1) (by simp)
            · refine ⟨r', by simp [Op.eqFields, hn, p1, p2, hr, hr'], ?_⟩
              rw [hiff', ← hiff]
              simp
          · cases h
        · cases h
      · cases h
    · cases h
theorem eqK : ∀ (d : Nat) (t : TypeId) (ks : List K), kindsOf P d t = some ks → ∀ m, EqAtK P (m + d) t ks
  | 0, _, _, h, _ => by simp [kindsOf] at h
  | d + 1, t, ks, h, m => by
    intro w xs ys b hb hx hy
    unfold kindsOf at h
    cases hu : P.underlying t with
    | none => simp [hu] at h
    | some k =>
      have hb' : k.isRow = b := by simpa [rowO, hu] using hb
      subst hb'
      cases k <;> simp only [hu] at h <;> try (cases h; done)
      case bool =>
        cases h
        match xs, ys, hx, hy with
        | [.bool x], [.bool y], _, _ => exact ⟨x == y, run_equalIn_bool w (m + d) t x y hu, by simp⟩
      case int q =>
        cases h
        match xs, ys, hx, hy with
        | [.int j x], [.int j' y], hx, hy =>
          have e1 : j = q := hx.1
          have e2 : j' = q := hy.1
          subst e1; subst e2
          exact ⟨x == y, run_equalIn_int w (m + d) t _ _ x y hu, by simp⟩
      case string =>
        cases h
        match xs, ys, hx, hy with
        | [.string x], [.string y], _, _ => exact ⟨x.toList == y.toList, run_equalIn_string w (m + d) t x y hu, by simp [ByteArray.toList_eq, ByteArray.ext_iff, ← Array.toList_inj]⟩
      case array n e =>
        split at h
        · rename_i k1 hk1
          split at h
          · rename_i hc
            cases h
            obtain ⟨b, hb1, h1⟩ := kindsOf_row hk1
            obtain ⟨i, hi⟩ := info_of_rowO hb1
            have lx := hx.length
            have ly := hy.length
            rw [repK_length] at lx ly
            obtain ⟨r, hr, hiff⟩ := eqItemsK (m + d) (eqK d e k1 hk1 m) hb1 hc.1 h1 w xs ys (by omega) (List.range n) (fun i hi => by
              have hi := List.mem_range.1 hi
              refine ⟨?_, hx.chunk i hi, hy.chunk i hi⟩
              rw [lx]; exact Nat.mul_le_mul_right _ hi)
            refine ⟨r, ?_, ?_⟩
            · show (Op.equalIn (m + d + 1) t (.agg xs.toArray) (.agg ys.toArray)).run P w = _
              rw [run_equalIn_array w (m + d) _ _ hu hi]; exact hr
            · rw [hiff]
              constructor
              · intro hall
                apply List.ext_getElem?
                intro j
                by_cases hj : j < xs.length
                · have hk : 0 < k1.length := hc.2.1
                  have hjn : j / k1.length < n := Nat.div_lt_of_lt_mul (by rw [Nat.mul_comm, ← lx]; exact hj)
                  have := congrArg (·[j % k1.length]?) (hall _ (List.mem_range.2 hjn))
                  simp only [List.getElem?_take, Nat.mod_lt _ hk, if_true, List.getElem?_drop] at this
                  rw [Nat.mul_comm, Nat.div_add_mod] at this
                  exact this
                · rw [List.getElem?_eq_none (by omega), List.getElem?_eq_none (by omega)]
              · intro e i _; rw [e]
          · cases h
        · cases h
      case struct fs =>
        split at h
        · rename_i hst
          have hfs : P.fieldsOf t = fs := by simp [Program.fieldsOf, hu]
          have lx := hx.length
          have ly := hy.length
          obtain ⟨r, hr, hiff⟩ := eqFieldsK (m + d) (g := kindsOf P d) (fun t ks hk => ⟨eqK d t ks hk m, kindsOf_row hk⟩) w xs ys fs.toList 0 ks h (by omega) (by omega) (by simpa using hx) (by simpa using hy)
          refine ⟨r, ?_, by simpa using hiff⟩
          show (Op.equalIn (m + d + 1) t (.agg xs.toArray) (.agg ys.toArray)).run P w = _
          rw [run_equalIn_struct w (m + d) t _ _ (by rw [hfs]; exact hu) hst, hfs]; exact hr
        · cases h
end
end Go.Proofs.YtefgchmbdijjdaaGreatDoor

namespace Go.Proofs.YtefgchmbdijjdaaGreatDoor
open Go.RowKit

/-- in the range of int -/
def IR (n : Int) : Prop := -9223372036854775808 ≤ n ∧ n ≤ 9223372036854775807
instance (n : Int) : Decidable (IR n) := inferInstanceAs (Decidable (_ ∧ _))
theorem IR.wrap (n : Int) : IR (IntKind.i64.wrap n) := by
  unfold IR IntKind.wrap; simp [IntKind.bits, IntKind.signed]; split <;> omega

theorem IR.tmod {a : Int} (h : IR a) (b : Int) : IR (a.tmod b) := by
  unfold IR at *
  cases a with
  | ofNat m =>
    have e : (Int.ofNat m).tmod b = Int.ofNat (m % b.natAbs) := by cases b <;> rfl
    have hl := Nat.mod_le m b.natAbs
    rw [e]
    generalize m % b.natAbs = q at *
    simp only [Int.ofNat_eq_natCast] at *
    omega
  | negSucc m =>
    have e : (Int.negSucc m).tmod b = -Int.ofNat ((m + 1) % b.natAbs) := by cases b <;> rfl
    have hl := Nat.mod_le (m + 1) b.natAbs
    rw [e]
    generalize (m + 1) % b.natAbs = q at *
    simp only [Int.ofNat_eq_natCast, Int.negSucc_eq] at *
    omega

/-- a slice of the call's own or of its caller's: it may be nil -/
def SliOk (nl : Bool) (len cap : Nat) : Prop := len ≤ cap ∧ cap ≤ 9223372036854775807 ∧ (nl = true → cap = 0)
instance (nl : Bool) (len cap : Nat) : Decidable (SliOk nl len cap) := inferInstanceAs (Decidable (_ ∧ _ ∧ _))
theorem SliOk.ir {nl : Bool} {len cap : Nat} (h : SliOk nl len cap) : IR len := by unfold SliOk at h; unfold IR; omega
theorem SliOk.pos {nl : Bool} {len cap : Nat} (h : SliOk nl len cap) {i : Nat} (hi : i < len) : nl = false := by
  cases nl
  · rfl
  · have := h.2.2 rfl; have := h.1; omega
theorem SliOk.sub {nl : Bool} {len cap : Nat} (h : SliOk nl len cap) {l k m : Nat} (hc : l ≤ k ∧ k ≤ m ∧ m ≤ cap) : SliOk nl (k - l) (m - l) := by
  have h1 := h.1
  have h2 := h.2.1
  exact ⟨by omega, by omega, fun e => by have := h.2.2 e; omega⟩
theorem IR.fdiv {a : Int} (h : IR a) (n : Nat) : IR (a.fdiv (2 ^ n)) := by
  have hp : (0 : Int) < 2 ^ n := Int.pow_pos (by decide)
  rw [Int.fdiv_eq_ediv_of_nonneg _ (Int.le_of_lt hp)]
  unfold IR at *
  have h1 := Int.ediv_mul_le a (Int.ne_of_gt hp)
  have h2 := Int.lt_ediv_add_one_mul_self a hp
  generalize a / 2 ^ n = q at *
  generalize (2 : Int) ^ n = p at *
  constructor
  · by_cases hq : q < 0
    · have : q + 1 ≤ 0 := by omega
      have := Int.mul_le_mul_of_nonpos_left (a := q + 1) (b := p) (c := 1) (by omega) (by omega)
      simp only [Int.mul_one] at this
      omega
    · omega
  · by_cases hq : 0 < q
    · have := Int.mul_le_mul_of_nonneg_left (a := 1) (b := p) (c := q) (by omega) (by omega)
      simp only [Int.mul_one] at this
      omega
    · omega
def minI (a b : Int) : Int := if b < a then b else a
def maxI (a b : Int) : Int := if a < b then b else a
theorem IR.minI {a b : Int} (h : IR a) (h' : IR b) : IR (minI a b) := by unfold Proofs.YtefgchmbdijjdaaGreatDoor.minI; split <;> assumption
theorem IR.maxI {a b : Int} (h : IR a) (h' : IR b) : IR (maxI a b) := by unfold Proofs.YtefgchmbdijjdaaGreatDoor.maxI; split <;> assumption

/-- what a method value holds of its receiver: cells without an address -/
inductive B1 where
  | val (v : Value)
  | int (n : Int) (h : IR n)
  | wid (k : Nat) (z : Int) (h : Sm k z)
def B1.cells : B1 → List Value
  | .val v => [v]
  | .int n _ => [.int .i64 n]
  | .wid _ z _ => [.bool (decide (z < 0)), .string ⟨(mag z.natAbs).toArray⟩]
def bndV : List B1 → Array Value
  | [] => #[]
  | x :: l => #[.agg ((x :: l).flatMap B1.cells).toArray]
/-- what lies in a block: a cell, or the two cells of a canonical number -/
inductive C where
  | val (v : Value)
  | int (n : Int) (h : IR n)
  | wid (k : Nat) (z : Int) (h : Sm k z)
  | ptr (b off : Nat)
  | sli (nl : Bool) (b off len cap : Nat) (h : SliOk nl len cap)
  | fn (f : FuncId) (bd : List B1) (caps : List (Nat × Nat))
inductive T1 where
  | c (x : C)
  | agg (l : List C)
/-- a value -/
inductive SV where
  | c (x : C)
  | agg (l : List C)
  | tup (l : List T1)
/-- a block: its own (its cells, and how many more there are), or read alone (known from an offset on) -/
structure Blk where
  ty : TypeId
  ro : Bool
  cs : List C
  tl : Nat := 0
/-- a block of which nothing is known -/
def Blk.void (b : Blk) : Bool := match b.ro, b.cs with | true, [] => true | _, _ => false

abbrev Rho := Nat → Nat × Nat
def adr (ρ : Rho) (b off : Nat) : Value := .pointer (some ⟨(ρ b).1, (ρ b).2 + off, none⟩)
def nlA (nl : Bool) (a : Addr) : Option Addr := match nl with | true => none | false => some a
def C.cells (ρ : Rho) : C → List Value
  | .val v => [v]
  | .int n _ => [.int .i64 n]
  | .wid _ z _ => [.bool (decide (z < 0)), .string ⟨(mag z.natAbs).toArray⟩]
  | .ptr b off => [adr ρ b off]
  | .sli nl b off len cap _ => [.slice (nlA nl ⟨(ρ b).1, (ρ b).2 + off, none⟩) len cap]
  | .fn f bd caps => [.func (.func f) (bndV bd) (caps.map fun p => adr ρ p.1 p.2).toArray]
def C.n : C → Nat
  | .wid _ _ _ => 2
  | _ => 1
def C.one : C → Bool
  | .val v => v.oneCell'
  | .int _ _ => true
  | .wid _ _ _ => true
  | .ptr _ _ => true
  | .sli _ _ _ _ _ _ => true
  | .fn _ _ _ => true
def cellsL (ρ : Rho) (l : List C) : List Value := l.flatMap (C.cells ρ)
def C.den (ρ : Rho) (x : C) : Value := (x.cells ρ).headD undef
def T1.den (ρ : Rho) : T1 → Value
  | .c x => x.den ρ
  | .agg l => .agg (cellsL ρ l).toArray
def SV.den (ρ : Rho) : SV → Value
  | .c x => x.den ρ
  | .agg l => .agg (cellsL ρ l).toArray
  | .tup l => .tuple (l.map (T1.den ρ)).toArray
def T1.sv : T1 → SV
  | .c x => .c x
  | .agg l => .agg l
def uv : SV := .c (.val undef)

/-- lists, reckoned to the end -/
def nth {α : Type} (d : α) : List α → Nat → α
  | [], _ => d
  | x :: _, 0 => x
  | _ :: l, n + 1 => nth d l n
def nthO {α : Type} : List α → Nat → Option α
  | [], _ => none
  | x :: _, 0 => some x
  | _ :: l, n + 1 => nthO l n
def updK {α : Type} : List α → Nat → α → (List α → Prop) → Prop
  | [], _, _, K => K []
  | _ :: l, 0, v, K => K (v :: l)
  | x :: l, n + 1, v, K => updK l n v fun l => K (x :: l)
def snocK {α : Type} : List α → α → (List α → Prop) → Prop
  | [], v, K => K [v]
  | x :: l, v, K => snocK l v fun l => K (x :: l)
def lenK {α : Type} : List α → (Nat → Prop) → Prop
  | [], K => K 0
  | _ :: l, K => lenK l fun n => K (n + 1)
def C.force (x : C) (K : C → Prop) : Prop :=
  match x with
  | .val v => K (.val v)
  | .int n h => K (.int n h)
  | .wid k z h => K (.wid k z h)
  | .ptr b off => K (.ptr b off)
  | .sli nl b off len cap h => K (.sli nl b off len cap h)
  | .fn f bd caps => K (.fn f bd caps)
def forceL : List C → (List C → Prop) → Prop
  | [], K => K []
  | x :: l, K => x.force fun x => forceL l fun l => K (x :: l)
def T1.force (x : T1) (K : T1 → Prop) : Prop :=
  match x with
  | .c x => x.force fun x => K (.c x)
  | .agg l => forceL l fun l => K (.agg l)
def forceT : List T1 → (List T1 → Prop) → Prop
  | [], K => K []
  | x :: l, K => x.force fun x => forceT l fun l => K (x :: l)
def SV.force (v : SV) (K : SV → Prop) : Prop :=
  match v with
  | .c x => x.force fun x => K (.c x)
  | .agg l => forceL l fun l => K (.agg l)
  | .tup l => forceT l fun l => K (.tup l)
def bcase (b : Bool) (X Y : Prop) : Prop :=
  match b with
  | true => X
  | false => Y

/-- what a type is -/
inductive Sh where
  | other
  | struct (fs : List (Nat × Nat × Bool))
  | array (n esz : Nat) (eagg : Bool)
  | slice (e : TypeId) (esz : Nat) (ez : List C)
  | int (k : IntKind)
  | bool
  | string
structure TI where
  size : Nat
  agg : Bool
  zero : List C
  sh : Sh
  eq : Option (List K) := none

def ofConst : Value → SV
  | .int .i64 n => if h : IR n then .c (.int n h) else .c (.val (.int .i64 n))
  | .agg cs => .agg (cs.toList.map .val)
  | v => .c (.val v)
def evm (tm : List SV) : Operand → SV
  | .tmp t => nth uv tm t
  | .const v => ofConst v
  | .func f => .c (.fn f [] [])
  | .global g => .c (.val (.pointer (some ⟨g, 0, none⟩)))

def B1.c : B1 → C
  | .val v => .val v
  | .int n h => .int n h
  | .wid k z h => .wid k z h
def C.b1 : C → Option B1
  | .val v => some (.val v)
  | .int n h => some (.int n h)
  | .wid k z h => some (.wid k z h)
  | _ => none
def bndL : List C → Option (List B1)
  | [] => some []
  | x :: l => (match x.b1, bndL l with | some b, some m => some (b :: m) | _, _ => none)
def bndA : List B1 → List SV
  | [] => []
  | x :: l => [.agg ((x :: l).map B1.c)]
theorem B1.c_cells (ρ : Rho) (b : B1) : b.c.cells ρ = b.cells := by cases b <;> rfl
theorem C.b1_cells (ρ : Rho) {x : C} {b : B1} (h : x.b1 = some b) : x.cells ρ = b.cells := by
  cases x <;> cases h <;> rfl
theorem bndL_cells (ρ : Rho) : ∀ {l : List C} {m : List B1}, bndL l = some m → cellsL ρ l = m.flatMap B1.cells
  | [], _, h => by cases h; rfl
  | x :: l, m, h => by
    unfold bndL at h
    split at h
    · rename_i b m' hb hm
      cases h
      have := bndL_cells ρ hm
      unfold cellsL at this ⊢
      rw [List.flatMap_cons, List.flatMap_cons, this, C.b1_cells ρ hb]
    · cases h
theorem bndA_den (ρ : Rho) (l : List B1) : ((bndA l).map (SV.den ρ)).toArray = bndV l := by
  cases l with
  | nil => rfl
  | cons x l =>
    have : cellsL ρ ((x :: l).map B1.c) = (x :: l).flatMap B1.cells := by
      unfold cellsL
      rw [List.flatMap_map]
      congr 1
      funext b
      exact B1.c_cells ρ b
    show #[Value.agg (cellsL ρ ((x :: l).map B1.c)).toArray] = _
    rw [this]; rfl

/-- the cells of a value -/
def SV.ch : SV → Option (List C)
  | .c x => (match x.n, x.one with
    | 1, true => some [x]
    | _, _ => none)
  | .agg l => some l
  | .tup _ => none
/-- n cells off the head -/
def takeC : Nat → List C → Option (List C × List C)
  | 0, l => some ([], l)
  | _ + 1, [] => none
  | n + 1, x :: l => if x.n ≤ n + 1 then (match takeC (n + 1 - x.n) l with | some (a, b) => some (x :: a, b) | none => none) else none
def sizeC : List C → Nat
  | [] => 0
  | x :: l => x.n + sizeC l
def subC (cs : List C) (off n : Nat) : Option (List C) :=
  match takeC off cs with
  | some (_, r) => (match takeC n r with | some (m, _) => some m | none => none)
  | none => none
/-- cells from an offset on written anew -/
def spliceC (cs : List C) (off : Nat) (new : List C) : Option (List C) :=
  match takeC off cs with
  | some (a, r) => (match takeC (sizeC new) r with | some (_, b) => some (a ++ (new ++ b)) | none => none)
  | none => none
def wrapV (agg : Bool) (m : List C) : Option SV :=
  match agg, m with
  | true, m => some (.agg m)
  | false, [x] => (match x.n with | 1 => some (.c x) | _ => none)
  | false, _ => none
/-- numbers as their two cells -/
def splitC : List C → List C
  | [] => []
  | .wid _ z _ :: l => .val (.bool (decide (z < 0))) :: .val (.string ⟨(mag z.natAbs).toArray⟩) :: splitC l
  | x :: l => x :: splitC l
/-- cells written anew, a number's too -/
def putC (cs : List C) (off : Nat) (new : List C) : Option (List C) :=
  match spliceC cs off new with
  | some cs => some cs
  | none => spliceC (splitC cs) off new
def partC (agg : Bool) (cs : List C) (off n : Nat) : Option SV :=
  match subC cs off n with
  | some m => wrapV agg m
  | none => (match subC (splitC cs) off n with
    | some m => wrapV agg m
    | none => none)
def fillC (place : Nat → Option (Nat × Nat)) (cs : List C) : List (Nat × SV) → Option (List C)
  | [] => some cs
  | (i, v) :: rest =>
    match place i, v.ch with
    | some (off, n), some l => if sizeC l = n then (match spliceC cs off l with | some cs => fillC place cs rest | none => none) else none
    | _, _ => none

def repC : Nat → List C → List C
  | 0, _ => []
  | n + 1, l => l ++ repC n l
def allOne : List C → Bool
  | [] => true
  | x :: l => x.one && allOne l

inductive Eff where
  | val (v : SV)
  | new (b : Blk) (v : Nat → SV)
  | put (b : Nat) (cs : List C)

def bv (b : Bool) : Option Eff := some (.val (.c (.val (.bool b))))
def iv (n : Int) : Option Eff := some (.val (.c (.int (IntKind.i64.wrap n) (IR.wrap n))))
/-- a comparison of cells -/
def andO (a : Bool) (l : List C) (r : Option Bool) : Option Bool :=
  match l, r with
  | [], some _ => some a
  | _, some b => some (a && b)
  | _, none => none
def eqL : List K → List C → List C → Option Bool
  | [], [], [] => some true
  | .b :: .s :: ks, .wid _ y _ :: l, .wid _ z _ :: m => andO (decide (y = z)) l (eqL ks l m)
  | .b :: .s :: ks, .wid _ y _ :: l, .val (.bool b) :: .val (.string s) :: m => andO (decide (y < 0) == b && decide ((⟨(mag y.natAbs).toArray⟩ : ByteArray) = s)) l (eqL ks l m)
  | .b :: .s :: ks, .val (.bool b) :: .val (.string s) :: l, .wid _ z _ :: m => andO (b == decide (z < 0) && decide (s = (⟨(mag z.natAbs).toArray⟩ : ByteArray))) l (eqL ks l m)
  | .i .i64 :: ks, .int a _ :: l, .int b _ :: m => andO (decide (a = b)) l (eqL ks l m)
  | .i k :: ks, .val (.int i a) :: l, .val (.int j b) :: m => if i = k ∧ j = k then andO (decide (a = b)) l (eqL ks l m) else none
  | .b :: ks, .val (.bool a) :: l, .val (.bool b) :: m => andO (a == b) l (eqL ks l m)
  | .s :: ks, .val (.string a) :: l, .val (.string b) :: m => andO (decide (a = b)) l (eqL ks l m)
  | _, _, _ => none
def pureO : Sem Value → Option Eff
  | .pure v => some (.val (.c (.val v)))
  | _ => none
def binS (T : TypeId → Option TI) (op : BinOp) (t : TypeId) (x y : SV) : Option Eff :=
  match x, y with
  | .c (.int a ha), .c (.int b _) =>
    match op with
    | .add => iv (a + b)
    | .sub => iv (a - b)
    | .mul => iv (a * b)
    | .eql => bv (decide (a = b))
    | .neq => bv (!decide (a = b))
    | .lss => bv (decide (a < b))
    | .leq => bv (decide (a ≤ b))
    | .gtr => bv (decide (b < a))
    | .geq => bv (decide (b ≤ a))
    | .quo => if b = 0 then none else iv (a.tdiv b)
    | .rem => if b = 0 then none else some (.val (.c (.int (a.tmod b) (ha.tmod b))))
    | .and => iv ((BitVec.ofInt 64 a &&& BitVec.ofInt 64 b).toNat)
    | .or => iv ((BitVec.ofInt 64 a ||| BitVec.ofInt 64 b).toNat)
    | .xor => iv ((BitVec.ofInt 64 a ^^^ BitVec.ofInt 64 b).toNat)
    | .andNot => iv ((BitVec.ofInt 64 a &&& ~~~(BitVec.ofInt 64 b)).toNat)
    | .shl => if b < 0 then none else iv (a * 2 ^ (min b.toNat 64))
    | .shr => if b < 0 then none else some (.val (.c (.int (a.fdiv (2 ^ (min b.toNat 64))) (ha.fdiv _))))
  | .agg l, .agg m =>
    match T t with
    | some { eq := some ks, .. } => (match op, eqL ks l m with | .eql, some b => bv b | .neq, some b => bv (!b) | _, _ => none)
    | _ => none
  | .c (.val (.bool a)), .c (.val (.bool b)) => (match T t with
    | some { sh := .bool, .. } => (match op with | .eql => bv (a == b) | .neq => bv (!(a == b)) | _ => none)
    | _ => none)
  | .c (.val (.string a)), .c (.val (.string b)) => pureO (binOp op t (.string a) (.string b))
  | .c (.val (.int k a)), .c (.val (.int j b)) => pureO (binOp op t (.int k a) (.int j b))
  | .c (.int a ha), .c (.val (.int _ b)) =>
    match op with
    | .shl => if b < 0 then none else iv (a * 2 ^ (min b.toNat 64))
    | .shr => if b < 0 then none else some (.val (.c (.int (a.fdiv (2 ^ (min b.toNat 64))) (ha.fdiv _))))
    | _ => none
  | .c (.val (.int k a)), .c (.int b _) => pureO (binOp op t (.int k a) (.int .i64 b))
  | _, _ => none
def ptrs : List SV → Option (List (Nat × Nat))
  | [] => some []
  | .c (.ptr b o) :: l => (match ptrs l with | some m => some ((b, o) :: m) | none => none)
  | _ => none
def natOf : SV → Option Nat
  | .c (.int (.ofNat i) _) => some i
  | _ => none
def slOff (off esz l m : Nat) : Nat := match l with | 0 => off | l + 1 => if m = l + 1 then off else off + (l + 1) * esz
def bndO (x : Option SV) (d : Nat) : Option Nat := match x with | none => some d | some v => natOf v
def selB (t : Bool) (x y : SV) : SV := match t with | true => x | false => y
def eff (T : TypeId → Option TI) (op : Op) (ev : Operand → SV) (hp : Nat → Option Blk) : Option Eff :=
  match op with
  | .move x => some (.val (ev x))
  | .assign x => some (.val (ev x))
  | .pick c a b => (match ev c with
    | .c (.val (.bool t)) => (match ev a, ev b with
      | .c (.val (.bool x)), .c (.val (.bool y)) => bv (cond t x y)
      | x, y => some (.val (selB t x y)))
    | _ => none)
  | .alloc t => (match T t with
    | some ti => some (.new { ty := t, ro := false, cs := ti.zero } fun n => .c (.ptr n 0))
    | none => none)
  | .box t x => (match (ev x).ch with
    | some l => if allOne l then some (.new { ty := t, ro := false, cs := l } fun n => .c (.ptr n 0)) else none
    | none => none)
  | .buildSlice t len parts => (match T t with
    | some { sh := .slice e esz ez, .. } => (match fillC (fun i => some (i * esz, esz)) (repC len ez) (parts.toList.map fun p => (p.1, ev p.2)) with
      | some cs => if h : SliOk false len len ∧ len * esz ≤ 16777216 then some (.new { ty := e, ro := false, cs := cs } fun n => .c (.sli false n 0 len len h.1)) else none
      | none => none)
    | _ => none)
  | .load t x => (match ev x, T t with
    | .c (.ptr b off), some ti => (match hp b with
      | some blk => (match partC ti.agg blk.cs off ti.size with | some v => some (.val v) | none => none)
      | none => none)
    | _, _ => none)
  | .store t x y => (match ev x, (ev y).ch, T t with
    | .c (.ptr b off), some l, some ti => if sizeC l = ti.size ∧ allOne l = true then (match hp b with
      | some blk => if blk.ro then none else (match putC blk.cs off l with | some cs => some (.put b cs) | none => none)
      | none => none) else none
    | _, _, _ => none)
  | .build t parts => (match T t with
    | some { sh := .struct fs, zero := z, .. } => (match fillC (fun i => match nthO fs i with | some (o, n, _) => some (o, n) | none => none) z (parts.toList.map fun p => (p.1, ev p.2)) with
      | some cs => some (.val (.agg cs))
      | none => (match fillC (fun i => match nthO fs i with | some (o, n, _) => some (o, n) | none => none) (splitC z) (parts.toList.map fun p => (p.1, ev p.2)) with
        | some cs => some (.val (.agg cs))
        | none => none))
    | some { sh := .array _ esz _, zero := z, .. } => (match fillC (fun i => some (i * esz, esz)) z (parts.toList.map fun p => (p.1, ev p.2)) with
      | some cs => some (.val (.agg cs))
      | none => none)
    | _ => none)
  | .binOp op t x y _ => binS T op t (ev x) (ev y)
  | .unOp op _ x => (match op, ev x with
    | .not, .c (.val (.bool b)) => bv (!b)
    | .neg, .c (.int a _) => iv (0 - a)
    | op, .c (.val (.int k a)) => pureO (Op.unary op (.int k a))
    | _, _ => none)
  | .convert s d x => (match T s, T d, ev x with
    | some _, some { sh := .int .i64, .. }, .c (.int a _) => iv a
    | some _, some { sh := .int .i64, .. }, .c (.val (.int _ a)) => iv a
    | some _, some { sh := .int k, .. }, .c (.int a _) => some (.val (.c (.val (.int k (k.wrap a)))))
    | some _, some { sh := .int k, .. }, .c (.val (.int _ a)) => some (.val (.c (.val (.int k (k.wrap a)))))
    | _, _, _ => none)
  | .fieldAddr t x f => (match T t, ev x with
    | some { sh := .struct fs, .. }, .c (.ptr b off) => (match nthO fs f with
      | some (o, n, _) => if n = 0 then none else some (.val (.c (.ptr b (off + o))))
      | none => none)
    | _, _ => none)
  | .field t x f => (match T t, ev x with
    | some { sh := .struct fs, .. }, .agg l => (match nthO fs f with
      | some (o, n, a) => (match partC a l o n with | some v => some (.val v) | none => none)
      | none => none)
    | _, _ => none)
  | .indexAddr t x i => (match T t, ev x, natOf (ev i) with
    | some { sh := .array n esz _, .. }, .c (.ptr b off), some i => if i < n then some (.val (.c (.ptr b (off + i * esz)))) else none
    | some { sh := .slice _ esz _, .. }, .c (.sli _ b off len _ _), some i => if i < len then some (.val (.c (.ptr b (off + i * esz)))) else none
    | _, _, _ => none)
  | .index t x i => (match T t, ev x, natOf (ev i) with
    | some { sh := .array n esz a, .. }, .agg l, some i => if i < n then (match partC a l (i * esz) esz with | some v => some (.val v) | none => none) else none
    | some { sh := .string, .. }, .c (.val (.string s)), some i => if i < s.size then some (.val (.c (.val (.int .u8 ((s.data[i]?.getD 0).toNat))))) else none
    | _, _, _ => none)
  | .slice t x lo hi mx => (match T t, ev x with
    | some { sh := .slice _ esz _, .. }, .c (.sli nl b off len cap h) => (match bndO (lo.map ev) 0, bndO (hi.map ev) len, bndO (mx.map ev) cap with
      | some l, some k, some m => if hc : (l ≤ k ∧ k ≤ m ∧ m ≤ cap) ∧ (hi.isSome || mx.isNone) = true then some (.val (.c (.sli nl b (slOff off esz l m) (k - l) (m - l) (h.sub hc.1)))) else none
      | _, _, _ => none)
    | some { sh := .slice _ _ _, .. }, .c (.val (.slice a 0 0)) => (match bndO (lo.map ev) 0, bndO (hi.map ev) 0, mx with
      | some 0, some 0, none => some (.val (.c (.val (.slice a 0 0))))
      | _, _, _ => none)
    | some { sh := .string, .. }, .c (.val (.string s)) => (match bndO (lo.map ev) 0, bndO (hi.map ev) s.size, mx with
      | some l, some k, none => if l ≤ k ∧ k ≤ s.size then some (.val (.c (.val (.string (s.extract l k))))) else none
      | _, _, _ => none)
    | _, _ => none)
  | .nilCheck x => (match ev x with
    | .c (.ptr b off) => some (.val (.c (.ptr b off)))
    | .c (.fn f bd caps) => some (.val (.c (.fn f bd caps)))
    | _ => none)
  | .extract x i => (match ev x with
    | .tup l => (match nthO l i with | some t => some (.val t.sv) | none => none)
    | _ => none)
  | .makeFunc fn first captured => (match fn, first.toList, ptrs (captured.toList.map ev) with
    | .func f, [], some ps => some (.val (.c (.fn f [] ps)))
    | .func f, [x], some [] => (match ev x with
      | .agg l => (match bndL l with
        | some (b :: bs) => some (.val (.c (.fn f (b :: bs) [])))
        | _ => none)
      | _ => none)
    | _, _, _ => none)
  | .call c => (match c.callee, c.args.toList, c.argTypes.toList with
    | .builtin .len, [x], [t] => (match T t, ev x with
      | some { sh := .slice _ _ _, .. }, .c (.sli _ _ _ len _ h) => some (.val (.c (.int len h.ir)))
      | some { sh := .slice _ _ _, .. }, .c (.val (.slice _ len _)) => if h : IR len then some (.val (.c (.int len h))) else none
      | some { sh := .string, .. }, .c (.val (.string s)) => if h : IR s.size then some (.val (.c (.int s.size h))) else none
      | _, _ => none)
    | .builtin .min, [x, y], _ => (match ev x, ev y with
      | .c (.int a ha), .c (.int b hb) => some (.val (.c (.int (minI a b) (ha.minI hb))))
      | _, _ => none)
    | .builtin .max, [x, y], _ => (match ev x, ev y with
      | .c (.int a ha), .c (.int b hb) => some (.val (.c (.int (maxI a b) (ha.maxI hb))))
      | _, _ => none)
    | .builtin .min, [x, y, z], _ => (match ev x, ev y, ev z with
      | .c (.int a ha), .c (.int b hb), .c (.int c hc) => some (.val (.c (.int (minI (minI a b) c) ((ha.minI hb).minI hc))))
      | _, _, _ => none)
    | .builtin .max, [x, y, z], _ => (match ev x, ev y, ev z with
      | .c (.int a ha), .c (.int b hb), .c (.int c hc) => some (.val (.c (.int (maxI (maxI a b) c) ((ha.maxI hb).maxI hc))))
      | _, _, _ => none)
    | _, _, _ => none)
  | _ => none

/-- what is known of the functions that are called: what is owed, and what comes back -/
structure Env where
  T : TypeId → Option TI
  un : Nat
  D : FuncId → List SV → (Nat → Option Blk) → Option (Option Prop × SV)
  O : Oper → List SV → List Blk → (List SV → List Blk → Prop) → Prop := fun _ _ _ _ => False
  n0 : Nat := 0
  ord : Nat → Bool := fun _ => false

def putK (d : Option Tmp) (v : SV) (tm : List SV) (K : List SV → Prop) : Prop :=
  match d with
  | some t => updK tm t v K
  | none => K tm
def callee (ev : Operand → SV) (c : Call) : Option (FuncId × List SV) :=
  match c.callee with
  | .value f => (match ev f with
    | .c (.fn f bd caps) => some (f, bndA bd ++ (c.args.toList.map ev ++ caps.map fun p => .c (.ptr p.1 p.2)))
    | _ => none)
  | _ => none
/-- the reckoner stops here -/
inductive Bad (o : Oper) (why : Nat) (ev : List SV) : Prop
def opEv (o : Oper) (tm : List SV) : List SV := o.op.operands.toList.map (evm tm)
/-- one operation -/
def vcOp (E : Env) (H : FuncId → List SV → List Blk → (SV → List Blk → Prop) → Prop) (o : Oper) (tm : List SV) (hp : List Blk) (K : List SV → List Blk → Prop) : Prop :=
  match eff E.T o.op (evm tm) (nthO hp) with
  | some (.val v) => v.force fun v => putK o.dst v tm fun tm => K tm hp
  | some (.new ⟨ty, ro, cs, tl⟩ v) => forceL cs fun cs => snocK hp ⟨ty, ro, cs, tl⟩ fun hp' => lenK hp fun n => (v n).force fun v => putK o.dst v tm fun tm => K tm hp'
  | some (.put b cs) => forceL cs fun cs => (match nthO hp b with | some ⟨ty, ro, _, tl⟩ => updK hp b ⟨ty, ro, cs, tl⟩ fun hp => putK o.dst uv tm fun tm => K tm hp | none => Bad o 1 (opEv o tm))
  | none => (match o.op with
    | .call c => (match callee (evm tm) c with
      | some (f, args) => (match E.D f args (nthO hp) with
        | some (none, v) => v.force fun v => putK o.dst v tm fun tm => K tm hp
        | some (some p, v) => p ∧ v.force fun v => putK o.dst v tm fun tm => K tm hp
        | none => H f args hp fun v hp => v.force fun v => putK o.dst v tm fun tm => K tm hp)
      | none => E.O o tm hp K)
    | _ => E.O o tm hp K)
def guardS (all : Array Oper) (j : Nat) : Option Tmp :=
  match nthO all.toList j with
  | some o => o.dst
  | none => none
def vcOps (E : Env) (H : FuncId → List SV → List Blk → (SV → List Blk → Prop) → Prop) (all : Array Oper) : List Oper → List SV → List Blk → (List SV → List Blk → Prop) → Prop
  | [], tm, hp, K => K tm hp
  | o :: os, tm, hp, K =>
    match o.guard with
    | none => vcOp E H o tm hp fun tm hp => vcOps E H all os tm hp K
    | some (j, want) => (match guardS all j with
      | some t => (match nth uv tm t with
        | .c (.val (.bool b)) => (match want with
          | true => bcase b (updK tm t (.c (.val (.bool true))) fun tm => vcOp E H o tm hp fun tm hp => vcOps E H all os tm hp K) (updK tm t (.c (.val (.bool false))) fun tm => putK o.dst uv tm fun tm => vcOps E H all os tm hp K)
          | false => bcase b (updK tm t (.c (.val (.bool true))) fun tm => putK o.dst uv tm fun tm => vcOps E H all os tm hp K) (updK tm t (.c (.val (.bool false))) fun tm => vcOp E H o tm hp fun tm hp => vcOps E H all os tm hp K))
        | .c (.val (.tuple _)) => putK o.dst uv tm fun tm => vcOps E H all os tm hp K
        | _ => Bad o 4 (opEv o tm))
      | none => Bad o 5 (opEv o tm))
/-- where a piece of code ends -/
inductive SE where
  | normal
  | exit (id : Nat)
  | ret
def rounds (b : List SV → List Blk → (SE → List SV → List Blk → Prop) → Prop) (Q : SE → List SV → List Blk → Prop) : Nat → List SV → List Blk → Prop
  | 0, _, _ => False
  | n + 1, tm, hp => b tm hp fun e tm hp => (match e with | .normal => rounds b Q n tm hp | .exit id => Q (.exit id) tm hp | .ret => Q .ret tm hp)
def inB : List Nat → Nat → Bool
  | [], _ => false
  | a :: l, i => a == i || inB l i
/-- blocks chosen anew: where a block stands among the chosen ones -/
def posL : List Nat → Nat → Nat → Option Nat
  | [], _, _ => none
  | a :: l, i, k => if a = i then some k else posL l i (k + 1)
def renP (sel : List Nat) : List (Nat × Nat) → Option (List (Nat × Nat))
  | [] => some []
  | p :: l => (match posL sel p.1 0, renP sel l with | some b, some l => some ((b, p.2) :: l) | _, _ => none)
def C.ren (sel : List Nat) : C → Option C
  | .ptr b off => (match posL sel b 0 with | some b => some (.ptr b off) | none => none)
  | .sli nl b off len cap h => (match posL sel b 0 with | some b => some (.sli nl b off len cap h) | none => none)
  | .fn f bd caps => (match renP sel caps with | some caps => some (.fn f bd caps) | none => none)
  | x => some x
def renL (sel : List Nat) : List C → Option (List C)
  | [] => some []
  | x :: l => (match x.ren sel, renL sel l with | some x, some l => some (x :: l) | _, _ => none)
def T1.ren (sel : List Nat) : T1 → Option T1
  | .c x => (match x.ren sel with | some x => some (.c x) | none => none)
  | .agg l => (match renL sel l with | some l => some (.agg l) | none => none)
def renT (sel : List Nat) : List T1 → Option (List T1)
  | [] => some []
  | x :: l => (match x.ren sel, renT sel l with | some x, some l => some (x :: l) | _, _ => none)
def SV.ren (sel : List Nat) : SV → Option SV
  | .c x => (match x.ren sel with | some x => some (.c x) | none => none)
  | .agg l => (match renL sel l with | some l => some (.agg l) | none => none)
  | .tup l => (match renT sel l with | some l => some (.tup l) | none => none)
def renK (sel keep : List Nat) (vs : Nat → Value) : Nat → List SV → (List SV → Prop) → Prop
  | _, [], K => K []
  | i, x :: l, K => (match inB keep i with
    | false => renK sel keep vs (i + 1) l fun l => K (.c (.val (vs i)) :: l)
    | true => (match x.ren sel with
      | some y => renK sel keep vs (i + 1) l fun l => K (y :: l)
      | none => renK sel keep vs (i + 1) l fun l => K (.c (.val (vs i)) :: l)))
/-- cells without an address of a known block -/
def PureL (l : List C) : Prop := ∀ ρ ρ' : Rho, l.flatMap (C.cells ρ) = l.flatMap (C.cells ρ')
/-- the chosen blocks (those in pf hold no address) -/
def selK (hp : List Blk) (sel pf : List Nat) : Nat → List Nat → (List Blk → Prop) → Prop
  | _, [], K => K []
  | k, a :: l, K => (match nthO hp a with
    | some ⟨ty, ro, cs, tl⟩ => (match inB pf k with
      | true => PureL cs ∧ selK hp sel pf (k + 1) l fun l => K (⟨ty, ro, cs, tl⟩ :: l)
      | false => (match renL sel cs with
        | some cs => selK hp sel pf (k + 1) l fun l => K (⟨ty, ro, cs, tl⟩ :: l)
        | none => False))
    | none => selK hp sel pf (k + 1) l fun l => K ({ ty := a - 1000, ro := true, cs := [], tl := 0 } :: l))
def preOk : Nat → Nat → List Nat → Bool
  | 0, _, _ => true
  | n + 1, i, a :: l => a == i && preOk n (i + 1) l
  | _ + 1, _, [] => false
def ndL : List Nat → Bool
  | [] => true
  | a :: l => !inB l a && ndL l
def endK (n0 : Nat) (sel keep pf : List Nat) (vs : Nat → Value) (tm : List SV) (hp : List Blk) (K : List SV → List Blk → Prop) : Prop :=
  match preOk n0 0 sel && ndL sel with
  | true => selK hp sel pf 0 sel fun hp' => renK sel keep vs 0 tm fun tm' => K tm' hp'
  | false => False
/-- what denotes the same -/
def SameTm : List SV → List SV → Prop
  | [], [] => True
  | x :: l, y :: m => (∀ ρ, x.den ρ = y.den ρ) ∧ SameTm l m
  | _, _ => False
def SameHp : List Blk → List Blk → Prop
  | [], [] => True
  | b :: l, c :: m => (b.ty = c.ty ∧ b.ro = c.ro ∧ b.tl = c.tl ∧ ∀ ρ, cellsL ρ b.cs = cellsL ρ c.cs) ∧ SameHp l m
  | _, _ => False
/-- into a loop, and round again: blocks chosen anew, slots forgotten -/
def entK (n0 : Nat) (tm : List SV) (hp : List Blk) (I : List SV → List Blk → Prop) : Prop :=
  ∃ sel keep pf : List Nat, ∀ vs, endK n0 sel keep pf vs tm hp fun tm hp => ∃ tm2 hp2, SameTm tm tm2 ∧ SameHp hp hp2 ∧ I tm2 hp2
def loopQ (un n0 : Nat) (b : List SV → List Blk → (SE → List SV → List Blk → Prop) → Prop) (tm : List SV) (hp : List Blk) (Q : SE → List SV → List Blk → Prop) : Prop :=
  match un with
  | n + 1 => rounds b Q (n + 1) tm hp
  | 0 => (∃ n, rounds b Q n tm hp) ∨ ∃ (I : Nat → List SV → List Blk → Prop), entK n0 tm hp (fun tm hp => ∃ n, I n tm hp) ∧
    ∀ n tm' hp', I n tm' hp' → b tm' hp' fun e tm' hp' => (match e with
      | .normal => entK n0 tm' hp' fun tm hp => ∃ n', n' < n ∧ I n' tm hp
      | .exit id => Q (.exit id) tm' hp'
      | .ret => Q .ret tm' hp')
/-- in a region that draws its order: does the operation wait for number j? -/
def waits (o : Oper) (j : Nat) : Bool := o.after.toList.any fun e => decide (e.on = j) && Region.binds .any e
def isStore : Op → Bool
  | .store _ _ _ => true
  | _ => false
def lkN : List (Nat × Nat) → Nat → Option Nat
  | [], _ => none
  | (a, b) :: l, n => if a = n then some b else lkN l n
def okPut (n0 : Nat) (o : Oper) (al : List (Nat × Nat)) (b : Nat) : Bool :=
  decide (b < n0) || (match lkN al b with | some j => waits o j | none => false)
/-- the blocks that an operation may look into: those of the start, and those whose making it waits for -/
def hfR (n0 : Nat) (o : Oper) (al : List (Nat × Nat)) (hp : List Blk) : Nat → Option Blk := fun b => if okPut n0 o al b = true then nthO hp b else none
/-! may a store stand beside the looks ahead of it? -/
def maskOf : List Edge → List Nat → Nat
  | [], _ => 0
  | e :: es, acc => (if Region.binds .any e = true then 2 ^ e.on ||| nth 0 acc e.on else 0) ||| maskOf es acc
def masksA : List Oper → List Nat → List Nat
  | [], acc => acc
  | o :: os, acc => masksA os (acc ++ [maskOf o.after.toList acc])
def reading : Op → Bool
  | .load _ _ => true
  | .call c => (match c.callee with | .builtin _ => false | _ => true)
  | .select _ _ => true
  | _ => false
def lateL (ms : List Nat) (al : List (Nat × Nat)) (b n0 i : Nat) : Nat → List Oper → Bool
  | _, [] => true
  | j, a :: l => (decide (i ≤ j) || !reading a.op || (nth 0 ms i).testBit j || (decide (n0 ≤ b) && (match lkN al b with | some k => !waits a k | none => false))) && lateL ms al b n0 i (j + 1) l
def vcDop (E : Env) (all : Array Oper) (hp0 : List Blk) (o : Oper) (i : Nat) (al : List (Nat × Nat)) (tm : List SV) (hp : List Blk) (K : List (Nat × Nat) → List SV → List Blk → Prop) : Prop :=
  match isStore o.op with
  | true => (match eff E.T o.op (evm tm) (nthO hp) with
    | some (.put b cs) => if (okPut hp0.length o al b && lateL (masksA all.toList []) al b hp0.length i 0 all.toList) = true then
        (forceL cs fun cs => (match nthO hp b with | some ⟨ty, ro, _, tl⟩ => updK hp b ⟨ty, ro, cs, tl⟩ fun hp => putK o.dst uv tm fun tm => K al tm hp | none => Bad o 6 (opEv o tm))) else Bad o 7 (opEv o tm)
    | _ => Bad o 8 (opEv o tm))
  | false => (match eff E.T o.op (evm tm) (hfR hp0.length o al hp) with
    | some (.val v) => v.force fun v => putK o.dst v tm fun tm => K al tm hp
    | some (.new ⟨ty, ro, cs, tl⟩ v) => forceL cs fun cs => snocK hp ⟨ty, ro, cs, tl⟩ fun hp' => lenK hp fun n => (v n).force fun v => putK o.dst v tm fun tm => K ((n, i) :: al) tm hp'
    | some (.put _ _) => Bad o 9 (opEv o tm)
    | none => (match o.op with
      | .call c => (match callee (evm tm) c with
        | some (f, args) => (match E.D f args (hfR hp0.length o al hp) with
          | some (none, v) => v.force fun v => putK o.dst v tm fun tm => K al tm hp
          | some (some p, v) => p ∧ v.force fun v => putK o.dst v tm fun tm => K al tm hp
          | none => Bad o 10 (opEv o tm))
        | none => Bad o 11 (opEv o tm))
      | _ => Bad o 12 (opEv o tm)))
def vcDs (E : Env) (all : Array Oper) (hp0 : List Blk) : List Oper → Nat → List (Nat × Nat) → List SV → List Blk → (List SV → List Blk → Prop) → Prop
  | [], _, _, tm, hp, K => K tm hp
  | o :: os, i, al, tm, hp, K =>
    match o.guard with
    | none => vcDop E all hp0 o i al tm hp fun al tm hp => vcDs E all hp0 os (i + 1) al tm hp K
    | some (j, want) => (match guardS all j with
      | some t => (match nth uv tm t with
        | .c (.val (.bool b)) => (match want with
          | true => bcase b (updK tm t (.c (.val (.bool true))) fun tm => vcDop E all hp0 o i al tm hp fun al tm hp => vcDs E all hp0 os (i + 1) al tm hp K) (updK tm t (.c (.val (.bool false))) fun tm => putK o.dst uv tm fun tm => vcDs E all hp0 os (i + 1) al tm hp K)
          | false => bcase b (updK tm t (.c (.val (.bool true))) fun tm => putK o.dst uv tm fun tm => vcDs E all hp0 os (i + 1) al tm hp K) (updK tm t (.c (.val (.bool false))) fun tm => vcDop E all hp0 o i al tm hp fun al tm hp => vcDs E all hp0 os (i + 1) al tm hp K))
        | _ => Bad o 13 (opEv o tm))
      | none => Bad o 14 (opEv o tm))
/-- how many operations at the end wait for all ahead of them -/
def sufG (ms : List Nat) : Nat → List Oper → Nat
  | 0, _ => 0
  | _, [] => 0
  | i + 1, o :: l => (match o.guard with
    | none => if (nth 0 ms i &&& (2 ^ i - 1)) = 2 ^ i - 1 then sufG ms i l + 1 else 0
    | some _ => 0)
def downE (i : Nat) : List Edge → Bool
  | [] => true
  | e :: l => decide (e.on < i) && downE i l
def downL : Nat → List Oper → Bool
  | _, [] => true
  | i, o :: l => downE i o.after.toList && downL (i + 1) l
def sufN (ops : List Oper) : Nat := match downL 0 ops with | true => sufG (masksA ops []) ops.length ops.reverse | false => 0
/-- a region that draws its order, each order by itself -/
def allL : List Nat → (Nat → Prop) → Prop
  | [], _ => True
  | i :: l, p => p i ∧ allL l p
def rdyE (listed : List Bool) : List Edge → Bool
  | [] => true
  | e :: l => (!Region.binds .any e || nth false listed e.on) && rdyE listed l
def rdyG (listed : List Bool) : Nat → List Oper → List Nat
  | _, [] => []
  | i, o :: l => (match !nth true listed i && rdyE listed o.after.toList with | true => i :: rdyG listed (i + 1) l | false => rdyG listed (i + 1) l)
def setB : List Bool → Nat → List Bool
  | [], _ => []
  | _ :: l, 0 => true :: l
  | x :: l, n + 1 => x :: setB l n
def falses : List Oper → List Bool
  | [] => []
  | _ :: l => false :: falses l
def vcOrd (E : Env) (H : FuncId → List SV → List Blk → (SV → List Blk → Prop) → Prop) (ops : List Oper) : List Oper → List Bool → List SV → List Blk → (List SV → List Blk → Prop) → Prop
  | [], listed, tm, hp, K => (match rdyG listed 0 ops with | [] => K tm hp | _ => False)
  | _ :: fuel, listed, tm, hp, K => (match rdyG listed 0 ops with
    | [] => K tm hp
    | i :: l => allL (i :: l) fun i => (match nthO ops i with
      | some o => (match o.guard with
        | none => vcOp E H o tm hp fun tm hp => vcOrd E H ops fuel (setB listed i) tm hp K
        | some _ => False)
      | none => False))
def vcC (E : Env) (H : FuncId → List SV → List Blk → (SV → List Blk → Prop) → Prop) : Code → List SV → List Blk → (SE → List SV → List Blk → Prop) → Prop
  | .skip, tm, hp, Q => Q .normal tm hp
  | .ret, tm, hp, Q => Q .ret tm hp
  | .exit id, tm, hp, Q => Q (.exit id) tm hp
  | .seq a b, tm, hp, Q => vcC E H a tm hp fun e tm hp => (match e with | .normal => vcC E H b tm hp Q | .exit id => Q (.exit id) tm hp | .ret => Q .ret tm hp)
  | .cond c x y, tm, hp, Q => (match evm tm c with
    | .c (.val (.bool b)) => bcase b (vcC E H x tm hp Q) (vcC E H y tm hp Q)
    | _ => False)
  | .block id c, tm, hp, Q => vcC E H c tm hp fun e tm hp => (match e with | .normal => Q .normal tm hp | .exit i => if i = id then Q .normal tm hp else Q (.exit i) tm hp | .ret => Q .ret tm hp)
  | .loop c, tm, hp, Q => loopQ E.un E.n0 (fun tm hp Q => vcC E H c tm hp Q) tm hp Q
  | .region id ops draw, tm, hp, Q => (match draw with
    | false => vcOps E H ops ops.toList tm hp fun tm hp => Q .normal tm hp
    | true => (match ops.toList.length - sufN ops.toList with
      | m => (match E.ord id with
        | false => vcDs E (ops.toList.take m).toArray hp (ops.toList.take m) 0 [] tm hp fun tm hp => vcOps E H ops (ops.toList.drop m) tm hp fun tm hp => Q .normal tm hp
        | true => vcOrd E H (ops.toList.take m) (ops.toList.take m) (falses (ops.toList.take m)) tm hp fun tm hp => vcOps E H ops (ops.toList.drop m) tm hp fun tm hp => Q .normal tm hp)))
  | _, _, _, _ => False
/-- what a function hands back -/
def resV (T : TypeId → Option TI) (r : ResultVar) (tm : List SV) (hp : List Blk) : Option T1 :=
  match r with
  | .tmp t => (match nth uv tm t with | .c x => some (.c x) | .agg l => some (.agg l) | .tup _ => none)
  | .cell a t => (match nth uv tm a, T t with
    | .c (.ptr b off), some ti => (match nthO hp b with
      | some blk => (match partC ti.agg blk.cs off ti.size with | some (.c x) => some (.c x) | some (.agg l) => some (.agg l) | _ => none)
      | none => none)
    | _, _ => none)
def resL (T : TypeId → Option TI) : List ResultVar → List SV → List Blk → (List T1 → Prop) → Prop
  | [], _, _, K => K []
  | r :: rs, tm, hp, K => (match resV T r tm hp with | some v => v.force fun v => resL T rs tm hp fun l => K (v :: l) | none => False)
def retQ (T : TypeId → Option TI) (rs : List ResultVar) (tm : List SV) (hp : List Blk) (K : SV → List Blk → Prop) : Prop :=
  resL T rs tm hp fun l => (match l with | [v] => K v.sv hp | l => K (.tup l) hp)
def padK : Nat → (List SV → Prop) → Prop
  | 0, K => K []
  | n + 1, K => padK n fun l => K (uv :: l)
def appK : List SV → List SV → (List SV → Prop) → Prop
  | [], l, K => K l
  | x :: m, l, K => appK m l fun l => K (x :: l)
/-- a function's body, from its arguments on -/
def vcF (E : Env) (H : FuncId → List SV → List Blk → (SV → List Blk → Prop) → Prop) (fn : Func) (args : List SV) (hp : List Blk) (K : SV → List Blk → Prop) : Prop :=
  match fn.body with
  | some c => padK (fn.ntmps - args.length) fun pad => appK args pad fun tm => vcC { T := E.T, un := E.un, D := E.D, O := E.O, n0 := hp.length, ord := E.ord } H c tm hp fun e tm hp => (match e with
    | .normal => retQ E.T fn.results.toList tm hp K
    | .ret => retQ E.T fn.results.toList tm hp K
    | .exit _ => False)
  | none => False
/-- functions that are walked in place -/
def inl (E : Env) (F : FuncId → Option Func) : Nat → FuncId → List SV → List Blk → (SV → List Blk → Prop) → Prop
  | 0, _, _, _, _ => False
  | n + 1, f, args, hp, K => (match F f with | some fn => vcF E (inl E F n) fn args hp K | none => False)
end Go.Proofs.YtefgchmbdijjdaaGreatDoor

namespace Go.Proofs.YtefgchmbdijjdaaGreatDoor
open Go.RowKit

section lists
variable {α : Type}
theorem nth_eq (d : α) : ∀ (l : List α) (n : Nat), nth d l n = (l[n]?).getD d
  | [], _ => by simp [nth]
  | _ :: _, 0 => by simp [nth]
  | _ :: l, n + 1 => by simp [nth, nth_eq d l n]
theorem nthO_eq : ∀ (l : List α) (n : Nat), nthO l n = l[n]?
  | [], _ => by simp [nthO]
  | _ :: _, 0 => by simp [nthO]
  | _ :: l, n + 1 => by simp [nthO, nthO_eq l n]
theorem updK_eq : ∀ (l : List α) (n : Nat) (v : α) (K : List α → Prop), updK l n v K = K (l.set n v)
  | [], _, _, _ => by simp [updK]
  | _ :: _, 0, _, _ => by simp [updK]
  | _ :: l, n + 1, v, K => by simp [updK, updK_eq l n v]
theorem snocK_eq : ∀ (l : List α) (v : α) (K : List α → Prop), snocK l v K = K (l ++ [v])
  | [], _, _ => rfl
  | _ :: l, v, K => by simp [snocK, snocK_eq l v]
end lists
theorem lenK_eq {α : Type} : ∀ (l : List α) (K : Nat → Prop), lenK l K = K l.length
  | [], _ => rfl
  | _ :: l, K => by simp [lenK, lenK_eq l]
theorem C.force_eq (x : C) (K : C → Prop) : x.force K = K x := by cases x <;> rfl
theorem forceL_eq : ∀ (l : List C) (K : List C → Prop), forceL l K = K l
  | [], _ => rfl
  | x :: l, K => by simp only [forceL, C.force_eq, forceL_eq l]
theorem T1.force_eq (x : T1) (K : T1 → Prop) : x.force K = K x := by cases x <;> simp only [T1.force, C.force_eq, forceL_eq]
theorem forceT_eq : ∀ (l : List T1) (K : List T1 → Prop), forceT l K = K l
  | [], _ => rfl
  | x :: l, K => by simp only [forceT, T1.force_eq, forceT_eq l]
theorem SV.force_eq (x : SV) (K : SV → Prop) : x.force K = K x := by cases x <;> simp only [SV.force, C.force_eq, forceL_eq, forceT_eq]
theorem padK_eq : ∀ (n : Nat) (K : List SV → Prop), padK n K = K (List.replicate n uv)
  | 0, _ => rfl
  | n + 1, K => by simp only [padK, padK_eq n, List.replicate_succ]
theorem appK_eq : ∀ (l m : List SV) (K : List SV → Prop), appK l m K = K (l ++ m)
  | [], _, _ => rfl
  | _ :: l, m, K => by simp only [appK, appK_eq l m, List.cons_append]
theorem putK_eq (d : Option Tmp) (v : SV) (tm : List SV) (K : List SV → Prop) : putK d v tm K = K (match d with | some t => tm.set t v | none => tm) := by
  cases d <;> simp [putK, updK_eq]
theorem bcase_of {b : Bool} {X Y : Prop} (h : bcase b X Y) : (b = true → X) ∧ (b = false → Y) := by
  cases b
  · exact ⟨(fun h => nomatch h), (fun _ => h)⟩
  · exact ⟨(fun _ => h), (fun h => nomatch h)⟩
theorem bcase_intro {b : Bool} {X Y : Prop} (hx : b = true → X) (hy : b = false → Y) : bcase b X Y := by
  cases b
  · exact hy rfl
  · exact hx rfl

section cells
variable (ρ : Rho)
theorem C.cells_length (x : C) : (x.cells ρ).length = x.n := by cases x <;> rfl
theorem sizeC_eq : ∀ l : List C, sizeC l = (cellsL ρ l).length
  | [] => rfl
  | x :: l => by simp [sizeC, cellsL, C.cells_length ρ x, sizeC_eq l]
theorem cellsL_cons (x : C) (l : List C) : cellsL ρ (x :: l) = x.cells ρ ++ cellsL ρ l := rfl
theorem cellsL_append (a b : List C) : cellsL ρ (a ++ b) = cellsL ρ a ++ cellsL ρ b := by simp [cellsL]
theorem sizeC_append (a b : List C) : sizeC (a ++ b) = sizeC a + sizeC b := by
  rw [sizeC_eq (fun _ => (0, 0)), sizeC_eq (fun _ => (0, 0)), sizeC_eq (fun _ => (0, 0)), cellsL_append, List.length_append]
theorem cells_one {x : C} (h : x.n = 1) : x.cells ρ = [x.den ρ] := by cases x <;> simp_all [C.n, C.cells, C.den]
theorem one_of {x : C} (h : x.one = true) : ∀ v ∈ x.cells ρ, v.oneCell' = true := by
  cases x <;> intro v hv <;> simp [C.cells, adr] at hv <;> (try (rcases hv with rfl | rfl)) <;> (try subst hv) <;> first | rfl | exact h
theorem allOne_of : ∀ {l : List C}, allOne l = true → ∀ v ∈ cellsL ρ l, v.oneCell' = true
  | [], _, v, hv => by simp [cellsL] at hv
  | x :: l, h, v, hv => by
    simp only [allOne, Bool.and_eq_true] at h
    rw [cellsL_cons, List.mem_append] at hv
    rcases hv with hv | hv
    · exact one_of ρ h.1 v hv
    · exact allOne_of h.2 v hv
end cells
theorem takeC_spec : ∀ (n : Nat) (l a b : List C), takeC n l = some (a, b) → l = a ++ b ∧ sizeC a = n
  | 0, l, a, b, h => by cases l <;> (simp [takeC] at h; obtain ⟨rfl, rfl⟩ := h; exact ⟨rfl, rfl⟩)
  | n + 1, [], a, b, h => by simp [takeC] at h
  | n + 1, x :: l, a, b, h => by
    unfold takeC at h
    split at h
    · rename_i hx
      split at h
      · rename_i a' b' hr
        cases h
        obtain ⟨rfl, hs⟩ := takeC_spec _ l _ _ hr
        exact ⟨rfl, by simp [sizeC, hs]; omega⟩
      · cases h
    · cases h
theorem subC_spec {cs : List C} {off n : Nat} {m : List C} (h : subC cs off n = some m) : ∃ a b, cs = a ++ (m ++ b) ∧ sizeC a = off ∧ sizeC m = n := by
  unfold subC at h
  split at h
  · rename_i a r h1
    split at h
    · rename_i m' b h2
      cases h
      obtain ⟨rfl, e1⟩ := takeC_spec _ _ _ _ h1
      obtain ⟨rfl, e2⟩ := takeC_spec _ _ _ _ h2
      exact ⟨_, _, rfl, e1, e2⟩
    · cases h
  · cases h
theorem spliceC_spec {cs : List C} {off : Nat} {new cs' : List C} (h : spliceC cs off new = some cs') : ∃ a m b, cs = a ++ (m ++ b) ∧ cs' = a ++ (new ++ b) ∧ sizeC a = off ∧ sizeC m = sizeC new := by
  unfold spliceC at h
  split at h
  · rename_i a r h1
    split at h
    · rename_i m b h2
      cases h
      obtain ⟨rfl, e1⟩ := takeC_spec _ _ _ _ h1
      obtain ⟨rfl, e2⟩ := takeC_spec _ _ _ _ h2
      exact ⟨_, _, _, rfl, rfl, e1, e2⟩
    · cases h
  · cases h
/-- cells written over cells -/
theorem wrapV_spec {a : Bool} {m : List C} {v : SV} (h : wrapV a m = some v) : (a = true ∧ v = .agg m) ∨ (a = false ∧ ∃ x, m = [x] ∧ x.n = 1 ∧ v = .c x) := by
  unfold wrapV at h
  split at h
  · cases h; exact .inl ⟨rfl, rfl⟩
  · split at h
    · rename_i hx; cases h; exact .inr ⟨rfl, _, rfl, hx, rfl⟩
    · cases h
  · cases h
theorem foldl_splice : ∀ (new m a b : List Value) (off : Nat), a.length = off → m.length = new.length →
    (new.toArray.zipIdx.foldl (fun cs (c, j) => cs.setIfInBounds (off + j) c) (a ++ (m ++ b)).toArray) = (a ++ (new ++ b)).toArray := by
  have key : ∀ (new m a b : List Value) (off k : Nat), a.length = off + k → m.length = new.length →
      ((new.zipIdx k).foldl (fun (cs : Array Value) (p : Value × Nat) => cs.setIfInBounds (off + p.2) p.1) (a ++ (m ++ b)).toArray) = (a ++ (new ++ b)).toArray := by
    intro new
    induction new with
    | nil => intro m a b off k ha hm; have : m = [] := List.eq_nil_of_length_eq_zero hm; subst this; rfl
    | cons x new ih =>
      intro m a b off k ha hm
      cases m with
      | nil => simp at hm
      | cons y m =>
        have hset : (a ++ (y :: m ++ b)).toArray.setIfInBounds (off + k) x = ((a ++ [x]) ++ (m ++ b)).toArray := by
          rw [List.setIfInBounds_toArray, ← ha]
          simp
        rw [List.zipIdx_cons, List.foldl_cons]
        show List.foldl _ ((a ++ (y :: m ++ b)).toArray.setIfInBounds (off + k) x) _ = _
        rw [hset, ih m (a ++ [x]) b off (k + 1) (by simp; omega) (by simpa using hm)]
        simp
  intro new m a b off ha hm
  have := key new m a b off 0 (by omega) hm
  rw [← Array.foldl_toList]
  simpa using this
def partV (ρ : Rho) (p : Nat × SV) : Nat × Value := (p.1, p.2.den ρ)
theorem ch_cells {v : SV} {l : List C} (h : v.ch = some l) (ρ : Rho) : (v.den ρ).cells = (cellsL ρ l).toArray := by
  cases v with
  | c x =>
    simp only [SV.ch] at h
    split at h
    · rename_i h1 h2
      cases h
      have e := cells_one ρ h1
      have o := one_of ρ h2 (x.den ρ) (by rw [e]; simp)
      simp only [SV.den, cellsL, List.flatMap_cons, List.flatMap_nil, e, List.append_nil]
      cases hx : x.den ρ <;> simp_all [Value.cells, Value.oneCell']
    · cases h
  | agg l' => cases h; rfl
  | tup _ => cases h
theorem fillC_spec (place : Nat → Option (Nat × Nat)) (ρ : Rho) : ∀ (parts : List (Nat × SV)) (cs cs' : List C), fillC place cs parts = some cs' →
    Instr.fill place (cellsL ρ cs).toArray (parts.map (partV ρ)) = some (cellsL ρ cs').toArray
  | [], cs, cs', h => by simp [fillC] at h; subst h; rfl
  | (i, v) :: rest, cs, cs', h => by
    unfold fillC at h
    split at h
    · rename_i off n l hp hl
      split at h
      · rename_i hs
        split at h
        · rename_i cs1 h1
          obtain ⟨a, m, b, rfl, rfl, e1, e2⟩ := spliceC_spec h1
          have ih := fillC_spec place ρ rest _ _ h
          have hc := ch_cells hl ρ
          have hn : (cellsL ρ l).length = n := by rw [← sizeC_eq]; exact hs
          simp only [List.map_cons, partV, Instr.fill, hp, hc]
          rw [if_neg]
          · rw [cellsL_append, cellsL_append] at ih ⊢
            rw [foldl_splice _ _ _ _ off (by rw [← sizeC_eq]; exact e1) (by rw [← sizeC_eq, ← sizeC_eq]; exact e2)]
            exact ih
          · rw [cellsL_append, cellsL_append]
            simp only [List.size_toArray, List.length_append, hn]
            have q1 : (cellsL ρ a).length = off := by rw [← sizeC_eq]; exact e1
            have q2 : (cellsL ρ m).length = n := by rw [← sizeC_eq, e2]; exact hs
            simp
            omega
        · cases h
      · cases h
    · cases h

/-- how many bytes a cell takes at most -/
def facZ : List C → Nat
  | [.val (.int .u8 _)] => 1
  | _ => 24
theorem facZ_le (z : List C) : facZ z ≤ 24 := by unfold facZ; split <;> decide
/-- the table tells the truth -/
def ShOk (P : Program) (t : TypeId) : Sh → Prop
  | .other => True
  | .struct fs => ∃ fd, P.underlying t = some (.struct fd) ∧ fd.toList.map (fun f => (f.offset, P.cellsOf f.type, rowO P f.type)) = fs.map (fun x => (x.1, x.2.1, some x.2.2)) ∧ ∀ x ∈ fs, x.2.2 = false → x.2.1 = 1
  | .array n esz a => ∃ e, P.underlying t = some (.array n e) ∧ P.cellsOf e = esz ∧ rowO P e = some a ∧ (a = false → esz = 1)
  | .slice e esz ez => P.underlying t = some (.slice e) ∧ P.cellsOf e = esz ∧ (P.info? e).isSome = true ∧ 0 < esz ∧ ((P.info? e).map fun i => decide (i.bytes ≤ facZ ez * esz)) = some true ∧ ∀ ρ, ((P.info? e).bind (·.zero)).map (·.cells) = some (cellsL ρ ez).toArray ∧ (cellsL ρ ez).length = esz
  | .int k => P.underlying t = some (.int k)
  | .bool => P.underlying t = some .bool
  | .string => P.underlying t = some .string
structure TIOk (P : Program) (t : TypeId) (ti : TI) : Prop where
  size : P.cellsOf t = ti.size
  row : rowO P t = some ti.agg
  zero : ∀ ρ, ((P.info? t).bind (·.zero)).map (·.cells) = some (cellsL ρ ti.zero).toArray
  sh : ShOk P t ti.sh
  eq : ∀ ks, ti.eq = some ks → kindsOf P 9 t = some ks ∧ P.eqGuardType P.depth t = false ∧ ti.agg = true
def TOk (P : Program) (T : TypeId → Option TI) : Prop := ∀ t ti, T t = some ti → TIOk P t ti

/-- a block holds what is said of it -/
def Holds (ρ : Rho) (blk : Blk) (i : Nat) (w : World) : Prop :=
  w.rangeAt (ρ i).1 (ρ i).2 (cellsL ρ blk.cs) ∧ (blk.ro = false → (ρ i).2 = 0 ∧ ∃ t : List Value, t.length = blk.tl ∧ w.heap[(ρ i).1]? = some (.cells (cellsL ρ blk.cs ++ t).toArray blk.ty (0, 0)))
theorem range_sub {w : World} {g o : Nat} {a m b : List Value} (h : w.rangeAt g o (a ++ (m ++ b))) : w.rangeAt g (o + a.length) m := fun j v hv => by
  have hj := (List.getElem?_eq_some_iff.1 hv).1
  have := h (a.length + j) v (by rw [List.getElem?_append_right (by omega), Nat.add_sub_cancel_left, List.getElem?_append_left hj]; exact hv)
  rw [← Nat.add_assoc] at this
  exact this

section
variable {P : Program}
theorem run_new_sx (w : World) (t : TypeId) (cs : Array Value) : (newRow t cs).run P w = .ok ⟨w.heap.size, 0, none⟩ (w.alloc (.cells cs t)) := rfl
theorem run_box_sx {t : TypeId} {v : SV} {l : List C} (hl : v.ch = some l) (ρ : Rho) (w : World) :
    (Instr.box t (v.den ρ)).run P w = .ok (.pointer (some ⟨w.heap.size, 0, none⟩)) (w.alloc (.cells (cellsL ρ l).toArray t)) := by
  simp only [Instr.box, newVar, ch_cells hl, run_new_sx, Sem.run_bind, Result.andThen_ok, Sem.run_pure]
theorem sx_setCells_block {W : World} {g : Nat} {t : TypeId} : ∀ (vs : List Value) (o : Nat) (pre mid rest : List Value), pre.length = o → mid.length = vs.length →
    W.heap[g]? = some (.cells (pre ++ (mid ++ rest)).toArray t (0, 0)) → (W.setCells g o vs).heap[g]? = some (.cells (pre ++ (vs ++ rest)).toArray t (0, 0)) := by
  intro vs
  induction vs generalizing W with
  | nil => intro o pre mid rest _ hr h; have : mid = [] := List.eq_nil_of_length_eq_zero hr; subst this; exact h
  | cons v vs ih =>
    intro o pre mid rest hp hr h
    cases mid with
    | nil => simp at hr
    | cons r mid =>
      have h1 := heap_setCell_same W g o _ t v h
      have h2 : (pre ++ (r :: mid ++ rest)).toArray.setIfInBounds o v = (pre ++ [v] ++ (mid ++ rest)).toArray := by
        subst hp
        simp
      rw [h2] at h1
      have := ih (W := W.setCell ⟨g, o, none⟩ v) (o + 1) (pre ++ [v]) mid rest (by simp [hp]) (by simpa using hr) h1
      rw [World.setCells]
      simpa using this
theorem sx_setCells_other {g k : Nat} (hk : k ≠ g) : ∀ (vs : List Value) (o : Nat) (W : World), (W.setCells g o vs).heap[k]? = W.heap[k]?
  | [], _, _ => rfl
  | v :: vs, o, W => by rw [World.setCells, sx_setCells_other hk vs, heap_setCell_other _ _ _ _ hk]
theorem sx_setCells_size {g : Nat} : ∀ (vs : List Value) (o : Nat) (W : World), (W.setCells g o vs).heap.size = W.heap.size
  | [], _, _ => rfl
  | v :: vs, o, W => by rw [World.setCells, sx_setCells_size vs]; simp [World.setCell]
theorem sx_setCells_below {B g : Nat} {w : World} (hg : B ≤ g) : ∀ (vs : List Value) (o : Nat) {W : World}, Below B w W → Below B w (W.setCells g o vs)
  | [], _, _, h => h
  | v :: vs, o, _, h => by rw [World.setCells]; exact sx_setCells_below hg vs (o + 1) (h.setCell (p := ⟨g, o, none⟩) hg v)
theorem cellsL_split (ρ : Rho) : ∀ l : List C, cellsL ρ (splitC l) = cellsL ρ l
  | [] => rfl
  | x :: l => by
    have ih := cellsL_split ρ l
    cases x <;> simp [splitC, cellsL, C.cells] at ih ⊢ <;> exact ih
theorem partC_spec (ρ : Rho) {a : Bool} {cs : List C} {off n : Nat} {v : SV} (h : partC a cs off n = some v) : ∃ cs' m, cellsL ρ cs' = cellsL ρ cs ∧ subC cs' off n = some m ∧ wrapV a m = some v := by
  unfold partC at h
  split at h
  · rename_i m hm; exact ⟨cs, m, rfl, hm, h⟩
  · split at h
    · rename_i m hm; exact ⟨splitC cs, m, cellsL_split ρ cs, hm, h⟩
    · cases h
theorem run_part_sx {e : TypeId} {a : Bool} (hr : rowO P e = some a) (h1 : a = false → P.cellsOf e = 1) {ρ : Rho} {cs : List C} {off : Nat} {v : SV} (hv : partC a cs off (P.cellsOf e) = some v) (w : World) :
    (part e (cellsL ρ cs).toArray off).run P w = .ok (v.den ρ) w := by
  obtain ⟨cs', m, hcc, hm, hv⟩ := partC_spec ρ hv
  rw [← hcc]
  · obtain ⟨x, r, e1, h2, h3⟩ := subC_spec hm
    have l1 : (cellsL ρ x).length = off := by rw [← sizeC_eq]; exact h2
    have l2 : (cellsL ρ m).length = P.cellsOf e := by rw [← sizeC_eq]; exact h3
    have hcs : cellsL ρ cs' = cellsL ρ x ++ (cellsL ρ m ++ cellsL ρ r) := by rw [e1, cellsL_append, cellsL_append]
    rw [run_partO hr w (cellsL ρ cs') off (by rw [hcs]; simp; omega) h1]
    have : List.take (P.cellsOf e) (List.drop off (cellsL ρ cs')) = cellsL ρ m := by
      rw [hcs, ← l1, List.drop_left, ← l2, List.take_left]
    rw [this]
    rcases wrapV_spec hv with ⟨rfl, rfl⟩ | ⟨rfl, y, rfl, hy, rfl⟩
    · rfl
    · simp [mkV, cellsL, cells_one ρ hy, SV.den]
end
section
variable {P : Program} {T : TypeId → Option TI} (hT : TOk P T)
include hT
theorem info_ok {t : TypeId} {ti : TI} (h : T t = some ti) : ∃ i, P.info? t = some i := info_of_rowO (hT t ti h).row
theorem under_ok {t : TypeId} {ti : TI} (h : T t = some ti) : ∃ d, P.underlying t = some d ∧ d.isRow = ti.agg := by
  have := (hT t ti h).row
  unfold rowO at this
  cases hu : P.underlying t with
  | none => simp [hu] at this
  | some d => exact ⟨d, rfl, by simpa [hu] using this⟩
theorem size_ok {t : TypeId} {ti : TI} (h : T t = some ti) : (P.info? t).map (·.size) = some ti.size := by
  obtain ⟨i, hi⟩ := info_ok hT h
  have := (hT t ti h).size
  unfold Program.cellsOf at this
  rw [hi] at this ⊢
  simpa using this
theorem run_load_sx {t : TypeId} {ti : TI} (h : T t = some ti) {ρ : Rho} {b off : Nat} {blk : Blk} {w : World} (hb : Holds ρ blk b w) {v : SV} (hv : partC ti.agg blk.cs off ti.size = some v) :
    (Instr.loadAt t (adr ρ b off)).run P w = .ok (v.den ρ) w := by
  obtain ⟨cs', m, hcc, hm, hv⟩ := partC_spec ρ hv
  · obtain ⟨a, r, e, h1, h2⟩ := subC_spec hm
    have hr := hb.1
    rw [← hcc, e, cellsL_append, cellsL_append] at hr
    have hr := range_sub hr
    rw [← sizeC_eq, h1] at hr
    obtain ⟨d, hd, hrow⟩ := under_ok hT h
    rcases wrapV_spec hv with ⟨hg, rfl⟩ | ⟨hg, x, rfl, hx, rfl⟩
    · rw [hg] at hrow
      exact run_loadAt_mid w _ _ t (cellsL ρ m) d hr hd hrow (by rw [size_ok hT h, ← h2, sizeC_eq ρ])
    · have hc := hr 0 (x.den ρ) (by simp [cellsL, cells_one ρ hx])
      have hagg : (isAgg t).run P w = .ok false w := run_isAggO (by rw [← hg]; exact (hT t ti h).row) w
      simp only [Nat.add_zero] at hc
      simp [Instr.loadAt, adr, Instr.sureAddr, loadVar, hagg, hc, SV.den]
theorem run_alloc_sx {t : TypeId} {ti : TI} (h : T t = some ti) (ρ : Rho) (w : World) (u : Value) :
    (Instr.alloc t true u).run P w = .ok (.pointer (some ⟨w.heap.size, 0, none⟩)) (w.alloc (.cells (cellsL ρ ti.zero).toArray t)) := by
  have hz := (hT t ti h).zero ρ
  obtain ⟨i, hi⟩ := info_ok hT h
  cases hz0 : i.zero with
  | none => simp [hi, hz0] at hz
  | some z =>
    simp only [hi, Option.bind_some, hz0, Option.map_some, Option.some.injEq] at hz
    simp only [Instr.alloc, Sem.run_bind, zeroValue, run_typeInfo w hi, Result.andThen_ok, hz0, Sem.run_pure]
    simp only [newVar, hz, run_new_sx, Result.andThen_ok]
theorem run_store_sx0 {t : TypeId} {ti : TI} (h : T t = some ti) {ρ : Rho} {b off : Nat} {blk : Blk} {w : World} (hb : Holds ρ blk b w) (hro : blk.ro = false) {v : SV} {l cs' : List C} (hl : v.ch = some l)
    (hs : sizeC l = ti.size) (h1 : allOne l = true) (hc : spliceC blk.cs off l = some cs') :
    (Instr.storeAt t (adr ρ b off) (v.den ρ)).run P w = .ok () (w.setCells (ρ b).1 off (cellsL ρ l)) ∧ ∃ t : List Value, t.length = blk.tl ∧ (w.setCells (ρ b).1 off (cellsL ρ l)).heap[(ρ b).1]? = some (.cells (cellsL ρ cs' ++ t).toArray blk.ty (0, 0)) := by
  obtain ⟨a, m, r, e1, e2, e3, e4⟩ := spliceC_spec hc
  obtain ⟨h0, tl, htl, hk⟩ := hb.2 hro
  rw [e1, cellsL_append, cellsL_append, List.append_assoc, List.append_assoc] at hk
  have la : (cellsL ρ a).length = off := by rw [← sizeC_eq]; exact e3
  have lm : (cellsL ρ m).length = (cellsL ρ l).length := by rw [← sizeC_eq, ← sizeC_eq]; exact e4
  have hblk := sx_setCells_block (cellsL ρ l) off _ _ _ la lm hk
  refine ⟨?_, tl, htl, by rw [e2, cellsL_append, cellsL_append, List.append_assoc, List.append_assoc]; exact hblk⟩
  have hcells := ch_cells hl ρ
  have hone := allOne_of ρ h1
  have hthere : ∀ j, j < (cellsL ρ l).length → (w.cell? ⟨(ρ b).1, off + j, none⟩).isSome = true ∧ w.frozen? ⟨(ρ b).1, off + j, none⟩ = false := fun j hj => by
    refine ⟨?_, frozen_of_row _ _ _ _ _ hk⟩
    rw [cell_of_row _ _ _ _ _ _ hk]
    have : off + j < (cellsL ρ a ++ (cellsL ρ m ++ (cellsL ρ r ++ tl))).toArray.size := by simp; omega
    rw [Array.getElem?_eq_getElem this]
    rfl
  have hst := run_storeCells_cells (P := P) (ρ b).1 off (cellsL ρ l) 0 w (fun j hj => by simpa using (hthere j hj).1) (fun j hj => by simpa using (hthere j hj).2) hone
  obtain ⟨i, hi⟩ := info_ok hT h
  have hsz := size_ok hT h
  simp only [hi, Option.map_some, Option.some.injEq] at hsz
  simp only [Nat.add_zero] at hst
  have e5 : (v.den ρ).cells.size = i.size := by rw [hcells, hsz, ← hs, sizeC_eq ρ]; simp
  have e6 : (v.den ρ).cells.toList = cellsL ρ l := by rw [hcells]
  simp only [Instr.storeAt, adr, h0, Nat.zero_add, Instr.sureAddr, Sem.run_bind, Sem.run_pure, Result.andThen_ok, storeVar, sizeOf, run_typeInfo w hi]
  rw [if_neg (by rw [e5]; simp), e6]
  exact hst
theorem run_store_sx {t : TypeId} {ti : TI} (h : T t = some ti) {ρ : Rho} {b off : Nat} {blk : Blk} {w : World} (hb : Holds ρ blk b w) (hro : blk.ro = false) {v : SV} {l cs' : List C} (hl : v.ch = some l)
    (hs : sizeC l = ti.size) (h1 : allOne l = true) (hc : putC blk.cs off l = some cs') :
    (Instr.storeAt t (adr ρ b off) (v.den ρ)).run P w = .ok () (w.setCells (ρ b).1 off (cellsL ρ l)) ∧ ∃ t : List Value, t.length = blk.tl ∧ (w.setCells (ρ b).1 off (cellsL ρ l)).heap[(ρ b).1]? = some (.cells (cellsL ρ cs' ++ t).toArray blk.ty (0, 0)) := by
  unfold putC at hc
  split at hc
  · rename_i hc'; cases hc; exact run_store_sx0 hT h hb hro hl hs h1 hc'
  · have hb' : Holds ρ { blk with cs := splitC blk.cs } b w := by
      unfold Holds at hb ⊢
      simpa only [cellsL_split] using hb
    exact run_store_sx0 hT h hb' hro hl hs h1 hc
end
theorem cellsL_repC (ρ : Rho) (l : List C) : ∀ n i, i < n * (cellsL ρ l).length → (cellsL ρ (repC n l))[i]? = (cellsL ρ l)[i % (cellsL ρ l).length]?
  | 0, i, h => by omega
  | n + 1, i, h => by
    rw [repC, cellsL_append]
    by_cases hi : i < (cellsL ρ l).length
    · rw [List.getElem?_append_left hi, Nat.mod_eq_of_lt hi]
    · rw [List.getElem?_append_right (by omega), cellsL_repC ρ l n _ (by rw [Nat.succ_mul] at h; omega), Nat.mod_eq_sub_mod (by omega : i ≥ _)]
theorem cellsL_repC_length (ρ : Rho) (l : List C) : ∀ n, (cellsL ρ (repC n l)).length = n * (cellsL ρ l).length
  | 0 => by simp [repC, cellsL]
  | n + 1 => by rw [repC, cellsL_append, List.length_append, cellsL_repC_length ρ l n, Nat.succ_mul]; omega
theorem run_buildSlice_sx {P : Program} {t e : TypeId} {esz : Nat} {ez : List C} (h : ShOk P t (.slice e esz ez)) {len : Nat} {parts : Array (Nat × Value)} {ps : List (Nat × SV)} {cs : List C} {ρ : Rho} (hp : parts.toList = ps.map (partV ρ))
    (hf : fillC (fun i => some (i * esz, esz)) (repC len ez) ps = some cs) (hl : len * esz ≤ 16777216) (w : World) :
    (Instr.buildSlice t len parts).run P w = .ok (.slice (some ⟨w.heap.size, 0, none⟩) len len) (w.alloc (.cells (cellsL ρ cs).toArray e)) := by
  obtain ⟨hu, hc, hi, h0, -, hz⟩ := h
  obtain ⟨i, hi⟩ := Option.isSome_iff_exists.1 hi
  have hs := run_sizeOf w hi
  obtain ⟨hz, hzl⟩ := hz ρ
  cases hz0 : i.zero with
  | none => simp [hi, hz0] at hz
  | some z =>
    simp only [hi, Option.bind_some, hz0, Option.map_some, Option.some.injEq] at hz
    have hzv : (zeroValue e).run P w = .ok z w := by simp [zeroValue, run_typeInfo w hi, hz0]
    have hfill := fillC_spec _ ρ _ _ _ hf
    rw [← hp] at hfill
    have hrep : (cellsL ρ (repC len ez)).toArray = (Array.range (len * esz)).map (fun x => z.cells[x % z.cells.size]!) := by
      apply Array.ext_getElem?
      intro j
      rw [List.getElem?_toArray, Array.getElem?_map, Array.getElem?_range]
      have hzs : z.cells.size = esz := by rw [hz]; simpa using hzl
      by_cases hj : j < len * esz
      · rw [if_pos hj, cellsL_repC ρ ez len j (by rw [hzl]; exact hj), hzl]
        have hm : j % esz < (cellsL ρ ez).length := by rw [hzl]; exact Nat.mod_lt _ h0
        rw [List.getElem?_eq_getElem hm]
        simp only [Option.map_some, hzs]
        have : j % esz < z.cells.size := by rw [hzs]; exact Nat.mod_lt _ h0
        rw [getElem!_pos z.cells (j % esz) this]
        simp only [hz, List.getElem_toArray]
      · rw [if_neg hj, List.getElem?_eq_none (by rw [cellsL_repC_length, hzl]; omega)]; rfl
    have h24 : (2:Nat)^24 = 16777216 := by decide
    have hle : ¬ len * esz > 2 ^ 24 := by omega
    unfold Instr.buildSlice
    simp only [Sem.run_bind, run_underlying hu w, Result.andThen_ok, hs, hc]
    rw [if_neg hle]
    rw [hrep] at hfill
    by_cases h00 : len * esz = 0
    · have : len = 0 := by rcases Nat.mul_eq_zero.1 h00 with h | h; exact h; omega
      subst this
      simp only [Nat.zero_mul, if_true, Sem.run_bind, Sem.run_pure, Result.andThen_ok] at hfill ⊢
      have e0 : (Array.range 0).map (fun x => (#[] : Array Value)[x % (#[] : Array Value).size]!) = (Array.range 0).map (fun x => z.cells[x % z.cells.size]!) := by simp
      rw [e0, hfill]
      simp only [Sem.run_bind, run_new_sx, Result.andThen_ok, Sem.run_pure]
    · rw [if_neg h00]
      simp only [Sem.run_bind, hzv, Result.andThen_ok, Sem.run_pure, hfill, run_new_sx]
end Go.Proofs.YtefgchmbdijjdaaGreatDoor

namespace Go.Proofs.YtefgchmbdijjdaaGreatDoor
open Go.RowKit

theorem wid_cells_iff (ρ : Rho) {j k : Nat} {y z : Int} (hy : Sm j y) (hz : Sm k z) : (C.wid j y hy).cells ρ = (C.wid k z hz).cells ρ ↔ y = z := by
  simp only [C.cells, List.cons.injEq, and_true, Value.bool.injEq, Value.string.injEq]
  have := Can.inj (b := decide (y < 0)) (s := ⟨(mag y.natAbs).toArray⟩) (b' := decide (z < 0)) (s' := ⟨(mag z.natAbs).toArray⟩) (z := y) (z' := z) ⟨rfl, rfl⟩ ⟨rfl, rfl⟩
  exact this
theorem andO_spec {a : Bool} {l : List C} {r : Option Bool} {b : Bool} (h : andO a l r = some b) : (∃ c, r = some c ∧ l ≠ [] ∧ b = (a && c)) ∨ (l = [] ∧ (∃ c, r = some c) ∧ b = a) := by
  unfold andO at h
  split at h
  · cases h; exact .inr ⟨rfl, ⟨_, rfl⟩, rfl⟩
  · rename_i l' b' hl
    cases h
    exact .inl ⟨_, rfl, fun hn => hl hn, rfl⟩
  · cases h
/-- one step of a comparison -/
theorem eq_step {a : Bool} {l m : List C} {ks : List K} {kx : List K} {x y : List Value} {r : Bool} (ρ : Rho) (ha : a = true ↔ x = y) (hx : Fits kx x) (hy : Fits kx y)
    (ih : ∀ r, eqL ks l m = some r → Fits ks (cellsL ρ l) ∧ Fits ks (cellsL ρ m) ∧ (r = true ↔ cellsL ρ l = cellsL ρ m)) (h : andO a l (eqL ks l m) = some r) :
    Fits (kx ++ ks) (x ++ cellsL ρ l) ∧ Fits (kx ++ ks) (y ++ cellsL ρ m) ∧ (r = true ↔ x ++ cellsL ρ l = y ++ cellsL ρ m) := by
  have hlen : x.length = y.length := by rw [hx.length, hy.length]
  rcases andO_spec h with ⟨c, hc, -, rfl⟩ | ⟨rfl, ⟨c, hc⟩, rfl⟩
  · obtain ⟨f1, f2, hiff⟩ := ih c hc
    refine ⟨hx.append f1, hy.append f2, ?_⟩
    rw [Bool.and_eq_true, ha, hiff]
    constructor
    · rintro ⟨e1, e2⟩; rw [e1, e2]
    · intro e; exact List.append_inj e hlen
  · obtain ⟨f1, f2, hiff⟩ := ih c hc
    refine ⟨hx.append f1, hy.append f2, ?_⟩
    have hm : cellsL ρ m = [] := by
      have := f1.length
      rw [← f2.length] at this
      exact List.eq_nil_of_length_eq_zero this.symm
    rw [ha, hm]
    simp [cellsL]
theorem eqL_spec (ρ : Rho) : ∀ (ks : List K) (l m : List C) (r : Bool), eqL ks l m = some r → Fits ks (cellsL ρ l) ∧ Fits ks (cellsL ρ m) ∧ (r = true ↔ cellsL ρ l = cellsL ρ m) := by
  intro ks l m
  induction ks, l, m using eqL.induct with
  | case1 => intro r h; simp [eqL] at h; subst h; exact ⟨trivial, trivial, by simp⟩
  | case2 ks j y hy l k z hz m ih =>
    intro r h
    rw [eqL] at h
    exact eq_step (kx := [.b, .s]) (x := (C.wid j y hy).cells ρ) (y := (C.wid k z hz).cells ρ) ρ (by rw [wid_cells_iff]; simp) ⟨trivial, trivial, trivial⟩ ⟨trivial, trivial, trivial⟩ ih h
  | case3 ks j y hy l b s m ih =>
    intro r h
    rw [eqL] at h
    exact eq_step (kx := [.b, .s]) (x := (C.wid j y hy).cells ρ) (y := [.bool b, .string s]) ρ (by simp [C.cells]) ⟨trivial, trivial, trivial⟩ ⟨trivial, trivial, trivial⟩ ih h
  | case4 ks b s l k z hz m ih =>
    intro r h
    rw [eqL] at h
    exact eq_step (kx := [.b, .s]) (x := [.bool b, .string s]) (y := (C.wid k z hz).cells ρ) ρ (by simp [C.cells]) ⟨trivial, trivial, trivial⟩ ⟨trivial, trivial, trivial⟩ ih h
  | case5 ks a ha l b hb m ih =>
    intro r h
    rw [eqL] at h
    exact eq_step (kx := [.i .i64]) (x := [.int .i64 a]) (y := [.int .i64 b]) ρ (by simp) ⟨rfl, trivial⟩ ⟨rfl, trivial⟩ ih h
  | case6 ks k i a l j b m hc ih =>
    intro r h
    rw [eqL, if_pos hc] at h
    obtain ⟨rfl, rfl⟩ := hc
    exact eq_step (kx := [.i _]) (x := [.int _ a]) (y := [.int _ b]) ρ (by simp) ⟨rfl, trivial⟩ ⟨rfl, trivial⟩ ih h
  | case7 ks k i a l j b m hc =>
    intro r h
    rw [eqL, if_neg hc] at h
    cases h
  | case8 ks a l b m ih =>
    intro r h
    rw [eqL] at h
    · exact eq_step (kx := [.b]) (x := [.bool a]) (y := [.bool b]) ρ (by simp) ⟨trivial, trivial⟩ ⟨trivial, trivial⟩ ih h
    all_goals assumption
  | case9 ks a l b m ih =>
    intro r h
    rw [eqL] at h
    exact eq_step (kx := [.s]) (x := [.string a]) (y := [.string b]) ρ (by simp) ⟨trivial, trivial⟩ ⟨trivial, trivial⟩ ih h
  | case10 ks l m h1 h2 h3 h4 h5 h6 h7 h8 =>
    intro r h
    rw [eqL] at h
    · cases h
    all_goals assumption

def evr (ev : Operand → SV) (ρ : Rho) : Operand → Value := fun x => (ev x).den ρ
section
variable {P : Program} {T : TypeId → Option TI} (hT : TOk P T)
include hT
theorem sh_ok {t : TypeId} {ti : TI} (h : T t = some ti) : ShOk P t ti.sh := (hT t ti h).sh
omit hT in
theorem den_agg (ρ : Rho) (l : List C) : (SV.agg l).den ρ = .agg (cellsL ρ l).toArray := rfl
theorem run_eql_sx {t : TypeId} {ti : TI} (h : T t = some ti) {ks : List K} (hk : ti.eq = some ks) {ρ : Rho} {l m : List C} {r : Bool} (hr : eqL ks l m = some r) (w : World) :
    (Op.equal t (.agg (cellsL ρ l).toArray) (.agg (cellsL ρ m).toArray)).run P w = .ok r w := by
  obtain ⟨h1, h2, h3⟩ := (hT t ti h).eq ks hk
  obtain ⟨f1, f2, hiff⟩ := eqL_spec ρ ks l m r hr
  have hrow := (hT t ti h).row
  rw [h3] at hrow
  obtain ⟨r', hr', hiff'⟩ := eqK (P := P) 9 t ks h1 9991 w _ _ true hrow f1 f2
  have : r' = r := by
    rw [← hiff] at hiff'
    cases r <;> cases r' <;> simp_all
  subst this
  exact hr'
theorem binS_ok {op : BinOp} {t : TypeId} {x y : SV} {v : SV} (h : binS T op t x y = some (.val v)) (ρ : Rho) (w : World) (ox oy : Operand) :
    (do eqGuard op t ox oy (x.den ρ) (y.den ρ); binOp op t (x.den ρ) (y.den ρ) : Sem Value).run P w = .ok (v.den ρ) w := by
  unfold binS at h
  split at h
  · rename_i a ha b hb
    have e1 : (SV.c (C.int a ha)).den ρ = .int .i64 a := rfl
    have e2 : (SV.c (C.int b hb)).den ρ = .int .i64 b := rfl
    rw [e1, e2, eqGuard_at_int]
    split at h
    all_goals first | (simp only [iv, bv, Option.some.injEq, Eff.val.injEq] at h; subst h) | skip
    · simp [binOp, Op.intArith, SV.den, C.den, C.cells]
    · simp [binOp, Op.intArith, SV.den, C.den, C.cells]
    · simp [binOp, Op.intArith, SV.den, C.den, C.cells]
    · simp [binOp, Op.intCmp, SV.den, C.den, C.cells]; rfl
    · simp [binOp, Op.intCmp, SV.den, C.den, C.cells]; rfl
    · simp [binOp, Op.intCmp, SV.den, C.den, C.cells]
    · simp [binOp, Op.intCmp, SV.den, C.den, C.cells]
    · simp [binOp, Op.intCmp, SV.den, C.den, C.cells]
    · simp [binOp, Op.intCmp, SV.den, C.den, C.cells]
    · split at h
      · cases h
      · rename_i hb0
        simp only [iv, Option.some.injEq, Eff.val.injEq] at h; subst h
        simp [binOp, Op.intDiv, hb0, SV.den, C.den, C.cells]
    · split at h
      · cases h
      · rename_i hb0
        simp only [Option.some.injEq, Eff.val.injEq] at h; subst h
        simp [binOp, Op.intDiv, hb0, SV.den, C.den, C.cells]
    · rfl
    · rfl
    · rfl
    · rfl
    · split at h
      · cases h
      · rename_i hb0
        simp only [iv, Option.some.injEq, Eff.val.injEq] at h; subst h
        simp [binOp, Op.shift, hb0, SV.den, C.den, C.cells, IntKind.bits]
    · split at h
      · cases h
      · rename_i hb0
        simp only [Option.some.injEq, Eff.val.injEq] at h; subst h
        simp [binOp, Op.shift, hb0, SV.den, C.den, C.cells, IntKind.bits]
  · rename_i l m
    split at h
    · rename_i ti sz ag z sh ks hti
      have he := (hT _ _ hti).eq ks rfl
      rw [den_agg, den_agg, Sem.run_bind, run_eqGuard_agg w op t ox oy _ _ he.2.1]
      split at h
      · rename_i b hb
        simp only [bv, Option.some.injEq, Eff.val.injEq] at h; subst h
        have := run_eql_sx hT hti rfl hb (ρ := ρ) w
        simp [binOp, this, SV.den, C.den, C.cells]
      · rename_i b hb
        simp only [bv, Option.some.injEq, Eff.val.injEq] at h; subst h
        have := run_eql_sx hT hti rfl hb (ρ := ρ) w
        simp [binOp, this, SV.den, C.den, C.cells]
      · cases h
    · cases h
  · rename_i a b
    have e1 : (SV.c (C.val (.bool a))).den ρ = .bool a := rfl
    have e2 : (SV.c (C.val (.bool b))).den ρ = .bool b := rfl
    rw [e1, e2, eqGuard_at_bool]
    split at h
    · rename_i hti
      have hu : P.underlying t = some .bool := sh_ok hT hti
      have hq : (Op.equal t (.bool a) (.bool b)).run P w = .ok (a == b) w := run_equalIn_bool w 9999 t a b hu
      split at h
      · simp only [bv, Option.some.injEq, Eff.val.injEq] at h; subst h
        simp [binOp, hq, SV.den, C.den, C.cells]
      · simp only [bv, Option.some.injEq, Eff.val.injEq] at h; subst h
        simp [binOp, hq, SV.den, C.den, C.cells]
      · cases h
    · cases h
  · rename_i a b
    have e1 : (SV.c (C.val (.string a))).den ρ = .string a := rfl
    have e2 : (SV.c (C.val (.string b))).den ρ = .string b := rfl
    rw [e1, e2, eqGuard_at_string]
    unfold pureO at h
    split at h
    · rename_i v' hv
      simp only [Option.some.injEq, Eff.val.injEq] at h; subst h
      rw [Sem.run_bind, Sem.run_pure, Result.andThen_ok, hv]
      rfl
    · cases h
  · rename_i k a j b
    have e1 : (SV.c (C.val (.int k a))).den ρ = .int k a := rfl
    have e2 : (SV.c (C.val (.int j b))).den ρ = .int j b := rfl
    rw [e1, e2, eqGuard_at_int]
    unfold pureO at h
    split at h
    · rename_i v' hv
      simp only [Option.some.injEq, Eff.val.injEq] at h; subst h
      rw [Sem.run_bind, Sem.run_pure, Result.andThen_ok, hv]
      rfl
    · cases h
  · rename_i a ha k b
    have e1 : (SV.c (C.int a ha)).den ρ = .int .i64 a := rfl
    have e2 : (SV.c (C.val (.int k b))).den ρ = .int k b := rfl
    rw [e1, e2, eqGuard_at_int]
    split at h
    · split at h
      · cases h
      · rename_i hb0
        simp only [iv, Option.some.injEq, Eff.val.injEq] at h; subst h
        simp [binOp, Op.shift, hb0, SV.den, C.den, C.cells, IntKind.bits]
    · split at h
      · cases h
      · rename_i hb0
        simp only [Option.some.injEq, Eff.val.injEq] at h; subst h
        simp [binOp, Op.shift, hb0, SV.den, C.den, C.cells, IntKind.bits]
    · cases h
  · rename_i k a b hb
    have e1 : (SV.c (C.val (.int k a))).den ρ = .int k a := rfl
    have e2 : (SV.c (C.int b hb)).den ρ = .int .i64 b := rfl
    rw [e1, e2, eqGuard_at_int]
    unfold pureO at h
    split at h
    · rename_i v' hv
      simp only [Option.some.injEq, Eff.val.injEq] at h; subst h
      rw [Sem.run_bind, Sem.run_pure, Result.andThen_ok, hv]
      rfl
    · cases h
  · cases h
omit hT in
theorem den_int (ρ : Rho) (n : Int) (h : IR n) : (SV.c (.int n h)).den ρ = .int .i64 n := rfl
omit hT in
theorem natOf_ok {v : SV} {i : Nat} (h : natOf v = some i) (ρ : Rho) : v.den ρ = .int .i64 i := by
  unfold natOf at h
  split at h
  · cases h; rfl
  · cases h
omit hT in
theorem ptrs_ok (ρ : Rho) : ∀ {l : List SV} {ps : List (Nat × Nat)}, ptrs l = some ps → l.map (SV.den ρ) = ps.map fun p => adr ρ p.1 p.2
  | [], ps, h => by simp [ptrs] at h; subst h; rfl
  | v :: l, ps, h => by
    cases v with
    | agg _ => simp [ptrs] at h
    | tup _ => simp [ptrs] at h
    | c x =>
      cases x <;> simp only [ptrs] at h <;> try (cases h; done)
      case ptr b o =>
        split at h
        · rename_i m hm
          cases h
          simp only [List.map_cons, ptrs_ok ρ hm]
          rfl
        · cases h
omit hT in
theorem fields_get {fd : Array Field} {fs : List (Nat × Nat × Bool)} (h : fd.toList.map (fun f => (f.offset, P.cellsOf f.type, rowO P f.type)) = fs.map (fun x => (x.1, x.2.1, some x.2.2))) {f o n : Nat} {a : Bool} (hf : nthO fs f = some (o, n, a)) :
    ∃ g, fd[f]? = some g ∧ g.offset = o ∧ P.cellsOf g.type = n ∧ rowO P g.type = some a := by
  have := congrArg (·[f]?) h
  rw [nthO_eq] at hf
  simp only [List.getElem?_map, hf, Option.map_some, Option.map_eq_some_iff] at this
  obtain ⟨g, hg, he⟩ := this
  simp only [Prod.mk.injEq] at he
  exact ⟨g, by simpa using hg, he.1, he.2.1, he.2.2⟩
omit hT in
theorem built_array {t e : TypeId} {n esz : Nat} {z : List C} {a : Bool} (ρ : Rho) (hu : P.underlying t = some (.array n e)) (he : P.cellsOf e = esz) (hr : rowO P e = some a)
    (hz : ((P.info? t).bind (·.zero)).map (·.cells) = some (cellsL ρ z).toArray) {parts : List (Nat × SV)} {cs : List C} (hf : fillC (fun i => some (i * esz, esz)) z parts = some cs) :
    P.built t (parts.map (partV ρ)) = some (cellsL ρ cs).toArray := by
  obtain ⟨i, hi⟩ := info_of_underlying hu
  obtain ⟨j, hj⟩ := info_of_rowO hr
  unfold Program.built
  simp only [hi, Option.bind_some] at hz
  cases hz0 : i.zero with
  | none => simp [hz0] at hz
  | some z0 =>
    simp only [hz0, Option.map_some, Option.some.injEq] at hz
    have hes : j.size = esz := by simpa [Program.cellsOf, hj] using he
    simp only [hi, hu, hz0, hj, hz, hes]
    exact fillC_spec _ ρ _ _ _ hf
omit hT in
theorem places_ok {fd : List Field} {fs : List (Nat × Nat × Bool)} (h : fd.map (fun f => (f.offset, P.cellsOf f.type, rowO P f.type)) = fs.map (fun x => (x.1, x.2.1, some x.2.2))) :
    fd.mapM (fun f => (P.info? f.type).map fun i => (f.offset, i.size)) = some (fs.map fun x => (x.1, x.2.1)) := by
  induction fd generalizing fs with
  | nil => cases fs with
    | nil => rfl
    | cons x fs => simp at h
  | cons f fd ih =>
    cases fs with
    | nil => simp at h
    | cons x fs =>
      simp only [List.map_cons, List.cons.injEq, Prod.mk.injEq] at h
      obtain ⟨⟨h1, h2, h3⟩, h4⟩ := h
      obtain ⟨i, hi⟩ := info_of_rowO h3
      have hs : i.size = x.2.1 := by simpa [Program.cellsOf, hi] using h2
      simp [List.mapM_cons, hi, ih h4, h1, hs]
omit hT in
theorem built_struct {t : TypeId} {fd : Array Field} {fs : List (Nat × Nat × Bool)} {z : List C} (ρ : Rho) (hu : P.underlying t = some (.struct fd))
    (h : fd.toList.map (fun f => (f.offset, P.cellsOf f.type, rowO P f.type)) = fs.map (fun x => (x.1, x.2.1, some x.2.2)))
    (hz : ((P.info? t).bind (·.zero)).map (·.cells) = some (cellsL ρ z).toArray) {parts : List (Nat × SV)} {cs : List C} (hf : fillC (fun i => match nthO fs i with | some (o, n, _) => some (o, n) | none => none) z parts = some cs) :
    P.built t (parts.map (partV ρ)) = some (cellsL ρ cs).toArray := by
  obtain ⟨i, hi⟩ := info_of_underlying hu
  unfold Program.built
  simp only [hi, Option.bind_some] at hz
  cases hz0 : i.zero with
  | none => simp [hz0] at hz
  | some z0 =>
    simp only [hz0, Option.map_some, Option.some.injEq] at hz
    simp only [hi, hu, hz0, hz, places_ok h]
    have e : (fun i => match nthO fs i with | some (o, n, _) => some (o, n) | none => none) = (fun x => (fs.map fun x => (x.1, x.2.1)).toArray[x]?) := by
      funext j
      rw [nthO_eq]
      simp only [List.getElem?_toArray, List.getElem?_map]
      cases fs[j]? <;> rfl
    rw [← e]
    exact fillC_spec _ ρ _ _ _ hf
omit hT in
theorem parts_map (ev : Operand → SV) (ρ : Rho) (ps : Array (Nat × Operand)) : (ps.map fun (i, x) => (i, evr ev ρ x)).toList = (ps.toList.map fun p => (p.1, ev p.2)).map (partV ρ) := by
  simp [partV, evr, Function.comp_def]
omit hT in
theorem slOff_eq (off esz l m : Nat) : slOff off esz l m = if m = l ∨ l = 0 then off else off + l * esz := by
  cases l with
  | zero => simp [slOff]
  | succ l => simp [slOff]
omit hT in
theorem run_bound_sx {v : SV} {n : Nat} (h : natOf v = some n) (ρ : Rho) (w : World) {y : Nat} (hy : n ≤ y) (code : BoundsCode) : (Instr.sliceBound (v.den ρ) y code).run P w = .ok n w := by
  have hn : (0 : Int) ≤ (n : Int) ∧ (n : Int) ≤ (y : Int) := ⟨by omega, by omega⟩
  simp only [natOf_ok h ρ, Instr.sliceBound, asIntOf, Sem.run_bind, Sem.run_pure, Result.andThen_ok]
  rw [if_pos hn]
  simp
omit hT in
theorem run_bounds_sx {ev : Operand → SV} (ρ : Rho) (w : World) (len cap : Nat) (lo hi mx : Option Operand) {l k m : Nat} (hl : bndO (lo.map ev) 0 = some l) (hk : bndO (hi.map ev) len = some k) (hm : bndO (mx.map ev) cap = some m)
    (hc : l ≤ k ∧ k ≤ m ∧ m ≤ cap) (hne : ∀ b : Operand, hi = none → mx = some b → False) (is : Bool) :
    (Instr.sliceBounds is len cap (lo.map (evr ev ρ)) (hi.map (evr ev ρ)) (mx.map (evr ev ρ))).run P w = .ok (l, k, m) w := by
  unfold Instr.sliceBounds
  have bd : ∀ {v : SV} {n y : Nat} {code : BoundsCode}, natOf v = some n → n ≤ y → (Instr.sliceBound (v.den ρ) y code).run P w = .ok n w := fun h hy => run_bound_sx h ρ w hy _
  cases mx with
  | none =>
    simp only [bndO, Option.map_none, Option.some.injEq] at hm
    subst hm
    cases hi with
    | none =>
      simp only [bndO, Option.map_none, Option.some.injEq] at hk
      subst hk
      cases lo with
      | none => simp only [bndO, Option.map_none, Option.some.injEq] at hl; subst hl; simp
      | some a => simp only [bndO, Option.map_some] at hl; simp [evr, bd hl hc.1]
    | some b =>
      simp only [bndO, Option.map_some] at hk
      cases lo with
      | none => simp only [bndO, Option.map_none, Option.some.injEq] at hl; subst hl; simp [evr, bd hk hc.2.1]
      | some a => simp only [bndO, Option.map_some] at hl; simp [evr, bd hl hc.1, bd hk hc.2.1]
  | some c =>
    simp only [bndO, Option.map_some] at hm
    cases hi with
    | none => exact (hne c rfl rfl).elim
    | some b =>
      simp only [bndO, Option.map_some] at hk
      cases lo with
      | none => simp only [bndO, Option.map_none, Option.some.injEq] at hl; subst hl; simp [evr, bd hm hc.2.2, bd hk hc.2.1]
      | some a => simp only [bndO, Option.map_some] at hl; simp [evr, bd hl hc.1, bd hk hc.2.1, bd hm hc.2.2]
/-- an operation that yields a value -/
theorem eff_val {o : Oper} {ev : Operand → SV} {hp : Nat → Option Blk} {v : SV} (h : eff T o.op ev hp = some (.val v)) (ρ : Rho) (w : World) (hh : ∀ b blk, hp b = some blk → Holds ρ blk b w) :
    (execOp (evr ev ρ) o).run P w = .ok (.value (v.den ρ)) w := by
  obtain ⟨dst, op, ty, pos, after, guard⟩ := o
  simp only at h
  cases op <;> simp only [eff] at h <;> try (cases h; done)
  case move x => cases h; rfl
  case assign x => cases h; rfl
  case pick c a b =>
    split at h
    · rename_i t hc
      split at h
      · rename_i x y ha hb
        simp only [bv, Option.some.injEq, Eff.val.injEq] at h; subst h
        simp only [execOp, evr, hc, ha, hb]
        cases t <;> simp [SV.den, C.den, C.cells, asBool]
      · simp only [Option.some.injEq, Eff.val.injEq] at h; subst h
        have e : (SV.c (C.val (.bool t))).den ρ = .bool t := rfl
        simp only [execOp, evr, hc, e]
        cases t <;> simp [selB, asBool]
    · cases h
  case alloc t => split at h <;> cases h
  case box t x =>
    split at h
    · split at h <;> cases h
    · cases h
  case buildSlice t len parts =>
    split at h
    · split at h
      · split at h <;> cases h
      · cases h
    · cases h
  case load t x =>
    split at h
    · rename_i b off ti hx ht
      split at h
      · rename_i blk hb
        split at h
        · rename_i v' hv
          cases h
          have := run_load_sx hT ht (hh b blk hb) hv
          have e : (SV.c (C.ptr b off)).den ρ = adr ρ b off := rfl
          simp only [execOp, evr, hx, e, Sem.run_bind, this, Result.andThen_ok, Sem.run_pure]
        · cases h
      · cases h
    · cases h
  case store t x y =>
    split at h
    · split at h
      · split at h
        · split at h
          · cases h
          · split at h <;> cases h
        · cases h
      · cases h
    · cases h
  case build t parts =>
    split at h
    · rename_i size ag z fs eq ht
      obtain ⟨fd, hu, hm, -⟩ := sh_ok hT ht
      split at h
      · rename_i cs hf
        cases h
        have hb := built_struct ρ hu hm ((hT _ _ ht).zero ρ) hf
        rw [← parts_map] at hb
        simp only [execOp, Sem.run_bind, run_build w t _ _ hb, Result.andThen_ok, Sem.run_pure]
        rfl
      · split at h
        · rename_i cs hf
          cases h
          have hb := built_struct ρ hu hm (by rw [cellsL_split]; exact (hT _ _ ht).zero ρ) hf
          rw [← parts_map] at hb
          simp only [execOp, Sem.run_bind, run_build w t _ _ hb, Result.andThen_ok, Sem.run_pure]
          rfl
        · cases h
    · rename_i size ag z n esz a eq ht
      obtain ⟨e, hu, he, hr, -⟩ := sh_ok hT ht
      split at h
      · rename_i cs hf
        cases h
        have hb := built_array ρ hu he hr ((hT _ _ ht).zero ρ) hf
        rw [← parts_map] at hb
        simp only [execOp, Sem.run_bind, run_build w t _ _ hb, Result.andThen_ok, Sem.run_pure]
        rfl
      · cases h
    · cases h
  case binOp op t x y yt =>
    have := binS_ok hT h ρ w x y
    simp only [execOp, evr]
    rw [Sem.run_bind, this]
    rfl
  case unOp op t x =>
    split at h
    · rename_i b hx
      simp only [bv, Option.some.injEq, Eff.val.injEq] at h; subst h
      simp only [execOp, evr, hx]; rfl
    · rename_i a ha hx
      simp only [iv, Option.some.injEq, Eff.val.injEq] at h; subst h
      simp only [execOp, evr, hx]; rfl
    · rename_i op k a hx
      unfold pureO at h
      split at h
      · rename_i v' hv
        cases h
        have e : (SV.c (C.val (.int k a))).den ρ = .int k a := rfl
        simp only [execOp, evr, hx, e, hv]; rfl
      · cases h
    · cases h
  case convert s d x =>
    split at h
    all_goals first
      | (cases h; done)
      | (rename_i hs ht hx
         have hu := sh_ok hT ht
         obtain ⟨ds, hds, -⟩ := under_ok hT hs
         simp only [iv, Option.some.injEq, Eff.val.injEq] at h
         subst h
         simp only [execOp, evr, hx]
         simp only [ShOk] at hu
         simp [convert, run_underlying hds w, run_underlying hu w, SV.den, C.den, C.cells, Conv.intToInt])
  case fieldAddr t x f =>
    split at h
    · rename_i sz ag z fs eq b off ht hx
      obtain ⟨fd, hu, hm, -⟩ := sh_ok hT ht
      split at h
      · rename_i o n a hf
        split at h
        · cases h
        · rename_i hn
          cases h
          obtain ⟨g, hg, rfl, rfl, hr⟩ := fields_get hm hf
          obtain ⟨i, hi⟩ := info_of_rowO hr
          have e : (SV.c (C.ptr b off)).den ρ = adr ρ b off := rfl
          have hs := run_sizeOf w hi
          simp only [execOp, evr, hx, e, Instr.fieldAt, Sem.run_bind, run_underlying hu w, Result.andThen_ok, hg, adr, Instr.sureAddr, Sem.run_pure, fieldPlace, hs]
          rw [if_neg hn]
          simp only [Sem.run_pure, Result.andThen_ok, Addr.add_mid]
          simp [SV.den, C.den, C.cells, adr, Nat.add_assoc]
      · cases h
    · cases h
  case field t x f =>
    split at h
    · rename_i sz ag z fs eq l ht hx
      obtain ⟨fd, hu, hm, h1⟩ := sh_ok hT ht
      split at h
      · rename_i o n a hf
        split at h
        · rename_i v' hv
          cases h
          have hmem : (o, n, a) ∈ fs := by rw [nthO_eq] at hf; exact List.mem_of_getElem? hf
          obtain ⟨g, hg, rfl, rfl, hr⟩ := fields_get hm hf
          have hp := run_part_sx hr (fun e => h1 _ hmem e) hv w (ρ := ρ)
          simp only [execOp, evr, hx, den_agg, Instr.field, Sem.run_bind, run_underlying hu w, Result.andThen_ok, hg, asAgg, Sem.run_pure, hp]
        · cases h
      · cases h
    · cases h
  case indexAddr t x i =>
    split at h
    · rename_i sz ag z n esz a eq b off j ht hx hi
      obtain ⟨e, hu, he, hr, -⟩ := sh_ok hT ht
      split at h
      · rename_i hlt
        cases h
        obtain ⟨ie, hie⟩ := info_of_rowO hr
        have hs := run_sizeOf w hie
        have hpx : (SV.c (C.ptr b off)).den ρ = adr ρ b off := rfl
        have hj : (0 : Int) ≤ (j : Int) ∧ (j : Int) < (n : Int) := ⟨by omega, by omega⟩
        simp only [execOp, evr, hx, natOf_ok hi ρ, hpx, Instr.indexAt, asIntOf, Sem.run_bind, Sem.run_pure, Result.andThen_ok, run_underlying hu w, adr, Instr.sureAddr]
        rw [if_pos hj]
        simp only [Sem.run_bind, hs, Result.andThen_ok, Sem.run_pure, Addr.add_mid, Int.toNat_natCast, he]
        simp [SV.den, C.den, C.cells, adr, Nat.add_assoc]
      · cases h
    · rename_i sz ag z e esz ez eq nl b off len cap hl j ht hx hi
      obtain ⟨hu, he, hie, -⟩ := sh_ok hT ht
      split at h
      · rename_i hlt
        cases h
        obtain ⟨ie, hie⟩ := Option.isSome_iff_exists.1 hie
        have hs := run_sizeOf w hie
        have hnl := hl.pos hlt
        subst hnl
        have hpx : (SV.c (C.sli false b off len cap hl)).den ρ = .slice (some ⟨(ρ b).1, (ρ b).2 + off, none⟩) len cap := rfl
        have hj : (0 : Int) ≤ (j : Int) ∧ (j : Int) < (len : Int) := ⟨by omega, by omega⟩
        simp only [execOp, evr, hx, natOf_ok hi ρ, hpx, Instr.indexAt, asIntOf, Sem.run_bind, Sem.run_pure, Result.andThen_ok, run_underlying hu w]
        rw [if_pos hj]
        simp only [Sem.run_bind, hs, Result.andThen_ok, Sem.run_pure, Addr.add_mid, Int.toNat_natCast, he]
        simp [SV.den, C.den, C.cells, adr, Nat.add_assoc]
      · cases h
    · cases h
  case index t x i =>
    split at h
    · rename_i sz ag z n esz a eq l j ht hx hi
      obtain ⟨e, hu, he, hr, h1⟩ := sh_ok hT ht
      split at h
      · rename_i hlt
        split at h
        · rename_i v' hv
          cases h
          obtain ⟨ie, hie⟩ := info_of_rowO hr
          have hs := run_sizeOf w hie
          subst he
          have hp := run_part_sx hr h1 hv w (ρ := ρ)
          have hj : (0 : Int) ≤ (j : Int) ∧ (j : Int) < (n : Int) := ⟨by omega, by omega⟩
          simp only [execOp, evr, hx, natOf_ok hi ρ, den_agg, Instr.index, asIntOf, Sem.run_bind, Sem.run_pure, Result.andThen_ok, run_underlying hu w]
          rw [if_pos hj]
          simp only [Sem.run_bind, hs, Result.andThen_ok, Int.toNat_natCast, hp]
        · cases h
      · cases h
    · rename_i sz ag z eq s j ht hx hi
      have hu : P.underlying t = some .string := sh_ok hT ht
      split at h
      · rename_i hlt
        cases h
        have e1 : (SV.c (C.val (.string s))).den ρ = .string s := rfl
        have h0 : (0 : Int) ≤ (j : Int) := by omega
        have hb : s[j]? = some (s.data[j]?.getD 0) := by
          have hd : j < s.data.size := hlt
          rw [getElem?_pos s j hlt, Array.getElem?_eq_getElem hd]
          rfl
        simp only [execOp, evr, hx, natOf_ok hi ρ, e1, Instr.index, asIntOf, Sem.run_bind, Sem.run_pure, Result.andThen_ok, run_underlying hu w]
        simp only [if_pos h0, Int.toNat_natCast, hb]
        rfl
      · cases h
    · cases h
  case slice t x lo hi mx =>
    split at h
    · rename_i sz ag z e esz ez eq nl b off len cap hl ht hx
      obtain ⟨hu, he, hie, -⟩ := sh_ok hT ht
      obtain ⟨ie, hie⟩ := Option.isSome_iff_exists.1 hie
      have hs := run_sizeOf w hie
      have hpx : (SV.c (C.sli nl b off len cap hl)).den ρ = .slice (nlA nl ⟨(ρ b).1, (ρ b).2 + off, none⟩) len cap := rfl
      split at h
      · rename_i l k m hl1 hk1 hm1
        split at h
        · rename_i hc
          cases h
          have hbd := run_bounds_sx (P := P) (ev := ev) ρ w len cap lo hi mx hl1 hk1 hm1 hc.1 (fun b e1 e2 => by subst e1; subst e2; simp at hc) true
          simp only [execOp, evr, hx, hpx, Instr.sliceAt, Instr.slice, Sem.run_bind, run_underlying hu w, Result.andThen_ok]
          rw [hbd]
          simp only [Result.andThen_ok, hs, Sem.run_pure, SV.den, C.den, C.cells, List.headD_cons, he]
          have ea : (if m = l then nlA nl ⟨(ρ b).1, (ρ b).2 + off, none⟩ else Option.map (fun x => x.add (l * esz)) (nlA nl ⟨(ρ b).1, (ρ b).2 + off, none⟩)) = nlA nl ⟨(ρ b).1, (ρ b).2 + slOff off esz l m, none⟩ := by
            rw [slOff_eq]
            cases nl
            · simp only [nlA, Option.map_some, Addr.add_mid]
              by_cases h1 : m = l
              · simp [h1]
              · by_cases h2 : l = 0
                · subst h2; simp [h1]
                · simp [h1, h2, Nat.add_assoc]
            · simp [nlA]
          rw [ea]
        · cases h
      · cases h
    · rename_i sz ag z e esz ez eq a ht hx
      obtain ⟨hu, he, hie, -⟩ := sh_ok hT ht
      obtain ⟨ie, hie⟩ := Option.isSome_iff_exists.1 hie
      have hs := run_sizeOf w hie
      split at h
      · rename_i hl1 hk1
        cases h
        have hbd := run_bounds_sx (P := P) (ev := ev) ρ w 0 0 lo hi none hl1 hk1 rfl ⟨Nat.le_refl _, Nat.le_refl _, Nat.le_refl _⟩ (fun b e1 e2 => by cases e2) true
        have e1 : (SV.c (C.val (.slice a 0 0))).den ρ = .slice a 0 0 := rfl
        simp only [execOp, evr, hx, e1, Instr.sliceAt, Instr.slice, Sem.run_bind, run_underlying hu w, Result.andThen_ok]
        rw [hbd]
        simp only [Result.andThen_ok, hs, Sem.run_pure]
        rfl
      · cases h
    · rename_i sz ag z eq s ht hx
      have hu : P.underlying t = some .string := sh_ok hT ht
      split at h
      · rename_i l k hl1 hk1
        split at h
        · rename_i hc
          cases h
          have hbd := run_bounds_sx (P := P) (ev := ev) ρ w s.size s.size lo hi none hl1 hk1 rfl ⟨hc.1, hc.2, Nat.le_refl _⟩ (fun b e1 e2 => by cases e2) false
          have e1 : (SV.c (C.val (.string s))).den ρ = .string s := rfl
          simp only [execOp, evr, hx, e1, Instr.sliceAt, Instr.slice, Sem.run_bind, run_underlying hu w, Result.andThen_ok]
          simp only [Option.map_none] at hbd
          simp [hbd]
          rfl
        · cases h
      · cases h
    · cases h
  case nilCheck x =>
    split at h
    · rename_i b off hx
      cases h
      have e : (SV.c (C.ptr b off)).den ρ = adr ρ b off := rfl
      simp only [execOp, evr, hx, e, adr]; rfl
    · rename_i f bd caps hx
      cases h
      have e : (SV.c (C.fn f bd caps)).den ρ = .func (.func f) (bndV bd) (caps.map fun p => adr ρ p.1 p.2).toArray := rfl
      simp only [execOp, evr, hx, e]; rfl
    · cases h
  case extract x i =>
    split at h
    · rename_i l hx
      split at h
      · rename_i t ht
        cases h
        rw [nthO_eq] at ht
        have e : (SV.tup l).den ρ = .tuple (l.map (T1.den ρ)).toArray := rfl
        have : (l.map (T1.den ρ)).toArray[i]? = some (t.den ρ) := by simp [ht]
        simp only [execOp, evr, hx, e, Instr.extract, this, Sem.run_bind, Sem.run_pure, Result.andThen_ok]
        cases t <;> rfl
      · cases h
    · cases h
  case makeFunc fn first captured =>
    split at h
    · rename_i f ps hf hp
      cases h
      have hc := ptrs_ok ρ hp
      have hfirst : first = #[] := Array.toList_eq_nil_iff.1 hf
      subst hfirst
      have : captured.map (evr ev ρ) = (ps.map fun p => adr ρ p.1 p.2).toArray := by
        apply Array.toList_inj.1
        rw [← hc]
        simp [evr, Function.comp_def]
      simp only [execOp, this, Instr.makeFunc, Sem.run_bind, Sem.run_pure, Result.andThen_ok, Array.map_empty]
      rfl
    · rename_i f x hf hp
      have hc := ptrs_ok ρ hp
      have hfirst : first = #[x] := Array.toList_inj.1 (by rw [hf])
      subst hfirst
      have hn : captured.toList = [] := by
        have hc : List.map (SV.den ρ) (List.map ev captured.toList) = [] := hc
        simpa using hc
      have : captured.map (evr ev ρ) = #[] := by
        apply Array.toList_inj.1
        rw [Array.toList_map, hn]; rfl
      split at h
      · rename_i l hx
        split at h
        · rename_i b bs hb
          cases h
          have e : (SV.agg l).den ρ = .agg (cellsL ρ l).toArray := rfl
          have e3 : (#[x] : Array Operand).map (evr ev ρ) = bndV (b :: bs) := by
            apply Array.toList_inj.1
            rw [Array.toList_map]
            show [(ev x).den ρ] = _
            rw [hx, e, bndL_cells ρ hb]; rfl
          simp only [execOp, this, e3, Instr.makeFunc, Sem.run_bind, Sem.run_pure, Result.andThen_ok]
          rfl
        · cases h
      · cases h
    · cases h
  case call c =>
    obtain ⟨ce, args, ts⟩ := c
    simp only at h
    have two : ∀ {x y : Operand}, args.toList = [x, y] → args = #[x, y] := fun h => Array.toList_inj.1 (by rw [h])
    have three : ∀ {x y z : Operand}, args.toList = [x, y, z] → args = #[x, y, z] := fun h => Array.toList_inj.1 (by rw [h])
    split at h
    · rename_i x t ha htt
      have ea : args = #[x] := Array.toList_inj.1 (by rw [ha])
      have et : ts = #[t] := Array.toList_inj.1 (by rw [htt])
      subst ea; subst et
      split at h
      · rename_i sz ag z e esz ez eq nl b off len cap hl ht hx
        cases h
        obtain ⟨hu, -⟩ := sh_ok hT ht
        simp only [execOp, resolve, invoke, builtin, Builtin.len_]
        simp [evr, hx, run_underlying hu w, goInt, SV.den, C.den, C.cells]
      · rename_i sz ag z e esz ez eq av len cap ht hx
        split at h
        · cases h
          obtain ⟨hu, -⟩ := sh_ok hT ht
          simp only [execOp, resolve, invoke, builtin, Builtin.len_]
          simp [evr, hx, run_underlying hu w, goInt, SV.den, C.den, C.cells]
        · cases h
      · rename_i sz ag z eq s ht hx
        split at h
        · cases h
          have hu : P.underlying t = some .string := sh_ok hT ht
          simp only [execOp, resolve, invoke, builtin, Builtin.len_]
          simp [evr, hx, run_underlying hu w, goInt, SV.den, C.den, C.cells]
        · cases h
      · cases h
    · rename_i x y ha
      have ea := two ha
      subst ea
      split at h
      · rename_i a h1 b h2 hx hy
        cases h
        simp only [execOp, resolve, invoke, builtin, Builtin.min_]
        simp [evr, hx, hy, SV.den, C.den, C.cells, Builtin.min2, minI]
      · cases h
    · rename_i x y ha
      have ea := two ha
      subst ea
      split at h
      · rename_i a h1 b h2 hx hy
        cases h
        simp only [execOp, resolve, invoke, builtin, Builtin.max_]
        simp [evr, hx, hy, SV.den, C.den, C.cells, Builtin.max2, maxI]
      · cases h
    · rename_i x y z ha
      have ea := three ha
      subst ea
      split at h
      · rename_i a h1 b h2 c h3 hx hy hz
        cases h
        simp only [execOp, resolve, invoke, builtin, Builtin.min_]
        simp [evr, hx, hy, hz, SV.den, C.den, C.cells, Builtin.min2, minI]
        rfl
      · cases h
    · rename_i x y z ha
      have ea := three ha
      subst ea
      split at h
      · rename_i a h1 b h2 c h3 hx hy hz
        cases h
        simp only [execOp, resolve, invoke, builtin, Builtin.max_]
        simp [evr, hx, hy, hz, SV.den, C.den, C.cells, Builtin.max2, maxI]
        rfl
      · cases h
    · cases h
end
end Go.Proofs.YtefgchmbdijjdaaGreatDoor

namespace Go.Proofs.YtefgchmbdijjdaaGreatDoor
open Go.RowKit

def Eff.isVal : Option Eff → Prop
  | some (.val _) => True
  | none => True
  | _ => False
theorem pureO_val (s : Sem Value) : Eff.isVal (pureO s) := by unfold pureO; split <;> trivial
theorem binS_val (T : TypeId → Option TI) (op : BinOp) (t : TypeId) (x y : SV) : Eff.isVal (binS T op t x y) := by
  unfold binS
  (repeat' split) <;> first | trivial | exact pureO_val _
section
variable {P : Program} {T : TypeId → Option TI} (hT : TOk P T)
include hT
theorem eff_new {o : Oper} {ev : Operand → SV} {hp : Nat → Option Blk} {b : Blk} {f : Nat → SV} (h : eff T o.op ev hp = some (.new b f)) (ρ : Rho) (w : World) :
    ∃ val, (execOp (evr ev ρ) o).run P w = .ok (.value val) (w.alloc (.cells (cellsL ρ b.cs).toArray b.ty)) ∧ (b.ro = false ∧ b.tl = 0) ∧ ∀ (ρ' : Rho) (n : Nat), ρ' n = (w.heap.size, 0) → (f n).den ρ' = val := by
  obtain ⟨dst, op, ty, pos, after, guard⟩ := o
  simp only at h
  cases op <;> simp only [eff] at h <;> try (cases h; done)
  case alloc t =>
    split at h
    · rename_i ti ht
      cases h
      refine ⟨.pointer (some ⟨w.heap.size, 0, none⟩), ?_, ⟨rfl, rfl⟩, fun ρ' n hn => by simp [SV.den, C.den, C.cells, adr, hn]⟩
      simp only [execOp, Sem.run_bind, run_alloc_sx hT ht ρ, Result.andThen_ok, Sem.run_pure]
    · cases h
  case box t x =>
    split at h
    · rename_i l hl
      split at h
      · cases h
        refine ⟨.pointer (some ⟨w.heap.size, 0, none⟩), ?_, ⟨rfl, rfl⟩, fun ρ' n hn => by simp [SV.den, C.den, C.cells, adr, hn]⟩
        simp only [execOp, evr, Sem.run_bind, run_box_sx hl ρ, Result.andThen_ok, Sem.run_pure]
      · cases h
    · cases h
  case buildSlice t len parts =>
    split at h
    · rename_i sz ag z e esz ez eq ht
      split at h
      · rename_i cs hf
        split at h
        · rename_i hl
          cases h
          refine ⟨.slice (some ⟨w.heap.size, 0, none⟩) len len, ?_, ⟨rfl, rfl⟩, fun ρ' n hn => by simp [SV.den, C.den, C.cells, nlA, hn]⟩
          have hp := parts_map ev ρ parts
          simp only [execOp, Sem.run_bind, run_buildSlice_sx (sh_ok hT ht) hp hf hl.2 w, Result.andThen_ok, Sem.run_pure]
        · cases h
      · cases h
    · cases h
  case store t x y => (repeat' split at h) <;> cases h
  all_goals
    exfalso
    have hv : Eff.isVal (some (.new b f)) := by
      rw [← h]
      (repeat' split) <;> first | trivial | exact pureO_val _ | exact binS_val _ _ _ _ _
    exact hv
theorem eff_put {o : Oper} {ev : Operand → SV} {hp : Nat → Option Blk} {b : Nat} {cs : List C} (h : eff T o.op ev hp = some (.put b cs)) :
    ∃ blk off l, hp b = some blk ∧ blk.ro = false ∧ isStore o.op = true ∧ ∀ (ρ : Rho) (w : World), Holds ρ blk b w → (execOp (evr ev ρ) o).run P w = .ok .skip (w.setCells (ρ b).1 off (cellsL ρ l)) ∧
      ∃ t : List Value, t.length = blk.tl ∧ (w.setCells (ρ b).1 off (cellsL ρ l)).heap[(ρ b).1]? = some (.cells (cellsL ρ cs ++ t).toArray blk.ty (0, 0)) := by
  obtain ⟨dst, op, ty, pos, after, guard⟩ := o
  simp only at h
  cases op <;> simp only [eff] at h <;> try (cases h; done)
  case store t x y =>
    split at h
    · rename_i b' off l ti hx hy ht
      split at h
      · rename_i hs
        split at h
        · rename_i blk hb
          split at h
          · cases h
          · rename_i hro
            have hro : blk.ro = false := by simpa using hro
            split at h
            · rename_i cs' hc
              cases h
              refine ⟨blk, off, l, hb, hro, rfl, fun ρ w hh => ?_⟩
              obtain ⟨h1, h2⟩ := run_store_sx hT ht hh hro hy hs.1 hs.2 hc
              have hpx : (SV.c (C.ptr b off)).den ρ = adr ρ b off := rfl
              refine ⟨?_, h2⟩
              simp only [execOp, evr, hx, hpx, Sem.run_bind, h1, Result.andThen_ok, Sem.run_pure]
            · cases h
        · cases h
      · cases h
    · cases h
  case alloc t => (repeat' split at h) <;> cases h
  case buildSlice t len parts => (repeat' split at h) <;> cases h
  case box t x => (repeat' split at h) <;> cases h
  all_goals
    exfalso
    have hv : Eff.isVal (some (.put b cs)) := by
      rw [← h]
      (repeat' split) <;> first | trivial | exact pureO_val _ | exact binS_val _ _ _ _ _
    exact hv
omit hT in
def Callable (P : Program) (f : FuncId) : Prop := ∃ fn, P.funcs[f]? = some fn ∧ fn.body.isNone = false ∧ (fn.name == "runtime.NumGoroutine") = false
omit hT in
theorem run_call_sx {o : Oper} {c : Call} (ho : o.op = .call c) {ev : Operand → SV} {f : FuncId} {args : List SV} (hc : callee ev c = some (f, args)) (hf : Callable P f) (ρ : Rho) (w : World) :
    (execOp (evr ev ρ) o).run P w = .ok (.enter f (args.map (SV.den ρ)).toArray) w := by
  obtain ⟨fn, h1, h2, h3⟩ := hf
  obtain ⟨ce, xs, ts⟩ := c
  unfold callee at hc
  split at hc
  · rename_i fo hce
    split at hc
    · rename_i g bd caps hg
      cases hc
      simp only at hce
      subst hce
      have e : (SV.c (C.fn f bd caps)).den ρ = .func (.func f) (bndV bd) (caps.map fun p => adr ρ p.1 p.2).toArray := rfl
      have ea : bndV bd ++ xs.map (evr ev ρ) ++ (caps.map fun p => adr ρ p.1 p.2).toArray = ((bndA bd ++ (xs.toList.map ev ++ caps.map fun p => SV.c (.ptr p.1 p.2))).map (SV.den ρ)).toArray := by
        rw [← bndA_den ρ bd]
        apply Array.toList_inj.1
        simp [evr, Function.comp_def, SV.den, C.den, C.cells]
      simp only [execOp, ho, resolve]
      have e2 : evr ev ρ fo = .func (.func f) (bndV bd) (caps.map fun p => adr ρ p.1 p.2).toArray := by simp only [evr, hg, e]
      rw [e2]
      simp only [Deferred.ofValue, Sem.run_bind, Sem.run_pure, Result.andThen_ok, invoke, ea, callFunc, run_program, h1, h2, h3]
      simp
    · cases hc
  · cases hc
end

/-- the blocks that are known, and where they lie -/
def Agr (hf : Nat → Option Blk) (ρ ρ0 : Rho) : Prop := ∀ i, (hf i).isSome = true → ρ i = ρ0 i
def upF (hf : Nat → Option Blk) (n : Nat) (b : Blk) : Nat → Option Blk := fun i => if i = n then some b else hf i
def upR (ρ : Rho) (n : Nat) (p : Nat × Nat) : Rho := fun i => if i = n then p else ρ i
/-- the world in which the walk began, and the blocks that lay there then -/
structure Base where
  w : World
  B : Nat → Prop
  ρ : Rho
structure HRel (N : Nat) (w0 : Base) (hf : Nat → Option Blk) (ρ0 : Rho) (w : World) : Prop where
  old : ∀ i b, hf i = some b → b.void = false → (ρ0 i).1 < w.heap.size
  own : ∀ i b, hf i = some b → b.ro = false → N ≤ (ρ0 i).1
  apart : ∀ i j b c, hf i = some b → b.ro = false → hf j = some c → c.void = false → j ≠ i → (ρ0 j).1 ≠ (ρ0 i).1
  holds : ∀ ρ, Agr hf ρ ρ0 → ∀ i b, hf i = some b → Holds ρ b i w
  bel : Below N w0.w w
  big : N ≤ w.heap.size
  ext : ∀ i, w0.B i → (hf i).isSome = true ∧ ρ0 i = w0.ρ i
theorem Holds.keep {ρ : Rho} {b : Blk} {i : Nat} {w w' : World} (h : Holds ρ b i w) (hk : w'.heap[(ρ i).1]? = w.heap[(ρ i).1]?) : Holds ρ b i w' :=
  ⟨fun j v hv => (World.cell?_of_block (w := w) (a := ⟨(ρ i).1, (ρ i).2 + j, none⟩) hk).trans (h.1 j v hv), fun hr => ⟨(h.2 hr).1, let ⟨t, h1, h2⟩ := (h.2 hr).2; ⟨t, h1, hk.trans h2⟩⟩⟩
theorem void_spec {b : Blk} (h : b.void = true) : b.ro = true ∧ b.cs = [] := by
  unfold Blk.void at h
  split at h
  · rename_i h1 h2; exact ⟨h1, h2⟩
  · cases h
theorem own_live {b : Blk} (h : b.ro = false) : b.void = false := by
  unfold Blk.void; rw [h]
theorem Holds.void {b : Blk} (h : b.void = true) (ρ : Rho) (i : Nat) (w : World) : Holds ρ b i w := by
  obtain ⟨h1, h2⟩ := void_spec h
  refine ⟨fun j v hv => ?_, fun h => by rw [h1] at h; cases h⟩
  rw [h2] at hv; simp [cellsL] at hv
theorem void_or (b : Blk) : b.void = true ∨ b.void = false := by cases b.void <;> simp
theorem Agr.refl (hf : Nat → Option Blk) (ρ : Rho) : Agr hf ρ ρ := fun _ _ => rfl
theorem HRel.below {N : Nat} {w0 : Base} {hf : Nat → Option Blk} {ρ0 : Rho} {w w' : World} (h : HRel N w0 hf ρ0 w) (hb : Below w.heap.size w w') : HRel N w0 hf ρ0 w' where
  old i b hi hv := Nat.lt_of_lt_of_le (h.old i b hi hv) hb.size
  own := h.own
  apart := h.apart
  holds ρ hρ i b hi := (void_or b).elim (fun hv => Holds.void hv ρ i w') fun hv => (h.holds ρ hρ i b hi).keep (hb.block _ (by rw [hρ i (by rw [hi]; rfl)]; exact h.old i b hi hv))
  bel := h.bel.trans (hb.mono h.big)
  big := Nat.le_trans h.big hb.size
  ext := h.ext
theorem range_whole {w : World} {g : Nat} {cs : List Value} {t : TypeId} (h : w.heap[g]? = some (.cells cs.toArray t (0, 0))) : w.rangeAt g 0 cs := fun j v hv => by
  rw [Nat.zero_add, cell_of_row _ _ _ _ _ _ h]; simpa using hv
theorem HRel.new {N : Nat} {w0 : Base} {hf : Nat → Option Blk} {ρ0 : Rho} {w : World} (h : HRel N w0 hf ρ0 w) {n : Nat} (hn : hf n = none) {b : Blk} (hro : b.ro = false ∧ b.tl = 0) {L : List Value}
    (hL : ∀ ρ, Agr hf ρ ρ0 → cellsL ρ b.cs = L) : HRel N w0 (upF hf n b) (upR ρ0 n (w.heap.size, 0)) (w.alloc (.cells L.toArray b.ty)) := by
  have hne : ∀ i c, hf i = some c → i ≠ n := fun i c hi e => by rw [e, hn] at hi; cases hi
  have hup : ∀ i c, upF hf n b i = some c → (i = n ∧ c = b) ∨ (i ≠ n ∧ hf i = some c) := fun i c hi => by
    unfold upF at hi
    split at hi
    · rename_i e; cases hi; exact .inl ⟨e, rfl⟩
    · rename_i e; exact .inr ⟨e, hi⟩
  have hr : ∀ i, i ≠ n → upR ρ0 n (w.heap.size, 0) i = ρ0 i := fun i e => if_neg e
  have hrn : upR ρ0 n (w.heap.size, 0) n = (w.heap.size, 0) := if_pos rfl
  refine ⟨fun i c hi hv => ?_, fun i c hi hc => ?_, fun i j c d hi hc hj hd hji => ?_, fun ρ hρ i c hi => ?_, h.bel.alloc h.big _, Nat.le_trans h.big (by simp), fun i hi => ?_⟩
  · rcases hup i c hi with ⟨rfl, rfl⟩ | ⟨e, hi⟩
    · rw [hrn]; simp
    · rw [hr i e]; have := h.old i c hi hv; simp; omega
  · rcases hup i c hi with ⟨rfl, rfl⟩ | ⟨e, hi⟩
    · rw [hrn]; exact h.big
    · rw [hr i e]; exact h.own i c hi hc
  · rcases hup i c hi with ⟨rfl, rfl⟩ | ⟨e, hi1⟩ <;> rcases hup j d hj with ⟨rfl, rfl⟩ | ⟨e', hj1⟩
    · exact absurd rfl hji
    · rw [hrn, hr j e']; have := h.old j d hj1 hd; simp; omega
    · rw [hrn, hr i e]; have := h.old i c hi1 (own_live hc); simp; omega
    · rw [hr i e, hr j e']; exact h.apart i j c d hi1 hc hj1 hd hji
  · have hρ' : Agr hf ρ ρ0 := fun k hk => by
      obtain ⟨c', hc'⟩ := Option.isSome_iff_exists.1 hk
      have := hρ k (by unfold upF; rw [if_neg (hne k c' hc')]; exact hk)
      rw [this, hr k (hne k c' hc')]
    rcases hup i c hi with ⟨rfl, rfl⟩ | ⟨e, hi⟩
    · have hi' : ρ i = (w.heap.size, 0) := by rw [hρ i (by unfold upF; rw [if_pos rfl]; rfl), hrn]
      unfold Holds
      rw [hi', hL ρ hρ']
      have hk := heap_alloc_new w (.cells L.toArray c.ty)
      exact ⟨range_whole hk, fun _ => ⟨rfl, [], hro.2.symm, by rw [List.append_nil]; exact hk⟩⟩
    · refine (void_or c).elim (fun hv => Holds.void hv ρ i _) fun hv => (h.holds ρ hρ' i c hi).keep (Below.heap_alloc _ _ _ ?_)
      rw [hρ' i (by rw [hi]; rfl)]; exact h.old i c hi hv
  · obtain ⟨h1, h2⟩ := h.ext i hi
    have hin : i ≠ n := fun e => by rw [e, hn] at h1; cases h1
    rw [hr i hin]
    refine ⟨?_, h2⟩
    unfold upF; rw [if_neg hin]; exact h1
theorem range_head {w : World} {g : Nat} {cs t : List Value} {ty : TypeId} (h : w.heap[g]? = some (.cells (cs ++ t).toArray ty (0, 0))) : w.rangeAt g 0 cs := fun j v hv => by
  have hj := (List.getElem?_eq_some_iff.1 hv).1
  rw [Nat.zero_add, cell_of_row _ _ _ _ _ _ h]
  simp only [List.getElem?_toArray]
  rw [List.getElem?_append_left hj]; exact hv
/-- a block of the walk's own is written -/
theorem HRel.write {N : Nat} {w0 : Base} {hf : Nat → Option Blk} {ρ0 : Rho} {w w' : World} (h : HRel N w0 hf ρ0 w) {b : Nat} {blk c : Blk} (hb : hf b = some blk) (hro : blk.ro = false) (hcro : c.ro = false)
    (hother : ∀ k, k < w.heap.size → k ≠ (ρ0 b).1 → w'.heap[k]? = w.heap[k]?) (hbel : Below N w0.w w') (hsz : w.heap.size ≤ w'.heap.size)
    (hk : ∀ ρ, Agr hf ρ ρ0 → ∃ t : List Value, t.length = c.tl ∧ w'.heap[(ρ0 b).1]? = some (.cells (cellsL ρ c.cs ++ t).toArray c.ty (0, 0))) :
    HRel N w0 (upF hf b c) ρ0 w' := by
  have hup : ∀ i d, upF hf b c i = some d → (i = b ∧ d = c) ∨ (i ≠ b ∧ hf i = some d) := fun i d hi => by
    unfold upF at hi
    split at hi
    · rename_i e; cases hi; exact .inl ⟨e, rfl⟩
    · rename_i e; exact .inr ⟨e, hi⟩
  have hN := h.own b blk hb hro
  refine ⟨fun i d hi hv => ?_, fun i d hi hc => ?_, fun i j d e hi hc hj he hji => ?_, fun ρ hρ i d hi => ?_, hbel, Nat.le_trans h.big hsz, fun i hi => ?_⟩
  · rcases hup i d hi with ⟨rfl, rfl⟩ | ⟨e, hi⟩
    · exact Nat.lt_of_lt_of_le (h.old i blk hb (own_live hro)) hsz
    · exact Nat.lt_of_lt_of_le (h.old i d hi hv) hsz
  · rcases hup i d hi with ⟨rfl, rfl⟩ | ⟨e, hi⟩
    · exact hN
    · exact h.own i d hi hc
  · rcases hup i d hi with ⟨rfl, rfl⟩ | ⟨e1, hi1⟩ <;> rcases hup j e hj with ⟨rfl, rfl⟩ | ⟨e', hj1⟩
    · exact absurd rfl hji
    · exact h.apart i j blk e hb hro hj1 he hji
    · exact h.apart i j d blk hi1 hc hb (own_live hro) hji
    · exact h.apart i j d e hi1 hc hj1 he hji
  · have hρ' : Agr hf ρ ρ0 := fun k hk => hρ k (by unfold upF; split; rfl; exact hk)
    have hbb : ρ b = ρ0 b := hρ' b (by rw [hb]; rfl)
    rcases hup i d hi with ⟨rfl, rfl⟩ | ⟨e, hi⟩
    · unfold Holds
      have h0 := ((h.holds ρ hρ' i blk hb).2 hro).1
      obtain ⟨t, ht, hk⟩ := hk ρ hρ'
      rw [hbb] at h0 ⊢
      rw [h0]
      exact ⟨range_head hk, fun _ => ⟨rfl, t, ht, hk⟩⟩
    · refine (void_or d).elim (fun hv => Holds.void hv ρ i _) fun hv => (h.holds ρ hρ' i d hi).keep (hother _ ?_ ?_)
      · rw [hρ' i (by rw [hi]; rfl)]; exact h.old i d hi hv
      · rw [hρ' i (by rw [hi]; rfl)]
        exact h.apart b i blk d hb hro hi hv e
  · obtain ⟨h1, h2⟩ := h.ext i hi
    refine ⟨?_, h2⟩
    unfold upF; split
    · rfl
    · exact h1
theorem HRel.put {N : Nat} {w0 : Base} {hf : Nat → Option Blk} {ρ0 : Rho} {w : World} (h : HRel N w0 hf ρ0 w) {b off : Nat} {blk : Blk} {M : List Value} {cs : List C} (hb : hf b = some blk) (hro : blk.ro = false)
    (hk : ∀ ρ, Agr hf ρ ρ0 → ∃ t : List Value, t.length = blk.tl ∧ (w.setCells (ρ0 b).1 off M).heap[(ρ0 b).1]? = some (.cells (cellsL ρ cs ++ t).toArray blk.ty (0, 0))) :
    HRel N w0 (upF hf b { ty := blk.ty, ro := blk.ro, cs := cs, tl := blk.tl }) ρ0 (w.setCells (ρ0 b).1 off M) :=
  h.write hb hro hro (fun _ _ hne => sx_setCells_other hne _ _ _) (sx_setCells_below (h.own b blk hb hro) _ _ h.bel) (Nat.le_of_eq (sx_setCells_size _ _ _).symm) hk

theorem den_ofConst (v : Value) (ρ : Rho) : (ofConst v).den ρ = v := by
  unfold ofConst
  split
  · split <;> rfl
  · rename_i cs
    have : cellsL ρ (cs.toList.map .val) = cs.toList := by
      induction cs.toList with
      | nil => rfl
      | cons x l ih => rw [List.map_cons, cellsL_cons, ih]; rfl
    rw [den_agg, this]
  · rfl
theorem den_uv (ρ : Rho) : uv.den ρ = undef := rfl
theorem nth_den (ρ : Rho) (tm : List SV) (t : Nat) : (nth uv tm t).den ρ = ((tm.map (SV.den ρ))[t]?).getD undef := by
  rw [nth_eq]
  simp only [List.getElem?_map]
  cases tm[t]? <;> rfl
theorem eval_ok {a : Act} {tm : List SV} {ρ : Rho} (h : a.tmps.toList = tm.map (SV.den ρ)) : a.eval = evr (evm tm) ρ := by
  funext x
  cases x with
  | tmp t =>
    simp only [Act.eval, evr, evm, nth_den, ← h]
    simp
  | const v => simp only [Act.eval, evr, evm, den_ofConst]
  | global g => rfl
  | func f => rfl
theorem put_ok {a : Act} {tm : List SV} {ρ : Rho} (h : a.tmps.toList = tm.map (SV.den ρ)) (d : Option Tmp) (v : SV) {u : Value} (hu : u = v.den ρ) :
    (a.put d u).tmps.toList = (match d with | some t => tm.set t v | none => tm).map (SV.den ρ) := by
  subst hu
  cases d with
  | none => exact h
  | some t => simp [Act.put, h]
theorem put_defers (a : Act) (d : Option Tmp) (u : Value) : (a.put d u).defers = a.defers := by cases d <;> rfl
end Go.Proofs.YtefgchmbdijjdaaGreatDoor

namespace Go.Proofs.YtefgchmbdijjdaaGreatDoor
open Go.RowKit

/-- the state in symbols is what the world and the frame hold -/
def RelS (N : Nat) (w0 : Base) (tm : List SV) (hp : List Blk) (a : Act) (w : World) : Prop :=
  ∃ ρ0, HRel N w0 (nthO hp) ρ0 w ∧ (∀ ρ, Agr (nthO hp) ρ ρ0 → a.tmps.toList = tm.map (SV.den ρ)) ∧ a.defers = []
/-- operations by laws of their own -/
def OOk (P : Program) (O : Oper → List SV → List Blk → (List SV → List Blk → Prop) → Prop) : Prop :=
  ∀ o tm hp K, O o tm hp K → ∀ {N : Nat} {w0 : Base} {a : Act} {w : World} {next : Act → World → Prop} {Q : Exit → Act → World → Prop}, RelS N w0 tm hp a w →
    (∀ tm' hp' a' w', K tm' hp' → RelS N w0 tm' hp' a' w' → next a' w') → o.wp P a w next Q
/-- what is said of functions is true -/
structure EOk (P : Program) (E : Env) : Prop where
  T : TOk P E.T
  D : ∀ f args hf p v, E.D f args hf = some (p, v) → Callable P f ∧ (∀ ρ ρ', v.den ρ = v.den ρ') ∧ ((∀ q, p = some q → q) → ∀ ρ w, (∀ b blk, hf b = some blk → Holds ρ blk b w) →
    Calls P f (args.map (SV.den ρ)).toArray w fun e w' => e = .returned (v.den ρ) ∧ Below w.heap.size w w')
  O : OOk P E.O
def HOk (P : Program) (H : FuncId → List SV → List Blk → (SV → List Blk → Prop) → Prop) : Prop :=
  ∀ f args hp K, H f args hp K → Callable P f ∧ ∀ N w0 ρ0 w, HRel N w0 (nthO hp) ρ0 w → (∀ ρ, Agr (nthO hp) ρ ρ0 → args.map (SV.den ρ) = args.map (SV.den ρ0)) →
    Calls P f (args.map (SV.den ρ0)).toArray w fun e w' => ∃ v hp' ρ0', K v hp' ∧ HRel N w0 (nthO hp') ρ0' w' ∧ (∀ i, (nthO hp i).isSome = true → (nthO hp' i).isSome = true ∧ ρ0' i = ρ0 i) ∧ ∀ ρ, Agr (nthO hp') ρ ρ0' → e = .returned (v.den ρ)

theorem nthO_none {α : Type} (l : List α) : nthO l l.length = none := by rw [nthO_eq]; simp
theorem nthO_snoc {α : Type} (l : List α) (x : α) (i : Nat) : nthO (l ++ [x]) i = if i = l.length then some x else nthO l i := by
  rw [nthO_eq, nthO_eq]
  split
  · rename_i h; subst h; simp
  · rename_i h
    by_cases hi : i < l.length
    · rw [List.getElem?_append_left hi]
    · rw [List.getElem?_eq_none (by simp; omega), List.getElem?_eq_none (by omega)]
theorem nthO_snoc' (l : List Blk) (x : Blk) : nthO (l ++ [x]) = upF (nthO l) l.length x := by funext i; rw [nthO_snoc]; rfl
theorem nthO_set (l : List Blk) (n : Nat) (x y : Blk) (h : nthO l n = some y) : nthO (l.set n x) = upF (nthO l) n x := by
  funext i
  rw [nthO_eq] at h ⊢
  unfold upF
  rw [nthO_eq]
  have hn := (List.getElem?_eq_some_iff.1 h).1
  split
  · rename_i e; subst e; rw [List.getElem?_set_self hn]
  · rename_i e; rw [List.getElem?_set_ne (fun h => e h.symm)]
theorem Agr.sub {hf hg : Nat → Option Blk} {ρ ρ0 ρ1 : Rho} (h : Agr hg ρ ρ1) (hs : ∀ i, (hf i).isSome = true → (hg i).isSome = true ∧ ρ1 i = ρ0 i) : Agr hf ρ ρ0 := fun i hi => (h i (hs i hi).1).trans (hs i hi).2
theorem up_agr {hf : Nat → Option Blk} {ρ0 : Rho} {n : Nat} {b : Blk} {p : Nat × Nat} (hn : hf n = none) : ∀ i, (hf i).isSome = true → (upF hf n b i).isSome = true ∧ upR ρ0 n p i = ρ0 i := fun i hi => by
  have : i ≠ n := fun e => by rw [e, hn] at hi; cases hi
  unfold upF upR
  rw [if_neg this, if_neg this]
  exact ⟨hi, rfl⟩
theorem RelS.put {N : Nat} {w0 : Base} {tm : List SV} {hp hp' : List Blk} {a : Act} {w' : World} {ρ0 ρ1 : Rho} (ht : ∀ ρ, Agr (nthO hp) ρ ρ0 → a.tmps.toList = tm.map (SV.den ρ)) (hd : a.defers = [])
    (h : HRel N w0 (nthO hp') ρ1 w') (hs : ∀ i, (nthO hp i).isSome = true → (nthO hp' i).isSome = true ∧ ρ1 i = ρ0 i) (d : Option Tmp) {v : SV} {u : Value} (hu : ∀ ρ, Agr (nthO hp') ρ ρ1 → u = v.den ρ) :
    RelS N w0 (match d with | some t => tm.set t v | none => tm) hp' (a.put d u) w' :=
  ⟨ρ1, h, fun ρ hρ => put_ok (ht ρ (hρ.sub hs)) d v (hu ρ hρ), by rw [put_defers]; exact hd⟩

section
variable {P : Program} {E : Env} (hE : EOk P E) {H : FuncId → List SV → List Blk → (SV → List Blk → Prop) → Prop} (hH : HOk P H)
include hE hH
theorem vcOp_ok {N : Nat} {w0 : Base} {o : Oper} {tm : List SV} {hp : List Blk} {K : List SV → List Blk → Prop} (h : vcOp E H o tm hp K) {a : Act} {w : World} (hr : RelS N w0 tm hp a w)
    {next : Act → World → Prop} {Q : Exit → Act → World → Prop} (hn : ∀ tm' hp' a' w', K tm' hp' → RelS N w0 tm' hp' a' w' → next a' w') : o.wp P a w next Q := by
  obtain ⟨ρ0, hh, ht, hd⟩ := hr
  have hev : ∀ ρ, Agr (nthO hp) ρ ρ0 → a.eval = evr (evm tm) ρ := fun ρ hρ => eval_ok (ht ρ hρ)
  unfold vcOp at h
  split at h
  · rename_i v hv
    unfold Oper.wp
    rw [SV.force_eq, putK_eq] at h
    have hrun : ∀ ρ, Agr (nthO hp) ρ ρ0 → (execOp a.eval o).run P w = .ok (.value (v.den ρ)) w := fun ρ hρ => by
      rw [hev ρ hρ]; exact eff_val hE.T hv ρ w fun b blk hb => hh.holds ρ hρ b blk hb
    have h0 := hrun ρ0 (Agr.refl _ _)
    rw [h0]
    refine hn _ _ _ _ h (RelS.put ht hd hh (fun i hi => ⟨hi, rfl⟩) o.dst fun ρ hρ => ?_)
    have := hrun ρ hρ
    rw [h0] at this
    simpa using this
  · rename_i ty ro cs tl f hv
    unfold Oper.wp
    rw [forceL_eq, snocK_eq, lenK_eq, SV.force_eq, putK_eq] at h
    obtain ⟨val, h0, hro, hval⟩ := eff_new hE.T hv ρ0 w
    have hL : ∀ ρ, Agr (nthO hp) ρ ρ0 → cellsL ρ cs = cellsL ρ0 cs := fun ρ hρ => by
      obtain ⟨val', h1, -⟩ := eff_new hE.T hv ρ w
      rw [← hev ρ hρ] at h1
      rw [← hev ρ0 (Agr.refl _ _), h1] at h0
      simp only [Result.ok.injEq] at h0
      have := congrArg (fun W => W.heap[w.heap.size]?) h0.2
      simp only [heap_alloc_new] at this
      simpa using this
    have hnew := hh.new (nthO_none hp) hro hL
    rw [← hev ρ0 (Agr.refl _ _)] at h0
    rw [h0]
    refine hn _ _ _ _ h (RelS.put (ρ1 := upR ρ0 hp.length (w.heap.size, 0)) ht hd ?_ (fun i hi => ?_) o.dst fun ρ hρ => ?_)
    · rw [nthO_snoc']; exact hnew
    · rw [nthO_snoc']; exact up_agr (nthO_none hp) i hi
    · refine (hval ρ _ ?_).symm
      rw [hρ _ (by rw [nthO_snoc]; simp)]
      unfold upR; rw [if_pos rfl]
  · rename_i b cs hv
    unfold Oper.wp
    rw [forceL_eq] at h
    obtain ⟨blk, off, l, hb, hro, -, hrun⟩ := eff_put hE.T hv
    rw [hb] at h
    simp only [updK_eq, putK_eq] at h
    have key : ∀ ρ, Agr (nthO hp) ρ ρ0 → (execOp a.eval o).run P w = .ok .skip (w.setCells (ρ0 b).1 off (cellsL ρ l)) ∧ ∃ t : List Value, t.length = blk.tl ∧ (w.setCells (ρ0 b).1 off (cellsL ρ l)).heap[(ρ0 b).1]? = some (.cells (cellsL ρ cs ++ t).toArray blk.ty (0, 0)) := fun ρ hρ => by
      have := hrun ρ w (hh.holds ρ hρ b blk hb)
      rw [hρ b (by rw [hb]; rfl), ← hev ρ hρ] at this
      exact this
    obtain ⟨h0, -⟩ := key ρ0 (Agr.refl _ _)
    have hput := hh.put (cs := cs) (M := cellsL ρ0 l) (off := off) hb hro (fun ρ hρ => by
      obtain ⟨h1, hk1⟩ := key ρ hρ
      rw [h0] at h1
      simp only [Result.ok.injEq, true_and] at h1
      rw [h1]; exact hk1)
    rw [h0]
    refine hn _ _ _ _ h (RelS.put (ρ1 := ρ0) ht hd ?_ (fun i hi => ?_) o.dst fun ρ hρ => rfl)
    · rw [nthO_set _ _ _ blk hb]; exact hput
    · rw [nthO_set _ _ _ blk hb]; unfold upF; split
      · exact ⟨rfl, rfl⟩
      · exact ⟨hi, rfl⟩
  · split at h
    · rename_i c hc
      split at h
      · rename_i f args hcal
        unfold Oper.wp
        have hcall : ∀ (hf : Callable P f) ρ, Agr (nthO hp) ρ ρ0 → (execOp a.eval o).run P w = .ok (.enter f (args.map (SV.den ρ)).toArray) w := fun hf ρ hρ => by
          rw [hev ρ hρ]; exact run_call_sx hc hcal hf ρ w
        have func : ∀ p v, E.D f args (nthO hp) = some (p, v) → (∀ q, p = some q → q) → K (match o.dst with | some t => tm.set t v | none => tm) hp → o.upon P a next Q ((execOp a.eval o).run P w) := fun p v hD hp' hK => by
          obtain ⟨hf, hpure, hspec⟩ := hE.D f args _ p v hD
          rw [hcall hf ρ0 (Agr.refl _ _)]
          refine (hspec hp' ρ0 w fun b blk hb => hh.holds ρ0 (Agr.refl _ _) b blk hb).mono ?_
          rintro e w' ⟨rfl, hb⟩
          exact hn _ _ _ _ hK (RelS.put ht hd (hh.below hb) (fun i hi => ⟨hi, rfl⟩) o.dst fun ρ _ => hpure _ _)
        split at h
        · rename_i v hD
          rw [SV.force_eq, putK_eq] at h
          exact func _ _ hD (fun q hq => by cases hq) h
        · rename_i p v hD
          rw [SV.force_eq, putK_eq] at h
          exact func _ _ hD (fun q hq => by cases hq; exact h.1) h.2
        · obtain ⟨hf, hspec⟩ := hH f args hp _ h
          have hargs : ∀ ρ, Agr (nthO hp) ρ ρ0 → args.map (SV.den ρ) = args.map (SV.den ρ0) := fun ρ hρ => by
            have h1 := hcall hf ρ hρ
            rw [hcall hf ρ0 (Agr.refl _ _)] at h1
            simpa using h1.symm
          rw [hcall hf ρ0 (Agr.refl _ _)]
          refine (hspec N w0 ρ0 w hh hargs).mono ?_
          rintro e w' ⟨v, hp', ρ1, hK, hh', hs, he⟩
          rw [SV.force_eq, putK_eq] at hK
          have e0 := he ρ1 (Agr.refl _ _)
          subst e0
          exact hn _ _ _ _ hK (RelS.put ht hd hh' hs o.dst fun ρ hρ => by have := he ρ hρ; simpa using this)
      · exact hE.O o tm hp K h ⟨ρ0, hh, ht, hd⟩ hn
    · exact hE.O o tm hp K h ⟨ρ0, hh, ht, hd⟩ hn
omit hE hH in
theorem set_same {tm : List SV} {t : Nat} {x : SV} (h : nth uv tm t = x) (hx : x ≠ uv) : tm.set t x = tm := by
  rw [nth_eq] at h
  by_cases ht : t < tm.length
  · rw [List.getElem?_eq_getElem ht] at h
    simp only [Option.getD_some] at h
    subst h
    exact List.set_getElem_self ht
  · rw [List.getElem?_eq_none (by omega)] at h
    exact absurd h.symm hx
omit hE hH in
theorem bool_ne (b : Bool) : (SV.c (.val (.bool b))) ≠ uv := by unfold uv undef; intro h; cases h
omit hE hH in
theorem yielded_ok {all : Array Oper} {j : Nat} {t : Tmp} (hg : guardS all j = some t) {a : Act} {tm : List SV} {ρ : Rho} (h : a.tmps.toList = tm.map (SV.den ρ)) {b : Bool} (hb : nth uv tm t = .c (.val (.bool b))) :
    yielded all a.tmps j = some b := by
  unfold guardS at hg
  rw [nthO_eq] at hg
  split at hg
  · rename_i o ho
    have ho : all[j]? = some o := by simpa using ho
    unfold yielded
    simp only [ho, Option.bind_some, hg]
    have : a.tmps[t]? = some (.bool b) := by
      have e : a.tmps[t]? = a.tmps.toList[t]? := by simp
      rw [e, h, List.getElem?_map]
      rw [nth_eq] at hb
      cases htm : tm[t]? with
      | none => rw [htm] at hb; exact absurd hb.symm (bool_ne b)
      | some x => rw [htm] at hb; simp only [Option.getD_some] at hb; subst hb; rfl
    rw [this]
  · cases hg
omit hE hH in
theorem yielded_no {all : Array Oper} {j : Nat} {t : Tmp} (hg : guardS all j = some t) {a : Act} {tm : List SV} {ρ : Rho} (h : a.tmps.toList = tm.map (SV.den ρ)) {l : Array Value} (hb : nth uv tm t = .c (.val (.tuple l))) :
    yielded all a.tmps j = none := by
  unfold guardS at hg
  rw [nthO_eq] at hg
  split at hg
  · rename_i o ho
    have ho : all[j]? = some o := by simpa using ho
    unfold yielded
    simp only [ho, Option.bind_some, hg]
    have e : a.tmps[t]? = a.tmps.toList[t]? := by simp
    rw [e, h, List.getElem?_map]
    rw [nth_eq] at hb
    cases htm : tm[t]? with
    | none => rfl
    | some x => rw [htm] at hb; simp only [Option.getD_some] at hb; subst hb; rfl
  · cases hg
theorem vcOps_ok {N : Nat} {w0 : Base} {all : Array Oper} {K : List SV → List Blk → Prop} {Q : Exit → Act → World → Prop} (hQ : ∀ tm' hp' a' w', K tm' hp' → RelS N w0 tm' hp' a' w' → Q .normal a' w') :
    ∀ (os : List Oper) (tm : List SV) (hp : List Blk), vcOps E H all os tm hp K → ∀ a w, RelS N w0 tm hp a w → wpList P all Q os a w
  | [], tm, hp, h, a, w, hr => hQ _ _ _ _ h hr
  | o :: os, tm, hp, h, a, w, hr => by
    unfold vcOps at h
    unfold wpList
    split at h
    · rename_i hg
      rw [if_pos (by simp [Region.wanted, hg])]
      exact .inl (vcOp_ok hE hH h hr fun tm' hp' a' w' hK hr' => vcOps_ok hQ os tm' hp' hK a' w' hr')
    · rename_i j want hg
      split at h
      · rename_i t hgs
        split at h
        · rename_i b hb
          have hy : yielded all a.tmps j = some b := by
            obtain ⟨ρ0, -, ht, -⟩ := hr
            exact yielded_ok hgs (ht ρ0 (Agr.refl _ _)) hb
          have hw : Region.wanted o (yielded all a.tmps) = (b == want) := by
            unfold Region.wanted
            rw [hg]
            simp only [hy]
            cases b <;> cases want <;> rfl
          have run : vcOp E H o tm hp (fun tm hp => vcOps E H all os tm hp K) → o.wp P a w (wpList P all Q os) Q := fun h =>
            vcOp_ok hE hH h hr fun tm' hp' a' w' hK hr' => vcOps_ok hQ os tm' hp' hK a' w' hr'
          have skip : putK o.dst uv tm (fun tm => vcOps E H all os tm hp K) → wpList P all Q os (a.put o.dst undef) w := fun h => by
            rw [putK_eq] at h
            obtain ⟨ρ0, hh, ht, hd⟩ := hr
            exact vcOps_ok hQ os _ hp h _ _ (RelS.put ht hd hh (fun i hi => ⟨hi, rfl⟩) o.dst fun ρ _ => rfl)
          split at h
          · obtain ⟨h1, h2⟩ := bcase_of h
            rw [updK_eq] at h1 h2
            cases b with
            | true => rw [if_pos (by rw [hw]; rfl)]; exact .inl (run (by rw [set_same hb (bool_ne _)] at h1; exact h1 rfl))
            | false => rw [if_neg (by rw [hw]; simp)]; exact skip (by rw [set_same hb (bool_ne _)] at h2; exact h2 rfl)
          · obtain ⟨h1, h2⟩ := bcase_of h
            rw [updK_eq] at h1 h2
            cases b with
            | true => rw [if_neg (by rw [hw]; simp)]; exact skip (by rw [set_same hb (bool_ne _)] at h1; exact h1 rfl)
            | false => rw [if_pos (by rw [hw]; rfl)]; exact .inl (run (by rw [set_same hb (bool_ne _)] at h2; exact h2 rfl))
        · rename_i l hb
          have hy : yielded all a.tmps j = none := by
            obtain ⟨ρ0, -, ht, -⟩ := hr
            exact yielded_no hgs (ht ρ0 (Agr.refl _ _)) hb
          have hw : Region.wanted o (yielded all a.tmps) = false := by
            unfold Region.wanted
            rw [hg]
            simp only [hy]
            cases want <;> rfl
          rw [if_neg (by rw [hw]; simp)]
          rw [putK_eq] at h
          obtain ⟨ρ0, hh, ht, hd⟩ := hr
          exact vcOps_ok hQ os _ hp h _ _ (RelS.put ht hd hh (fun i hi => ⟨hi, rfl⟩) o.dst fun ρ _ => rfl)
        · cases h
      · cases h
end
end Go.Proofs.YtefgchmbdijjdaaGreatDoor

namespace Go.Proofs.YtefgchmbdijjdaaGreatDoor
open Go.RowKit

/-! what is asked of a region, once -/
/-- two operations, i ahead of j in the text -/
def pairOk (ops : Array Oper) (ms : List Nat) (i j : Nat) (a b : Oper) : Bool :=
  let bf := (nth 0 ms j).testBit i
  (match b.dst with | some t => (!(a.looksAt ops).contains t || bf) && a.dst != some t | none => true) &&
  (match a.dst with | some t => (!(b.looksAt ops).contains t || bf) | none => true) &&
  (!isStore b.op || bf || !isStore a.op) && (!isStore a.op || (!(reading b.op || isStore b.op) || bf && !reading b.op))
def pairsOk (ops : Array Oper) (ms : List Nat) (i : Nat) (a : Oper) : Nat → List Oper → Bool
  | _, [] => true
  | j, b :: bs => pairOk ops ms i j a b && pairsOk ops ms i a (j + 1) bs
def allPairs (ops : Array Oper) (ms : List Nat) : Nat → List Oper → Bool
  | _, [] => true
  | i, a :: l => pairsOk ops ms i a (i + 1) l && allPairs ops ms (i + 1) l
def edgesOk : Nat → List Oper → Bool
  | _, [] => true
  | i, o :: os => (o.after.toList.all fun e => !Region.binds .any e || decide (e.on < i)) && edgesOk (i + 1) os
def okDraw (ops : Array Oper) : Bool := edgesOk 0 ops.toList && allPairs ops (masksA ops.toList []) 0 ops.toList

theorem pairsOk_spec {ops : Array Oper} {ms : List Nat} {i : Nat} {a : Oper} : ∀ {l : List Oper} {j : Nat}, pairsOk ops ms i a j l = true → ∀ k b, l[k]? = some b → pairOk ops ms i (j + k) a b = true
  | [], _, _, k, b, hb => by simp at hb
  | x :: l, j, h, k, b, hb => by
    simp only [pairsOk, Bool.and_eq_true] at h
    cases k with
    | zero => simp at hb; subst hb; exact h.1
    | succ k =>
      have := pairsOk_spec h.2 k b (by simpa using hb)
      rw [show j + 1 + k = j + (k + 1) by omega] at this
      exact this
theorem allPairs_spec {ops : Array Oper} {ms : List Nat} : ∀ {l : List Oper} {i : Nat}, allPairs ops ms i l = true → ∀ k m a b, l[k]? = some a → l[m]? = some b → k < m → pairOk ops ms (i + k) (i + m) a b = true
  | [], _, _, k, m, a, b, ha, _, _ => by simp at ha
  | x :: l, i, h, k, m, a, b, ha, hb, hkm => by
    simp only [allPairs, Bool.and_eq_true] at h
    cases m with
    | zero => omega
    | succ m =>
      cases k with
      | zero =>
        simp at ha; subst ha
        have := pairsOk_spec h.1 m b (by simpa using hb)
        rw [show i + 1 + m = i + (m + 1) by omega] at this
        exact this
      | succ k =>
        have := allPairs_spec h.2 k m a b (by simpa using ha) (by simpa using hb) (by omega)
        rw [show i + 1 + k = i + (k + 1) by omega, show i + 1 + m = i + (m + 1) by omega] at this
        exact this
theorem edgesOk_spec : ∀ {l : List Oper} {i : Nat}, edgesOk i l = true → ∀ k o, l[k]? = some o → ∀ e ∈ o.after, Region.binds .any e = true → e.on < i + k
  | [], _, _, k, o, ho, _, _, _ => by simp at ho
  | x :: l, i, h, k, o, ho, e, he, hb => by
    simp only [edgesOk, Bool.and_eq_true, List.all_eq_true, Bool.or_eq_true, Bool.not_eq_true', decide_eq_true_eq] at h
    cases k with
    | zero =>
      simp at ho; subst ho
      rcases h.1 e (by simpa using he) with h1 | h1
      · rw [hb] at h1; cases h1
      · simpa using h1
    | succ k =>
      have := edgesOk_spec h.2 k o (by simpa using ho) e he hb
      omega
theorem maskOf_spec {D : Nat → Prop} {acc : List Nat} (ih : ∀ k, D k → ∀ i, (nth 0 acc k).testBit i = true → D i) : ∀ {es : List Edge}, (∀ e ∈ es, Region.binds .any e = true → D e.on) → ∀ i, (maskOf es acc).testBit i = true → D i
  | [], _, i, h => by simp [maskOf] at h
  | e :: es, hes, i, h => by
    simp only [maskOf, Nat.testBit_or, Bool.or_eq_true] at h
    rcases h with h | h
    · split at h
      · rename_i hb
        have hd := hes e (by simp) hb
        simp only [Nat.testBit_or, Bool.or_eq_true, Nat.testBit_two_pow, decide_eq_true_eq] at h
        rcases h with h | h
        · exact h ▸ hd
        · exact ih _ hd i h
      · simp at h
    · exact maskOf_spec ih (fun e he => hes e (by simp [he])) i h
theorem nth_snoc {α : Type} (d : α) (l : List α) (x : α) (k : Nat) : nth d (l ++ [x]) k = if k = l.length then x else nth d l k := by
  rw [nth_eq, nth_eq]
  split
  · rename_i h; subst h; simp
  · rename_i h
    by_cases hi : k < l.length
    · rw [List.getElem?_append_left hi]
    · rw [List.getElem?_eq_none (by simp; omega), List.getElem?_eq_none (by omega)]
/-- what waits for another through others waits for it -/
theorem masksA_spec {D : Nat → Prop} : ∀ (l : List Oper) (acc : List Nat), (∀ k, D k → ∀ i, (nth 0 acc k).testBit i = true → D i) →
    (∀ k o, l[k]? = some o → D (acc.length + k) → ∀ e ∈ o.after, Region.binds .any e = true → D e.on) → ∀ k, D k → ∀ i, (nth 0 (masksA l acc) k).testBit i = true → D i
  | [], _, ih, _, k, hk, i, h => ih k hk i h
  | o :: l, acc, ih, hc, k, hk, i, h => by
    refine masksA_spec l (acc ++ [maskOf o.after.toList acc]) (fun k hk i h => ?_) (fun k o' ho hd => ?_) k hk i h
    · rw [nth_snoc] at h
      split at h
      · rename_i e
        subst e
        exact maskOf_spec ih (fun e he hb => hc 0 o rfl hk e (by simpa using he) hb) i h
      · exact ih k hk i h
    · refine hc (k + 1) o' (by simpa using ho) ?_
      simp only [List.length_append, List.length_singleton] at hd
      rw [show acc.length + (k + 1) = acc.length + 1 + k by omega]
      exact hd

/-! the run in the text's order -/
structure S where
  al : List (Nat × Nat)
  tm : List SV
  hp : List Blk
inductive Ev where
  | skip
  | val (v : SV)
  | new (b : Blk) (n : Nat) (v : SV)
  | put (b : Nat) (c : Blk)
def Ev.v : Ev → SV
  | .skip => uv
  | .val v => v
  | .new _ _ v => v
  | .put _ _ => uv
def dput (d : Option Tmp) (v : SV) (tm : List SV) : List SV := match d with | some t => tm.set t v | none => tm
def Wanted (all : Array Oper) (o : Oper) (tm : List SV) : Prop :=
  ∀ j want, o.guard = some (j, want) → ∃ t, guardS all j = some t ∧ nth uv tm t = .c (.val (.bool want))
def Unwanted (all : Array Oper) (o : Oper) (tm : List SV) : Prop :=
  ∃ j want, o.guard = some (j, want) ∧ ∃ t, guardS all j = some t ∧ nth uv tm t = .c (.val (.bool (!want)))
def StepR (E : Env) (all : Array Oper) (hp0 : List Blk) (o : Oper) (i : Nat) (s : S) (e : Ev) (s' : S) : Prop :=
  s'.tm = dput o.dst e.v s.tm ∧
  match e with
  | .skip => Unwanted all o s.tm ∧ s'.hp = s.hp ∧ s'.al = s.al
  | .val v => Wanted all o s.tm ∧ isStore o.op = false ∧ s'.hp = s.hp ∧ s'.al = s.al ∧ (eff E.T o.op (evm s.tm) (hfR hp0.length o s.al s.hp) = some (.val v) ∨
      ∃ c f args p, o.op = .call c ∧ callee (evm s.tm) c = some (f, args) ∧ E.D f args (hfR hp0.length o s.al s.hp) = some (p, v) ∧ ∀ q, p = some q → q)
  | .new b n v => Wanted all o s.tm ∧ isStore o.op = false ∧ n = s.hp.length ∧ s'.hp = s.hp ++ [b] ∧ s'.al = (n, i) :: s.al ∧ ∃ f, eff E.T o.op (evm s.tm) (hfR hp0.length o s.al s.hp) = some (.new b f) ∧ v = f n
  | .put b c => Wanted all o s.tm ∧ isStore o.op = true ∧ s'.hp = s.hp.set b c ∧ s'.al = s.al ∧ ∃ blk cs, nthO s.hp b = some blk ∧ c = { ty := blk.ty, ro := blk.ro, cs := cs, tl := blk.tl } ∧
      eff E.T o.op (evm s.tm) (nthO s.hp) = some (.put b cs) ∧ (b < hp0.length ∨ ∃ j, lkN s.al b = some j ∧ waits o j = true) ∧
      ∀ j a, all[j]? = some a → j < i → reading a.op = true → (nth 0 (masksA all.toList []) i).testBit j = true ∨ (hp0.length ≤ b ∧ ∃ k, lkN s.al b = some k ∧ waits a k = false)
theorem lateL_spec {ms : List Nat} {al : List (Nat × Nat)} {b n0 i : Nat} : ∀ {l : List Oper} {j : Nat}, lateL ms al b n0 i j l = true → ∀ m a, l[m]? = some a → j + m < i → reading a.op = true → (nth 0 ms i).testBit (j + m) = true ∨ (n0 ≤ b ∧ ∃ k, lkN al b = some k ∧ waits a k = false)
  | [], _, _, m, a, ha, _, _ => by simp at ha
  | x :: l, j, h, m, a, ha, hm, hr => by
    simp only [lateL, Bool.and_eq_true] at h
    cases m with
    | zero =>
      simp at ha; subst ha
      have h := h.1
      simp only [hr, Bool.not_true, Bool.or_eq_true, decide_eq_true_eq, Bool.and_eq_true] at h
      rcases h with ((h | h) | h) | ⟨h1, h2⟩
      · omega
      · cases h
      · exact .inl h
      · split at h2
        · rename_i k hk; exact .inr ⟨h1, k, hk, by simpa using h2⟩
        · cases h2
    | succ m =>
      have := lateL_spec h.2 m a (by simpa using ha) (by omega) hr
      rw [show j + 1 + m = j + (m + 1) by omega] at this
      exact this
theorem vcDop_step {E : Env} {all : Array Oper} {hp0 : List Blk} {o : Oper} {i : Nat} {al : List (Nat × Nat)} {tm : List SV} {hp : List Blk} {K : List (Nat × Nat) → List SV → List Blk → Prop}
    (h : vcDop E all hp0 o i al tm hp K) (hw : Wanted all o tm) : ∃ e s', StepR E all hp0 o i ⟨al, tm, hp⟩ e s' ∧ K s'.al s'.tm s'.hp := by
  unfold vcDop at h
  split at h
  · rename_i hs
    split at h
    · rename_i b cs hv
      split at h
      · rename_i hc
        rw [forceL_eq] at h
        split at h
        · rename_i ty ro cs0 tl hb
          rw [updK_eq, putK_eq] at h
          refine ⟨.put b ⟨ty, ro, cs, tl⟩, ⟨al, dput o.dst uv tm, hp.set b ⟨ty, ro, cs, tl⟩⟩, ⟨rfl, hw, hs, rfl, rfl, ⟨ty, ro, cs0, tl⟩, cs, hb, rfl, hv, ?_, fun j a ha hj hr => ?_⟩, h⟩
          rotate_left
          · have := lateL_spec (Bool.and_eq_true _ _ ▸ hc).2 j a (by simpa using ha) (by omega) hr
            rw [Nat.zero_add] at this
            exact this
          have hc := (Bool.and_eq_true _ _ ▸ hc).1
          unfold okPut at hc
          simp only [Bool.or_eq_true, decide_eq_true_eq] at hc
          rcases hc with hc | hc
          · exact .inl hc
          · split at hc
            · rename_i j hj; exact .inr ⟨j, hj, hc⟩
            · cases hc
        · cases h
      · cases h
    · cases h
  · rename_i hs
    split at h
    · rename_i v hv
      rw [SV.force_eq, putK_eq] at h
      exact ⟨.val v, ⟨al, dput o.dst v tm, hp⟩, ⟨rfl, hw, hs, rfl, rfl, .inl hv⟩, h⟩
    · rename_i ty ro cs tl f hv
      rw [forceL_eq, snocK_eq, lenK_eq, SV.force_eq, putK_eq] at h
      exact ⟨.new ⟨ty, ro, cs, tl⟩ hp.length (f hp.length), ⟨(hp.length, i) :: al, dput o.dst (f hp.length) tm, hp ++ [(⟨ty, ro, cs, tl⟩ : Blk)]⟩, ⟨rfl, hw, hs, rfl, rfl, rfl, f, hv, rfl⟩, h⟩
    · cases h
    · split at h
      · rename_i c hc
        split at h
        · rename_i f args hcal
          split at h
          · rename_i v hD
            rw [SV.force_eq, putK_eq] at h
            exact ⟨.val v, ⟨al, dput o.dst v tm, hp⟩, ⟨rfl, hw, hs, rfl, rfl, .inr ⟨c, f, args, none, hc, hcal, hD, fun q hq => by cases hq⟩⟩, h⟩
          · rename_i p v hD
            rw [SV.force_eq, putK_eq] at h
            exact ⟨.val v, ⟨al, dput o.dst v tm, hp⟩, ⟨rfl, hw, hs, rfl, rfl, .inr ⟨c, f, args, some p, hc, hcal, hD, fun q hq => by cases hq; exact h.1⟩⟩, h.2⟩
          · cases h
        · cases h
      · cases h
theorem vcDs_step {E : Env} {all : Array Oper} {hp0 : List Blk} {o : Oper} {os : List Oper} {i : Nat} {al : List (Nat × Nat)} {tm : List SV} {hp : List Blk} {K : List SV → List Blk → Prop}
    (h : vcDs E all hp0 (o :: os) i al tm hp K) : ∃ e s', StepR E all hp0 o i ⟨al, tm, hp⟩ e s' ∧ vcDs E all hp0 os (i + 1) s'.al s'.tm s'.hp K := by
  unfold vcDs at h
  split at h
  · rename_i hg
    exact vcDop_step h fun j want hj => by rw [hg] at hj; cases hj
  · rename_i j want hg
    split at h
    · rename_i t hgs
      split at h
      · rename_i b hb
        have run : b = want → vcDop E all hp0 o i al tm hp (fun al tm hp => vcDs E all hp0 os (i + 1) al tm hp K) → ∃ e s', StepR E all hp0 o i ⟨al, tm, hp⟩ e s' ∧ vcDs E all hp0 os (i + 1) s'.al s'.tm s'.hp K := fun e h =>
          vcDop_step h fun j' want' hj => by rw [hg] at hj; cases hj; exact ⟨t, hgs, by rw [hb, e]⟩
        have skip : b = (!want) → putK o.dst uv tm (fun tm => vcDs E all hp0 os (i + 1) al tm hp K) → ∃ e s', StepR E all hp0 o i ⟨al, tm, hp⟩ e s' ∧ vcDs E all hp0 os (i + 1) s'.al s'.tm s'.hp K := fun e h => by
          rw [putK_eq] at h
          exact ⟨.skip, ⟨al, dput o.dst uv tm, hp⟩, ⟨rfl, ⟨j, want, hg, t, hgs, by rw [hb, e]⟩, rfl, rfl⟩, h⟩
        split at h
        · obtain ⟨h1, h2⟩ := bcase_of h
          rw [updK_eq] at h1 h2
          cases b with
          | true => exact run rfl (by rw [set_same hb (bool_ne _)] at h1; exact h1 rfl)
          | false => exact skip rfl (by rw [set_same hb (bool_ne _)] at h2; exact h2 rfl)
        · obtain ⟨h1, h2⟩ := bcase_of h
          rw [updK_eq] at h1 h2
          cases b with
          | true => exact skip rfl (by rw [set_same hb (bool_ne _)] at h1; exact h1 rfl)
          | false => exact run rfl (by rw [set_same hb (bool_ne _)] at h2; exact h2 rfl)
      · cases h
    · cases h
theorem vcDs_trace {E : Env} {all : Array Oper} {hp0 : List Blk} {K : List SV → List Blk → Prop} : ∀ (os : List Oper) (i : Nat) (s : S), vcDs E all hp0 os i s.al s.tm s.hp K →
    ∃ (f : Nat → S) (ev : Nat → Ev), f 0 = s ∧ (∀ k o, os[k]? = some o → StepR E all hp0 o (i + k) (f k) (ev k) (f (k + 1))) ∧ K (f os.length).tm (f os.length).hp
  | [], i, s, h => ⟨fun _ => s, fun _ => .skip, rfl, fun k o ho => by simp at ho, h⟩
  | o :: os, i, s, h => by
    obtain ⟨e, s', hst, h'⟩ := vcDs_step h
    obtain ⟨f, ev, h0, hs, hK⟩ := vcDs_trace os (i + 1) s' h'
    refine ⟨fun k => match k with | 0 => s | k + 1 => f k, fun k => match k with | 0 => e | k + 1 => ev k, rfl, fun k o' ho => ?_, hK⟩
    cases k with
    | zero =>
      simp at ho
      subst ho
      show StepR E all hp0 o (i + 0) s e (f 0)
      rw [h0]; exact hst
    | succ k =>
      have := hs k o' (by simpa using ho)
      rw [show i + 1 + k = i + (k + 1) by omega] at this
      exact this
end Go.Proofs.YtefgchmbdijjdaaGreatDoor

namespace Go.Proofs.YtefgchmbdijjdaaGreatDoor
open Go.RowKit

def Ev.key : Ev → Option (Nat × Blk)
  | .new b n _ => some (n, b)
  | .put b c => some (b, c)
  | _ => none
def appH (e : Ev) (h : Nat → Option Blk) : Nat → Option Blk := match e.key with | some p => upF h p.1 p.2 | none => h
def dstOf (ops : Array Oper) (k : Nat) : Option Tmp := (ops[k]?).bind (·.dst)
open Classical in
noncomputable def tmL (ops : Array Oper) (ev : Nat → Ev) (tm0 : List SV) (D : Nat → Prop) : Nat → List SV
  | 0 => tm0
  | k + 1 => if D k then dput (dstOf ops k) (ev k).v (tmL ops ev tm0 D k) else tmL ops ev tm0 D k
open Classical in
noncomputable def hpL (ev : Nat → Ev) (h0 : Nat → Option Blk) (D : Nat → Prop) : Nat → Nat → Option Blk
  | 0 => h0
  | k + 1 => if D k then appH (ev k) (hpL ev h0 D k) else hpL ev h0 D k
section
variable {ops : Array Oper} {ev : Nat → Ev} {tm0 : List SV} {h0 : Nat → Option Blk}
theorem dput_length (d : Option Tmp) (v : SV) (l : List SV) : (dput d v l).length = l.length := by cases d <;> simp [dput]
theorem tmL_length (D : Nat → Prop) : ∀ k, (tmL ops ev tm0 D k).length = tm0.length
  | 0 => rfl
  | k + 1 => by unfold tmL; split <;> simp [dput_length, tmL_length D k]
theorem nth_set {α : Type} (d : α) (l : List α) (t u : Nat) (v : α) : nth d (l.set t v) u = if t = u ∧ t < l.length then v else nth d l u := by
  rw [nth_eq, nth_eq]
  by_cases h : t = u
  · subst h
    by_cases ht : t < l.length
    · rw [if_pos ⟨rfl, ht⟩, List.getElem?_set_self ht]; rfl
    · rw [if_neg (fun h => ht h.2), List.set_eq_of_length_le (by omega)]
  · rw [if_neg (fun e => h e.1), List.getElem?_set_ne h]
theorem tmL_same {D D2 : Nat → Prop} (t : Nat) : ∀ k, (∀ j, j < k → dstOf ops j = some t → (D j ↔ D2 j)) → nth uv (tmL ops ev tm0 D k) t = nth uv (tmL ops ev tm0 D2 k) t
  | 0, _ => rfl
  | k + 1, h => by
    have ih := tmL_same t k (fun j hj => h j (by omega))
    have hk := h k (by omega)
    unfold tmL
    cases hd : dstOf ops k with
    | none => simp only [dput, ite_self]; exact ih
    | some u =>
      by_cases hu : u = t
      · subst hu
        have := hk hd
        by_cases h1 : D k
        · rw [if_pos h1, if_pos (this.1 h1)]
          simp only [dput, nth_set, tmL_length]
          split
          · rfl
          · exact ih
        · rw [if_neg h1, if_neg (fun h => h1 (this.2 h))]; exact ih
      · have e : ∀ D : Nat → Prop, nth uv (dput (some u) (ev k).v (tmL ops ev tm0 D k)) t = nth uv (tmL ops ev tm0 D k) t := fun D => by
          simp only [dput, nth_set]; rw [if_neg (fun h => hu h.1)]
        split <;> split <;> (try simp only [e]) <;> exact ih
theorem hpL_same {D D2 : Nat → Prop} (b : Nat) : ∀ k, (∀ j p, j < k → (ev j).key = some p → p.1 = b → (D j ↔ D2 j)) → hpL ev h0 D k b = hpL ev h0 D2 k b
  | 0, _ => rfl
  | k + 1, h => by
    have ih := hpL_same b k (fun j p hj => h j p (by omega))
    have hk := fun p => h k p (by omega)
    unfold hpL appH
    cases hd : (ev k).key with
    | none => simp only [ite_self]; exact ih
    | some p =>
      by_cases hu : p.1 = b
      · have := hk p hd hu
        by_cases h1 : D k
        · rw [if_pos h1, if_pos (this.1 h1)]; simp [upF, hu]
        · rw [if_neg h1, if_neg (fun h => h1 (this.2 h))]; exact ih
      · have e : ∀ D : Nat → Prop, upF (hpL ev h0 D k) p.1 p.2 b = hpL ev h0 D k b := fun D => by unfold upF; rw [if_neg (fun h => hu h.symm)]
        by_cases h1 : D k <;> by_cases h2 : D2 k <;> simp only [h1, h2, if_true, if_false, e] <;> exact ih
theorem dput_comm {d e : Option Tmp} {u v : SV} {l : List SV} (h : ∀ t, d = some t → e ≠ some t) : dput d u (dput e v l) = dput e v (dput d u l) := by
  cases d with
  | none => rfl
  | some t =>
    cases e with
    | none => rfl
    | some s =>
      have : t ≠ s := fun e => h t rfl (e ▸ rfl)
      exact List.set_comm _ _ (fun e => this e.symm)
theorem tmL_insert {D : Nat → Prop} {i : Nat} (hi : ¬ D i) : ∀ k, i < k → (∀ j, i < j → j < k → D j → ∀ t, dstOf ops j = some t → dstOf ops i ≠ some t) →
    tmL ops ev tm0 (fun j => D j ∨ j = i) k = dput (dstOf ops i) (ev i).v (tmL ops ev tm0 D k) := by
  intro k
  induction k with
  | zero => intro h; omega
  | succ k ih =>
    intro hik hj
    have low : ∀ m, m ≤ i → tmL ops ev tm0 (fun j => D j ∨ j = i) m = tmL ops ev tm0 D m := by
      intro m
      induction m with
      | zero => intro _; rfl
      | succ m ihm =>
        intro hm
        unfold tmL
        rw [ihm (by omega)]
        by_cases h1 : D m
        · rw [if_pos (Or.inl h1), if_pos h1]
        · rw [if_neg (fun h => h.elim h1 (fun e => by omega)), if_neg h1]
    rcases Nat.lt_or_ge i k with hlt | hge
    · have ih' := ih hlt (fun j h1 h2 => hj j h1 (by omega))
      unfold tmL
      rw [ih']
      by_cases h1 : D k
      · rw [if_pos (Or.inl h1), if_pos h1, dput_comm (hj k hlt (by omega) h1)]
      · rw [if_neg (fun h => h.elim h1 (fun e => by omega)), if_neg h1]
    · have : k = i := by omega
      subst this
      unfold tmL
      rw [if_pos (Or.inr rfl), if_neg hi, low k (Nat.le_refl _)]
theorem appH_comm {e d : Ev} {h : Nat → Option Blk} (hne : ∀ p q, e.key = some p → d.key = some q → p.1 ≠ q.1) : appH e (appH d h) = appH d (appH e h) := by
  unfold appH
  cases he : e.key with
  | none => cases hd : d.key <;> rfl
  | some p =>
    cases hd : d.key with
    | none => rfl
    | some q =>
      have := hne p q he hd
      funext x
      simp only [upF]
      by_cases h1 : x = p.1
      · subst h1; simp [this]
      · simp [h1]
theorem hpL_insert {D : Nat → Prop} {i : Nat} (hi : ¬ D i) : ∀ k, i < k → (∀ j, i < j → j < k → D j → ∀ p q, (ev j).key = some p → (ev i).key = some q → p.1 ≠ q.1) →
    hpL ev h0 (fun j => D j ∨ j = i) k = appH (ev i) (hpL ev h0 D k) := by
  intro k
  induction k with
  | zero => intro h; omega
  | succ k ih =>
    intro hik hj
    have low : ∀ m, m ≤ i → hpL ev h0 (fun j => D j ∨ j = i) m = hpL ev h0 D m := by
      intro m
      induction m with
      | zero => intro _; rfl
      | succ m ihm =>
        intro hm
        unfold hpL
        rw [ihm (by omega)]
        by_cases h1 : D m
        · rw [if_pos (Or.inl h1), if_pos h1]
        · rw [if_neg (fun h => h.elim h1 (fun e => by omega)), if_neg h1]
    rcases Nat.lt_or_ge i k with hlt | hge
    · have ih' := ih hlt (fun j h1 h2 => hj j h1 (by omega))
      unfold hpL
      rw [ih']
      by_cases h1 : D k
      · rw [if_pos (Or.inl h1), if_pos h1, appH_comm (hj k hlt (by omega) h1)]
      · rw [if_neg (fun h => h.elim h1 (fun e => by omega)), if_neg h1]
    · have : k = i := by omega
      subst this
      unfold hpL
      rw [if_pos (Or.inr rfl), if_neg hi, low k (Nat.le_refl _)]
theorem tmL_past {D : Nat → Prop} {i : Nat} : ∀ k, i ≤ k → (∀ j, i ≤ j → ¬ D j) → tmL ops ev tm0 D k = tmL ops ev tm0 D i
  | 0, h, _ => by have : i = 0 := by omega
                  subst this; rfl
  | k + 1, h, hD => by
    rcases Nat.lt_or_ge i (k + 1) with h1 | h1
    · rw [tmL, if_neg (hD k (by omega))]
      exact tmL_past k (by omega) hD
    · have : i = k + 1 := by omega
      subst this; rfl
end
/-- what a look at a region tells -/
def bf (ops : Array Oper) (j i : Nat) : Prop := (nth 0 (masksA ops.toList []) j).testBit i = true
def Closed (ops : Array Oper) (D : Nat → Prop) : Prop := ∀ k o, ops[k]? = some o → D k → ∀ e ∈ o.after, Region.binds .any e = true → D e.on
theorem Closed.bf {ops : Array Oper} {D : Nat → Prop} (h : Closed ops D) {j i : Nat} (hj : D j) (hb : bf ops j i) : D i :=
  masksA_spec (D := D) ops.toList [] (fun k _ i h => by simp [nth] at h) (fun k o ho hd e he hb => h k o (by simpa using ho) (by simpa using hd) e he hb) j hj i hb
theorem Closed.ready {ops : Array Oper} {D : Nat → Prop} (h : Closed ops D) {i : Nat} {o : Oper} (ho : ops[i]? = some o) (hr : ∀ e ∈ o.after, Region.binds .any e = true → D e.on) : Closed ops (fun j => D j ∨ j = i) := by
  intro k o' ho' hk e he hb
  rcases hk with hk | rfl
  · exact .inl (h k o' ho' hk e he hb)
  · rw [ho] at ho'; cases ho'; exact .inl (hr e he hb)
section
variable {ops : Array Oper} (hok : okDraw ops = true)
include hok
theorem draw_edges {k : Nat} {o : Oper} (ho : ops[k]? = some o) {e : Edge} (he : e ∈ o.after) (hb : Region.binds .any e = true) : e.on < k := by
  unfold okDraw at hok
  rw [Bool.and_eq_true] at hok
  have := edgesOk_spec hok.1 k o (by simpa using ho) e he hb
  omega
theorem draw_pair {i j : Nat} (hij : i < j) {a b : Oper} (ha : ops[i]? = some a) (hb : ops[j]? = some b) :
    (∀ t, b.dst = some t → (t ∈ a.looksAt ops → bf ops j i) ∧ a.dst ≠ some t) ∧ (∀ t, a.dst = some t → t ∈ b.looksAt ops → bf ops j i) ∧
    (isStore b.op = true → isStore a.op = true → bf ops j i) ∧ (isStore a.op = true → reading b.op = true → False) := by
  unfold okDraw at hok
  rw [Bool.and_eq_true] at hok
  have h := allPairs_spec hok.2 i j a b (by simpa using ha) (by simpa using hb) hij
  rw [Nat.zero_add, Nat.zero_add] at h
  unfold pairOk at h
  simp only [Bool.and_eq_true] at h
  obtain ⟨⟨⟨h1, h2⟩, h3⟩, h4⟩ := h
  refine ⟨fun t ht => ?_, fun t ht hl => ?_, fun hs hr => ?_, fun hs hr => ?_⟩
  · rw [ht] at h1
    simp only [Bool.and_eq_true, Bool.or_eq_true, Bool.not_eq_true', bne_iff_ne, ne_eq] at h1
    refine ⟨fun hl => ?_, h1.2⟩
    rcases h1.1 with h | h
    · rw [List.contains_iff_mem.2 hl] at h; cases h
    · exact h
  · rw [ht] at h2
    simp only [Bool.or_eq_true, Bool.not_eq_true'] at h2
    rcases h2 with h | h
    · rw [List.contains_iff_mem.2 hl] at h; cases h
    · exact h
  · rw [hs, hr] at h3
    simp only [Bool.not_true, Bool.false_or, Bool.or_false] at h3
    exact h3
  · rw [hs, hr] at h4
    simp at h4
theorem draw_bf_lt {i j : Nat} (h : bf ops j i) : i < j ∨ ops.size ≤ j := by
  rcases Nat.lt_or_ge j ops.size with hj | hj
  · left
    have hc : Closed ops (fun k => k < j) := fun k o ho hk e he hb => Nat.lt_trans (draw_edges hok ho he hb) hk
    have hc' := hc.ready (Array.getElem?_eq_getElem hj) (fun e he hb => draw_edges hok (Array.getElem?_eq_getElem hj) he hb)
    rcases hc'.bf (.inr rfl) h with h1 | h1
    · exact h1
    · exfalso
      subst h1
      -- an operation does not wait for itself
      have key : ∀ (l : List Oper) (acc : List Nat), (∀ k i, (nth 0 acc k).testBit i = true → i < k) → (∀ k o, l[k]? = some o → ∀ e ∈ o.after, Region.binds .any e = true → e.on < acc.length + k) →
          ∀ k i, (nth 0 (masksA l acc) k).testBit i = true → i < k := by
        intro l
        induction l with
        | nil => intro acc h _; exact h
        | cons o l ih =>
          intro acc h1 h2
          refine ih _ (fun k i h => ?_) (fun k o' ho e he hb => ?_)
          · rw [nth_snoc] at h
            split at h
            · rename_i e
              subst e
              refine maskOf_spec (D := fun i => i < acc.length) (fun k hk i h => Nat.lt_trans (h1 k i h) hk) (fun e he hb => ?_) i h
              have := h2 0 o rfl e (by simpa using he) hb
              omega
            · exact h1 k i h
          · have := h2 (k + 1) o' (by simpa using ho) e he hb
            simp; omega
      have := key ops.toList [] (fun k i h => by simp [nth] at h) (fun k o ho e he hb => by simpa using draw_edges hok (by simpa using ho) he hb) _ _ h
      omega
  · exact .inr hj
end
end Go.Proofs.YtefgchmbdijjdaaGreatDoor

namespace Go.Proofs.YtefgchmbdijjdaaGreatDoor
open Go.RowKit

theorem eff_blind {T : TypeId → Option TI} {op : Op} (h1 : reading op = false) (h2 : isStore op = false) (ev : Operand → SV) (hp hq : Nat → Option Blk) : eff T op ev hp = eff T op ev hq := by
  cases op <;> first | rfl | (simp [reading] at h1; done) | (simp [isStore] at h2; done)
theorem hpL_past {ev : Nat → Ev} {h0 : Nat → Option Blk} {D : Nat → Prop} {i : Nat} : ∀ k, i ≤ k → (∀ j, i ≤ j → ¬ D j) → hpL ev h0 D k = hpL ev h0 D i
  | 0, h, _ => by have : i = 0 := by omega
                  subst this; rfl
  | k + 1, h, hD => by
    rcases Nat.lt_or_ge i (k + 1) with h1 | h1
    · rw [hpL, if_neg (hD k (by omega))]
      exact hpL_past k (by omega) hD
    · have : i = k + 1 := by omega
      subst this; rfl
theorem hpL_none {ev : Nat → Ev} {h0 : Nat → Option Blk} (k : Nat) : hpL ev h0 (fun _ => False) k = h0 := hpL_past k (Nat.zero_le _) (fun _ _ h => h)

section
variable {P : Program} {E : Env} (hE : EOk P E) {ops : Array Oper} (hok : okDraw ops = true) {hp0 : List Blk} {tm0 : List SV} {f : Nat → S} {ev : Nat → Ev}
  (hf0 : f 0 = ⟨[], tm0, hp0⟩) (hs : ∀ k o, ops[k]? = some o → StepR E ops hp0 o k (f k) (ev k) (f (k + 1)))
include hf0 hs
theorem tr_tm : ∀ i, i ≤ ops.size → (f i).tm = tmL ops ev tm0 (fun _ => True) i
  | 0, _ => by rw [hf0]; rfl
  | i + 1, h => by
    have ho : ops[i]? = some ops[i] := Array.getElem?_eq_getElem (by omega)
    have := (hs i _ ho).1
    rw [this, tr_tm i (by omega), tmL, if_pos trivial]
    simp [dstOf, ho]
theorem tr_hp : ∀ i, i ≤ ops.size → nthO (f i).hp = hpL ev (nthO hp0) (fun _ => True) i
  | 0, _ => by rw [hf0]; rfl
  | i + 1, h => by
    have ho : ops[i]? = some ops[i] := Array.getElem?_eq_getElem (by omega)
    have ih := tr_hp i (by omega)
    obtain ⟨-, h2⟩ := hs i _ ho
    rw [hpL, if_pos trivial, ← ih]
    cases hev : ev i with
    | skip => rw [hev] at h2; rw [h2.2.1]; rfl
    | val v => rw [hev] at h2; rw [h2.2.2.1]; rfl
    | new b n v =>
      rw [hev] at h2
      obtain ⟨-, -, rfl, h3, -⟩ := h2
      rw [h3, nthO_snoc']
      rfl
    | put b c =>
      rw [hev] at h2
      obtain ⟨-, -, h3, -, blk, cs, h4, -⟩ := h2
      rw [h3, nthO_set _ _ _ _ h4]
      rfl
theorem tr_len {i : Nat} : ∀ j, i ≤ j → j ≤ ops.size → (f i).hp.length ≤ (f j).hp.length
  | 0, h, _ => by have _ := hf0
                  have : i = 0 := by omega
                  subst this; exact Nat.le_refl _
  | j + 1, h, hj => by
    rcases Nat.lt_or_ge i (j + 1) with h1 | h1
    · have ih := tr_len (i := i) j (by omega) (by omega)
      have ho : ops[j]? = some ops[j] := Array.getElem?_eq_getElem (by omega)
      obtain ⟨-, h2⟩ := hs j _ ho
      cases hev : ev j with
      | skip => rw [hev] at h2; rw [h2.2.1]; exact ih
      | val v => rw [hev] at h2; rw [h2.2.2.1]; exact ih
      | new b n v =>
        rw [hev] at h2
        rw [h2.2.2.2.1]; simp; omega
      | put b c =>
        rw [hev] at h2
        rw [h2.2.2.1]; simpa using ih
    · have : i = j + 1 := by omega
      subst this; exact Nat.le_refl _
theorem tr_len0 {j : Nat} (hj : j ≤ ops.size) : hp0.length ≤ (f j).hp.length := by
  have := tr_len hf0 hs j (Nat.zero_le _) hj
  rw [hf0] at this; exact this
theorem tr_new {k : Nat} (hk : k < ops.size) {b : Blk} {n : Nat} {v : SV} (h : ev k = .new b n v) : n = (f k).hp.length ∧ (f (k + 1)).hp.length = n + 1 := by
  have _ := hf0
  obtain ⟨-, h2⟩ := hs k _ (Array.getElem?_eq_getElem hk)
  rw [h] at h2
  exact ⟨h2.2.2.1, by rw [h2.2.2.2.1, h2.2.2.1]; simp⟩
theorem tr_put {k : Nat} (hk : k < ops.size) {b : Nat} {c : Blk} (h : ev k = .put b c) : b < (f k).hp.length ∧ isStore (ops[k]).op = true := by
  have _ := hf0
  obtain ⟨-, h2⟩ := hs k _ (Array.getElem?_eq_getElem hk)
  rw [h] at h2
  obtain ⟨-, h3, -, -, blk, cs, h4, -⟩ := h2
  rw [nthO_eq] at h4
  exact ⟨(List.getElem?_eq_some_iff.1 h4).1, h3⟩
theorem tr_almono {i b x : Nat} (hb : b < (f i).hp.length) (h : lkN (f i).al b = some x) : ∀ j, i ≤ j → j ≤ ops.size → lkN (f j).al b = some x
  | 0, h1, _ => by
    have : i = 0 := by omega
    subst this; exact h
  | j + 1, h1, hj => by
    have ho : ops[j]? = some ops[j] := Array.getElem?_eq_getElem (by omega)
    obtain ⟨-, h2⟩ := hs j _ ho
    rcases Nat.lt_or_ge i (j + 1) with hij | hij
    · have ih := tr_almono hb h j (by omega) (by omega)
      cases hev : ev j with
      | skip => rw [hev] at h2; rw [h2.2.2]; exact ih
      | val v => rw [hev] at h2; rw [h2.2.2.2.1]; exact ih
      | new b' n' v' =>
        rw [hev] at h2
        rw [h2.2.2.2.2.1, lkN, if_neg]
        · exact ih
        · have h4 := tr_len hf0 hs (i := i) j (by omega) (by omega)
          have h5 := h2.2.2.1
          omega
      | put b' c' => rw [hev] at h2; rw [h2.2.2.2.1]; exact ih
    · have : i = j + 1 := by omega
      subst this; exact h
theorem tr_late {k : Nat} (hk : k < ops.size) {b : Nat} {c : Blk} (h : ev k = .put b c) : ∀ j a, ops[j]? = some a → j < k → reading a.op = true → bf ops k j ∨ (hp0.length ≤ b ∧ ∃ x, lkN (f k).al b = some x ∧ waits a x = false) := by
  have _ := hf0
  obtain ⟨-, h2⟩ := hs k _ (Array.getElem?_eq_getElem hk)
  rw [h] at h2
  obtain ⟨-, -, -, -, blk, cs, -, -, -, -, h3⟩ := h2
  exact h3
theorem tr_al {k : Nat} {b : Blk} {n : Nat} {v : SV} (h : ev k = .new b n v) : ∀ j, k < j → j ≤ ops.size → lkN (f j).al n = some k
  | 0, h1, _ => by omega
  | j + 1, h1, hj => by
    have ho : ops[j]? = some ops[j] := Array.getElem?_eq_getElem (by omega)
    obtain ⟨-, h2⟩ := hs j _ ho
    rcases Nat.lt_or_ge k j with hkj | hkj
    · have ih := tr_al h j hkj (by omega)
      cases hev : ev j with
      | skip => rw [hev] at h2; rw [h2.2.2]; exact ih
      | val v => rw [hev] at h2; rw [h2.2.2.2.1]; exact ih
      | new b' n' v' =>
        rw [hev] at h2
        rw [h2.2.2.2.2.1, lkN, if_neg]
        · exact ih
        · have h3 := (tr_new hf0 hs (k := k) (by omega) h).2
          have h4 := tr_len hf0 hs (i := k + 1) j (by omega) (by omega)
          have h5 := h2.2.2.1
          omega
      | put b' c' => rw [hev] at h2; rw [h2.2.2.2.1]; exact ih
    · have : k = j := by omega
      subst this
      rw [h] at h2
      rw [h2.2.2.2.2.1, lkN, if_pos rfl]

/-- the state when the operations in D have been done -/
def InvD (N : Nat) (w0 : Base) (ops : Array Oper) (ev : Nat → Ev) (tm0 : List SV) (hp0 : List Blk) (D : Nat → Prop) (a : Act) (w : World) : Prop :=
  ∃ ρ0, HRel N w0 (hpL ev (nthO hp0) D ops.size) ρ0 w ∧ (∀ ρ, Agr (hpL ev (nthO hp0) D ops.size) ρ ρ0 → a.tmps.toList = (tmL ops ev tm0 D ops.size).map (SV.den ρ)) ∧ a.defers = []
include hok
theorem look_ok {D : Nat → Prop} (hc : Closed ops D) {i : Nat} {o : Oper} (ho : ops[i]? = some o) (hi : ¬ D i) (hr : ∀ e ∈ o.after, Region.binds .any e = true → D e.on) {t : Tmp} (ht : t ∈ o.looksAt ops) :
    nth uv (tmL ops ev tm0 D ops.size) t = nth uv (f i).tm t := by
  have hin : i < ops.size := (Array.getElem?_eq_some_iff.1 ho).1
  rw [tr_tm hf0 hs i (by omega)]
  rw [tmL_same (D2 := fun j => j < i) t ops.size (fun j hj hd => ?_), tmL_past (i := i) ops.size (by omega) (fun j h1 h2 => by omega), tmL_same (D2 := fun _ => True) t i (fun j hj _ => ⟨fun _ => trivial, fun _ => hj⟩)]
  unfold dstOf at hd
  have hoj : ops[j]? = some ops[j] := Array.getElem?_eq_getElem hj
  rw [hoj] at hd
  simp only [Option.bind_some] at hd
  rcases Nat.lt_trichotomy j i with h | h | h
  · have := (draw_pair hok h hoj ho).2.1 t hd ht
    have := (hc.ready ho hr).bf (.inr rfl) this
    exact ⟨fun _ => h, fun _ => this.resolve_right (by omega)⟩
  · subst h
    exact ⟨fun h => absurd h hi, fun h => by omega⟩
  · have := ((draw_pair hok h ho hoj).1 t hd).1 ht
    exact ⟨fun hd => absurd (hc.bf hd this) hi, fun h => by omega⟩
theorem exec_ok {D : Nat → Prop} (hc : Closed ops D) {i : Nat} {o : Oper} (ho : ops[i]? = some o) (hi : ¬ D i) (hr : ∀ e ∈ o.after, Region.binds .any e = true → D e.on) (hsel : ∀ cs b, o.op ≠ .select cs b)
    {a : Act} {ρ : Rho} (ht : a.tmps.toList = (tmL ops ev tm0 D ops.size).map (SV.den ρ)) : execOp a.eval o = execOp (evr (evm (f i).tm) ρ) o := by
  rw [eval_ok ht]
  refine execOp_congr o hsel fun x hx => ?_
  cases x with
  | tmp t =>
    simp only [evr, evm]
    rw [look_ok hok hf0 hs hc ho hi hr (t := t) (List.mem_append_left _ (List.mem_filterMap.2 ⟨.tmp t, by simpa using hx, rfl⟩))]
  | const v => rfl
  | global g => rfl
  | func f => rfl
theorem wanted_ok {D : Nat → Prop} (hc : Closed ops D) {i : Nat} {o : Oper} (ho : ops[i]? = some o) (hi : ¬ D i) (hr : ∀ e ∈ o.after, Region.binds .any e = true → D e.on)
    {a : Act} {ρ : Rho} (ht : a.tmps.toList = (tmL ops ev tm0 D ops.size).map (SV.den ρ)) : (Wanted ops o (f i).tm → Region.wanted o (yielded ops a.tmps) = true) ∧ (Unwanted ops o (f i).tm → Region.wanted o (yielded ops a.tmps) = false) := by
  have key : ∀ j want t b, o.guard = some (j, want) → guardS ops j = some t → nth uv (f i).tm t = .c (.val (.bool b)) → Region.wanted o (yielded ops a.tmps) = (b == want) := fun j want t b hg hgs hb => by
    have hl : t ∈ o.looksAt ops := by
      unfold Oper.looksAt
      refine List.mem_append_right _ ?_
      rw [hg]
      unfold guardS at hgs
      rw [nthO_eq] at hgs
      have : (ops[j]?).bind (·.dst) = some t := by
        have e : ops[j]? = ops.toList[j]? := by simp
        rw [e]
        cases h : ops.toList[j]? with
        | none => rw [h] at hgs; cases hgs
        | some oj => rw [h] at hgs; exact hgs
      simp [this]
    have hb' := (look_ok hok hf0 hs hc ho hi hr hl).trans hb
    have hy := yielded_ok hgs ht hb'
    unfold Region.wanted
    rw [hg]
    simp only [hy]
    cases b <;> cases want <;> rfl
  refine ⟨fun hw => ?_, fun ⟨j, want, hg, t, hgs, hb⟩ => ?_⟩
  · cases hg : o.guard with
    | none => simp [Region.wanted, hg]
    | some p =>
      obtain ⟨j, want⟩ := p
      obtain ⟨t, hgs, hb⟩ := hw j want hg
      rw [key j want t want hg hgs hb]; simp
  · rw [key j want t _ hg hgs hb]; cases want <;> rfl
theorem not_put_new {D : Nat → Prop} (hc : Closed ops D) {i : Nat} (hin : i < ops.size) (hi : ¬ D i) {b : Blk} {n : Nat} {v : SV} (hev : ev i = .new b n v) {j : Nat} (hj : j < ops.size) (hji : j ≠ i) {p : Nat × Blk} (hk : (ev j).key = some p) (hp : p.1 = n) : ¬ D j := by
  have _ := hok
  intro hD
  obtain ⟨e1, e2⟩ := tr_new hf0 hs hin hev
  cases hej : ev j with
  | skip => rw [hej] at hk; cases hk
  | val v => rw [hej] at hk; cases hk
  | new b' n' v' =>
    rw [hej] at hk; cases hk
    obtain ⟨e3, e4⟩ := tr_new hf0 hs hj hej
    simp only at hp
    rcases Nat.lt_or_ge i j with h | h
    · have := tr_len hf0 hs (i := i + 1) j h (by omega); omega
    · have := tr_len hf0 hs (i := j + 1) i (by omega) (by omega); omega
  | put b' c' =>
    rw [hej] at hk; cases hk
    simp only at hp
    subst hp
    have h3 := (tr_put hf0 hs hj hej).1
    rcases Nat.lt_or_ge i j with h | h
    · have hoj : ops[j]? = some ops[j] := Array.getElem?_eq_getElem hj
      obtain ⟨-, h2⟩ := hs j _ hoj
      rw [hej] at h2
      obtain ⟨-, -, -, -, blk, cs, -, -, -, h4⟩ := h2
      rcases h4 with h4 | ⟨k, h4, h5⟩
      · have := tr_len0 hf0 hs (j := i) (by omega); omega
      · rw [tr_al hf0 hs hev j h (by omega)] at h4
        cases h4
        unfold waits at h5
        simp only [List.any_eq_true, Bool.and_eq_true, decide_eq_true_eq] at h5
        obtain ⟨e, he, rfl, hb⟩ := h5
        exact hi (hc j _ hoj hD e (by simpa using he) hb)
    · have := tr_len hf0 hs (i := j) i (by omega) (by omega); omega
include hE in
theorem draw_step {N : Nat} {w0 : Base} {D : Nat → Prop} (hc : Closed ops D) {i : Nat} {o : Oper} (ho : ops[i]? = some o) (hi : ¬ D i) (hr : ∀ e ∈ o.after, Region.binds .any e = true → D e.on)
    {a : Act} {w : World} (hinv : InvD N w0 ops ev tm0 hp0 D a w) {K : Act → World → Prop} {Q : Exit → Act → World → Prop} (hn : ∀ a' w', InvD N w0 ops ev tm0 hp0 (fun j => D j ∨ j = i) a' w' → K a' w') : wpOp P ops Q i K a w := by
  have hin : i < ops.size := (Array.getElem?_eq_some_iff.1 ho).1
  obtain ⟨ρ0, hh, ht, hd⟩ := hinv
  obtain ⟨hst, h2⟩ := hs i o ho
  have hw := wanted_ok hok hf0 hs hc ho hi hr (ht ρ0 (Agr.refl _ _))
  have hdst : dstOf ops i = o.dst := by simp [dstOf, ho]
  have htm : tmL ops ev tm0 (fun j => D j ∨ j = i) ops.size = dput o.dst (ev i).v (tmL ops ev tm0 D ops.size) := by
    rw [tmL_insert hi ops.size hin (fun j h1 h2 _ t htj => ?_), hdst]
    have hoj : ops[j]? = some ops[j] := Array.getElem?_eq_getElem h2
    rw [hdst]
    exact ((draw_pair hok h1 ho hoj).1 t (by simpa [dstOf, hoj] using htj)).2
  have fin : ∀ {w' : World} {ρ1 : Rho} {u : Value}, HRel N w0 (hpL ev (nthO hp0) (fun j => D j ∨ j = i) ops.size) ρ1 w' →
      (∀ x, (hpL ev (nthO hp0) D ops.size x).isSome = true → (hpL ev (nthO hp0) (fun j => D j ∨ j = i) ops.size x).isSome = true ∧ ρ1 x = ρ0 x) →
      (∀ ρ, Agr (hpL ev (nthO hp0) (fun j => D j ∨ j = i) ops.size) ρ ρ1 → u = (ev i).v.den ρ) → K (a.put o.dst u) w' := fun h1 h2 h3 =>
    hn _ _ ⟨_, h1, fun ρ hρ => by rw [htm]; exact put_ok (ht ρ (hρ.sub h2)) o.dst _ (h3 ρ hρ), by rw [put_defers]; exact hd⟩
  have same : (ev i).key = none → hpL ev (nthO hp0) (fun j => D j ∨ j = i) ops.size = hpL ev (nthO hp0) D ops.size := fun hk => by
    rw [hpL_insert hi ops.size hin (fun j _ _ _ p q _ h => by rw [hk] at h; cases h)]
    unfold appH; rw [hk]
  unfold wpOp
  rw [ho]
  change if Region.wanted o (yielded ops a.tmps) = true then _ else _
  -- the blocks that the operation may look into
  have old : reading o.op = true → isStore o.op = false → ∀ ρ, Agr (hpL ev (nthO hp0) D ops.size) ρ ρ0 → ∀ b blk, hfR hp0.length o (f i).al (f i).hp b = some blk → Holds ρ blk b w := fun hrd hnst ρ hρ b blk hb => by
    unfold hfR at hb
    split at hb
    · rename_i hput
      refine hh.holds ρ hρ b blk ?_
      have hbl : b < (f i).hp.length := by rw [nthO_eq] at hb; exact (List.getElem?_eq_some_iff.1 hb).1
      rw [hpL_same (D2 := fun j => j < i) b ops.size (fun j p hj hk hp => ?_), hpL_past (i := i) ops.size (by omega) (fun j h1 h2 => by omega), hpL_same (D2 := fun _ => True) b i (fun j p hj _ _ => ⟨fun _ => trivial, fun _ => hj⟩), ← tr_hp hf0 hs i (by omega)]
      · exact hb
      · have hoj : ops[j]? = some ops[j] := Array.getElem?_eq_getElem hj
        rcases Nat.lt_trichotomy j i with h | h | h
        · refine ⟨fun _ => h, fun _ => ?_⟩
          cases hej : ev j with
          | skip => rw [hej] at hk; cases hk
          | val v => rw [hej] at hk; cases hk
          | new b' n' v' =>
            rw [hej] at hk; cases hk
            simp only at hp
            subst hp
            unfold okPut at hput
            simp only [Bool.or_eq_true, decide_eq_true_eq] at hput
            rcases hput with h4 | h4
            · have := (tr_new hf0 hs hj hej).1
              have := tr_len0 hf0 hs (j := j) (by omega)
              omega
            · rw [tr_al hf0 hs hej i h (by omega)] at h4
              simp only at h4
              unfold waits at h4
              simp only [List.any_eq_true, Bool.and_eq_true, decide_eq_true_eq] at h4
              obtain ⟨e, he, rfl, hbd⟩ := h4
              exact hr e (by simpa using he) hbd
          | put b' c' =>
            have hsj := (tr_put hf0 hs hj hej).2
            exact ((draw_pair hok h hoj ho).2.2.2 hsj hrd).elim
        · subst h; exact ⟨fun h => absurd h hi, fun h => by omega⟩
        · refine ⟨fun hD => ?_, fun h => by omega⟩
          exfalso
          cases hej : ev j with
          | skip => rw [hej] at hk; cases hk
          | val v => rw [hej] at hk; cases hk
          | new b' n' v' =>
            rw [hej] at hk; cases hk
            have h5 := (tr_new hf0 hs hj hej).1
            have h6 := tr_len hf0 hs (i := i) j (by omega) (by omega)
            simp only at hp
            omega
          | put b' c' =>
            have hsj := (tr_put hf0 hs hj hej).2
            rcases tr_late hf0 hs hj hej i o ho h hrd with h6 | ⟨h6, x, hx, hw6⟩
            · exact hi (hc.bf hD h6)
            · rw [hej] at hk; cases hk
              simp only at hp
              subst hp
              unfold okPut at hput
              simp only [Bool.or_eq_true, decide_eq_true_eq] at hput
              rcases hput with h7 | h7
              · omega
              · split at h7
                · rename_i y hy
                  have := tr_almono hf0 hs hbl hy j (by omega) (by omega)
                  rw [hx] at this
                  cases this
                  rw [hw6] at h7; cases h7
                · cases h7
    · cases hb
  cases hev : ev i with
  | skip =>
    rw [hev] at h2
    rw [if_neg (by rw [hw.2 h2.1]; simp)]
    have hsm := same (by rw [hev]; rfl)
    exact fin (by rw [hsm]; exact hh) (fun x hx => by rw [hsm]; exact ⟨hx, rfl⟩) (fun ρ _ => by rw [hev]; rfl)
  | val v =>
    rw [hev] at h2
    obtain ⟨hwt, hnst, -, -, h3⟩ := h2
    rw [if_pos (hw.1 hwt)]
    have hsm := same (by rw [hev]; rfl)
    refine .inl ?_
    unfold Oper.wp
    rcases h3 with h3 | ⟨c, fn, args, p, hop, hcal, hD, hp⟩
    · have hsel : ∀ cs b, o.op ≠ .select cs b := fun cs b e => by rw [e] at h3; simp [eff] at h3
      have hrun : ∀ ρ, Agr (hpL ev (nthO hp0) D ops.size) ρ ρ0 → (execOp a.eval o).run P w = .ok (.value (v.den ρ)) w := fun ρ hρ => by
        rw [exec_ok hok hf0 hs hc ho hi hr hsel (ht ρ hρ)]
        by_cases hrd : reading o.op = true
        · exact eff_val hE.T h3 ρ w (old hrd hnst ρ hρ)
        · rw [eff_blind (by simpa using hrd) hnst _ _ (fun _ => none)] at h3
          exact eff_val hE.T h3 ρ w (fun b blk hb => by cases hb)
      have h0 := hrun ρ0 (Agr.refl _ _)
      rw [h0]
      refine fin (ρ1 := ρ0) (by rw [hsm]; exact hh) (fun x hx => by rw [hsm]; exact ⟨hx, rfl⟩) (fun ρ hρ => ?_)
      rw [hsm] at hρ
      have := hrun ρ hρ
      rw [h0] at this
      rw [hev]
      simpa [Ev.v] using this
    · have hsel : ∀ cs b, o.op ≠ .select cs b := fun cs b e => by rw [e] at hop; cases hop
      have hrd : reading o.op = true := by
        rw [hop]
        unfold callee at hcal
        unfold reading
        cases hce : c.callee with
        | value _ => simp [hce]
        | invoke _ _ => simp [hce]
        | builtin _ => rw [hce] at hcal; cases hcal
      obtain ⟨hf, hpure, hspec⟩ := hE.D fn args _ p v hD
      rw [exec_ok hok hf0 hs hc ho hi hr hsel (ht ρ0 (Agr.refl _ _)), run_call_sx hop hcal hf ρ0 w]
      refine (hspec hp ρ0 w (old hrd hnst ρ0 (Agr.refl _ _))).mono ?_
      rintro e w' ⟨rfl, hb⟩
      exact fin (ρ1 := ρ0) (by rw [hsm]; exact hh.below hb) (fun x hx => by rw [hsm]; exact ⟨hx, rfl⟩) (fun ρ _ => by rw [hev]; exact hpure _ _)
  | new b n v =>
    rw [hev] at h2
    obtain ⟨hwt, hnst, hnl, -, -, g, h3, rfl⟩ := h2
    rw [if_pos (hw.1 hwt)]
    refine .inl ?_
    unfold Oper.wp
    have hsel : ∀ cs b, o.op ≠ .select cs b := fun cs b e => by rw [e] at h3; simp [eff] at h3
    obtain ⟨val, h0, hro, hval⟩ := eff_new hE.T h3 ρ0 w
    rw [← exec_ok hok hf0 hs hc ho hi hr hsel (ht ρ0 (Agr.refl _ _))] at h0
    have hL : ∀ ρ, Agr (hpL ev (nthO hp0) D ops.size) ρ ρ0 → cellsL ρ b.cs = cellsL ρ0 b.cs := fun ρ hρ => by
      obtain ⟨val', h1, -⟩ := eff_new hE.T h3 ρ w
      rw [← exec_ok hok hf0 hs hc ho hi hr hsel (ht ρ hρ), h0] at h1
      simp only [Result.ok.injEq] at h1
      have := congrArg (fun W => W.heap[w.heap.size]?) h1.2
      simp only [heap_alloc_new] at this
      simpa using this.symm
    have hnone : hpL ev (nthO hp0) D ops.size n = none := by
      rw [hpL_same (D2 := fun _ => False) n ops.size (fun j p hj hk hp => ⟨fun hD => ?_, False.elim⟩), hpL_none]
      · have := tr_len0 hf0 hs (j := i) (by omega)
        rw [nthO_eq, List.getElem?_eq_none (by omega)]
      · by_cases hji : j = i
        · subst hji; exact hi hD
        · exact not_put_new hok hf0 hs hc hin hi hev hj hji hk hp hD
    have hins : hpL ev (nthO hp0) (fun j => D j ∨ j = i) ops.size = upF (hpL ev (nthO hp0) D ops.size) n b := by
      rw [hpL_insert hi ops.size hin (fun j h1 h2 hD p q hk hq e => ?_), hev]
      · rfl
      · rw [hev] at hq
        cases hq
        exact not_put_new hok hf0 hs hc hin hi hev h2 (by omega) hk e hD
    rw [h0]
    refine fin (ρ1 := upR ρ0 n (w.heap.size, 0)) (by rw [hins]; exact hh.new hnone hro hL) (fun x hx => by rw [hins]; exact up_agr hnone x hx) (fun ρ hρ => ?_)
    rw [hev]
    refine (hval ρ n ?_).symm
    rw [hins] at hρ
    rw [hρ n (by unfold upF; rw [if_pos rfl]; rfl)]
    unfold upR; rw [if_pos rfl]
  | put b c =>
    rw [hev] at h2
    obtain ⟨hwt, hst2, -, -, blk, cs, hb, rfl, h3, h4⟩ := h2
    rw [if_pos (hw.1 hwt)]
    refine .inl ?_
    unfold Oper.wp
    have hsel : ∀ cs b, o.op ≠ .select cs b := fun cs b e => by rw [e] at h3; simp [eff] at h3
    have hbl : b < (f i).hp.length := by rw [nthO_eq] at hb; exact (List.getElem?_eq_some_iff.1 hb).1
    have hput : ∀ {j : Nat} (hj : j < ops.size) {p : Nat × Blk}, (ev j).key = some p → p.1 = b → i < j → ¬ D j := fun {j} hj {p} hk hp hij hD => by
      have hoj : ops[j]? = some ops[j] := Array.getElem?_eq_getElem hj
      cases hej : ev j with
      | skip => rw [hej] at hk; cases hk
      | val v => rw [hej] at hk; cases hk
      | new b' n' v' =>
        rw [hej] at hk; cases hk
        have h5 := (tr_new hf0 hs hj hej).1
        have h6 := tr_len hf0 hs (i := i) j (by omega) (by omega)
        simp only at hp
        omega
      | put b' c' =>
        have hsj := (tr_put hf0 hs hj hej).2
        exact hi (hc.bf hD ((draw_pair hok hij ho hoj).2.2.1 hsj hst2))
    have hcur : hpL ev (nthO hp0) D ops.size b = some blk := by
      rw [hpL_same (D2 := fun j => j < i) b ops.size (fun j p hj hk hp => ?_), hpL_past (i := i) ops.size (by omega) (fun j h1 h2 => by omega), hpL_same (D2 := fun _ => True) b i (fun j p hj _ _ => ⟨fun _ => trivial, fun _ => hj⟩), ← tr_hp hf0 hs i (by omega)]
      · exact hb
      · have hoj : ops[j]? = some ops[j] := Array.getElem?_eq_getElem hj
        rcases Nat.lt_trichotomy j i with h | h | h
        · refine ⟨fun _ => h, fun _ => ?_⟩
          cases hej : ev j with
          | skip => rw [hej] at hk; cases hk
          | val v => rw [hej] at hk; cases hk
          | new b' n' v' =>
            rw [hej] at hk; cases hk
            simp only at hp
            subst hp
            rcases h4 with h4 | ⟨k, h4, h5⟩
            · have := (tr_new hf0 hs hj hej).1
              have := tr_len0 hf0 hs (j := j) (by omega)
              omega
            · rw [tr_al hf0 hs hej i h (by omega)] at h4
              cases h4
              unfold waits at h5
              simp only [List.any_eq_true, Bool.and_eq_true, decide_eq_true_eq] at h5
              obtain ⟨e, he, rfl, hbd⟩ := h5
              exact hr e (by simpa using he) hbd
          | put b' c' =>
            have hsj := (tr_put hf0 hs hj hej).2
            have := (draw_pair hok h hoj ho).2.2.1 hst2 hsj
            exact ((hc.ready ho hr).bf (.inr rfl) this).resolve_right (by omega)
        · subst h; exact ⟨fun h => absurd h hi, fun h => by omega⟩
        · exact ⟨fun hD => absurd hD (hput hj hk hp h), fun h => by omega⟩
    obtain ⟨blk', off, l, hb', hro, -, hrun⟩ := eff_put hE.T h3
    rw [hb] at hb'
    cases hb'
    have key : ∀ ρ, Agr (hpL ev (nthO hp0) D ops.size) ρ ρ0 → (execOp a.eval o).run P w = .ok .skip (w.setCells (ρ0 b).1 off (cellsL ρ l)) ∧ ∃ t : List Value, t.length = blk.tl ∧ (w.setCells (ρ0 b).1 off (cellsL ρ l)).heap[(ρ0 b).1]? = some (.cells (cellsL ρ cs ++ t).toArray blk.ty (0, 0)) := fun ρ hρ => by
      have := hrun ρ w (hh.holds ρ hρ b blk hcur)
      rw [hρ b (by rw [hcur]; rfl), ← exec_ok hok hf0 hs hc ho hi hr hsel (ht ρ hρ)] at this
      exact this
    obtain ⟨h0, -⟩ := key ρ0 (Agr.refl _ _)
    have hput2 := hh.put (cs := cs) (M := cellsL ρ0 l) (off := off) hcur hro (fun ρ hρ => by
      obtain ⟨h1, hk1⟩ := key ρ hρ
      rw [h0] at h1
      simp only [Result.ok.injEq, true_and] at h1
      rw [h1]; exact hk1)
    have hins : hpL ev (nthO hp0) (fun j => D j ∨ j = i) ops.size = upF (hpL ev (nthO hp0) D ops.size) b { ty := blk.ty, ro := blk.ro, cs := cs, tl := blk.tl } := by
      rw [hpL_insert hi ops.size hin (fun j h1 h2 hD p q hk hq e => ?_), hev]
      · rfl
      · rw [hev] at hq
        cases hq
        exact hput h2 hk e h1 hD
    rw [h0]
    refine fin (ρ1 := ρ0) (by rw [hins]; exact hput2) (fun x hx => ?_) (fun ρ _ => by rw [hev]; rfl)
    rw [hins]
    unfold upF
    split
    · exact ⟨rfl, rfl⟩
    · exact ⟨hx, rfl⟩
end
end Go.Proofs.YtefgchmbdijjdaaGreatDoor

namespace Go.Proofs.YtefgchmbdijjdaaGreatDoor
open Go

section
variable {P : Program} {h : Array Oper} {ol : Oper} {Q : Exit → Act → World → Prop} {md : Region.Mode}

/-- behind the others: the last operation -/
def endQ (P : Program) (ol : Oper) (Q : Exit → Act → World → Prop) : Exit → Act → World → Prop
  | .normal, a, w => ol.wp P a w (Q .normal) Q
  | .panic c, a, w => Q (.panic c) a w
  | .outgrown, a, w => Q .outgrown a w
  | _, _, _ => False

theorem upon_two {o : Oper} {a : Act} {K K' : Act → World → Prop} {Q Q' : Exit → Act → World → Prop} {r : Result Next} (hK : ∀ a w, K a w → K' a w)
    (hQ : ∀ c a w, Q (.panic c) a w → Q' (.panic c) a w) (hO : LetsOut Q → LetsOut Q') (hh : o.upon P a K Q r) : o.upon P a K' Q' r := by
  cases r with
  | ok n w' =>
    cases n <;> simp only [Oper.upon] at hh ⊢ <;>
      first
        | exact hK _ _ hh
        | exact Calls.mono hh (fun e w'' he => by cases e <;> first | exact hK _ _ he | exact hQ _ _ _ he | exact hO he)
        | exact Rows.mono hh (fun _ _ he => hK _ _ he)
  | halt x w' => cases x <;> simp only [Oper.upon] at hh ⊢ <;> first | exact hQ _ _ _ hh | exact hh

theorem getD_push_false (l : Array Bool) (j : Nat) : (l.push false).getD j false = l.getD j false := by
  rcases Nat.lt_trichotomy j l.size with h | h | h
  · simp [Array.getElem?_push, Nat.ne_of_lt h]
  · subst h; simp
  · simp [Array.getElem?_push, Nat.ne_of_gt h]
theorem getD_push_true (l : Array Bool) {j : Nat} (h : j < l.size) : (l.push false).getD j true = l.getD j true := by
  simp [Array.getElem?_push, Nat.ne_of_lt h]

/-- each operation waits for earlier ones alone -/
def downB (ops : Array Oper) : Bool := (List.range ops.size).all fun i => match ops[i]? with | some o => o.after.all fun e => decide (e.on < i) | none => true

theorem downB_spec {ops : Array Oper} (hd : downB ops = true) {i : Nat} {o : Oper} (ho : ops[i]? = some o) : ∀ e ∈ o.after, e.on < i := by
  intro e he
  have h1 := List.all_eq_true.1 hd i (List.mem_range.2 (Array.getElem?_eq_some_iff.1 ho).1)
  rw [ho] at h1
  have h2 := Array.all_eq_true_iff_forall_mem.1 h1 e he
  simpa using h2

/-- guards look at earlier operations alone -/
def guardB (ops : Array Oper) : Bool := ops.all fun o => match o.guard with | some (j, _) => decide (j < ops.size) | none => true

theorem wanted_push (hg : guardB h = true) {o : Oper} (ho : o ∈ h) (tmps : Array Value) : Region.wanted o (yielded (h.push ol) tmps) = Region.wanted o (yielded h tmps) := by
  have h1 := Array.all_eq_true_iff_forall_mem.1 hg o ho
  unfold Region.wanted
  split
  · rfl
  · rename_i j want hgd
    rw [hgd] at h1
    have : j < h.size := by simpa using h1
    unfold yielded
    rw [Array.getElem?_push, if_neg (Nat.ne_of_lt this)]

theorem inv_push {listed : Array Bool} (hs : listed.size = h.size) (hc : ∀ j oj, h[j]? = some oj → listed.getD j false = true → ∀ e ∈ oj.after, Region.binds md e = true → listed.getD e.on false = true) :
    HeadInv md (h.push ol) h.size (listed.push false) := by
  refine ⟨by simp [hs], fun j oj hj hl e he hb => ?_, fun t ht ht' => ?_⟩
  · rw [getD_push_false] at hl ⊢
    rw [Array.getElem?_push] at hj
    split at hj
    · rename_i hjn
      subst hjn
      rw [← hs] at hl
      simp at hl
    · exact hc j oj hj hl e he hb
  · have : t = listed.size := by simp at ht'; omega
    subst this; simp

theorem ready_head {listed : Array Bool} (hs : listed.size = h.size) {i : Nat} (hi : i < h.size) : i ∈ Region.ready md (h.push ol) (listed.push false) ↔ i ∈ Region.ready md h listed := by
  rw [mem_ready, mem_ready, getD_push_true _ (by omega), Array.getElem?_push, if_neg (Nat.ne_of_lt hi)]
  simp only [getD_push_false]

theorem all_listed (hdown : downB (h.push ol) = true) {listed : Array Bool} (hs : listed.size = h.size) (hr : Region.ready md h listed = []) : ∀ i, i < h.size → listed.getD i true = true := by
  intro i
  induction i using Nat.strongRecOn with
  | _ i ih =>
    intro hi
    cases hl : listed.getD i true with
    | true => rfl
    | false =>
      have hhi : h[i]? = some h[i] := Array.getElem?_eq_getElem hi
      have hpi : (h.push ol)[i]? = some h[i] := by rw [Array.getElem?_push, if_neg (Nat.ne_of_lt hi)]; exact hhi
      have : i ∈ Region.ready md h listed := mem_ready.2 ⟨hl, _, hhi, fun e he _ => by
        have hlt := downB_spec hdown hpi e he
        have := ih e.on hlt (by omega)
        have hb : e.on < listed.size := by omega
        simp only [Array.getD_eq_getD_getElem?, Array.getElem?_eq_getElem hb, Option.getD_some] at this ⊢
        exact this⟩
      rw [hr] at this
      cases this

theorem wpAny_sink_last (hdown : downB (h.push ol) = true) (hog : ol.guard = none) {listed : Array Bool} {a : Act} {w : World} (hs : listed.size = h.size)
    (hr : Region.ready md h listed = []) (hq : endQ P ol Q .normal a w) (f : Nat) : wpAny P md (h.push ol) Q (f + 1) (listed.push false) a w := by
  have hall := all_listed hdown hs hr
  have hol : (h.push ol)[h.size]? = some ol := by simp
  have honly : ∀ i ∈ Region.ready md (h.push ol) (listed.push false), i = h.size := by
    intro i hi
    have hlt : i < h.size + 1 := by
      obtain ⟨_, o, ho, _⟩ := mem_ready.1 hi
      have := (Array.getElem?_eq_some_iff.1 ho).1
      simpa using this
    by_cases hin : i < h.size
    · have h1 := (mem_ready.1 ((ready_head hs hin).1 hi)).1
      rw [hall i hin] at h1
      cases h1
    · omega
  have hmem : h.size ∈ Region.ready md (h.push ol) (listed.push false) := mem_ready.2 ⟨by rw [← hs]; simp, ol, hol, fun e he _ => by
    have hlt := downB_spec hdown hol e he
    rw [getD_push_false]
    have := hall e.on hlt
    have hb : e.on < listed.size := by omega
    simp only [Array.getD_eq_getD_getElem?, Array.getElem?_eq_getElem hb, Option.getD_some] at this ⊢
    exact this⟩
  refine ⟨fun h0 => (by rw [h0] at hmem; cases hmem), fun i hi => ?_⟩
  have := honly i hi
  subst this
  unfold wpOp
  rw [hol]
  change if Region.wanted ol (yielded (h.push ol) a.tmps) = true then _ else _
  have hw : Region.wanted ol (yielded (h.push ol) a.tmps) = true := by unfold Region.wanted; rw [hog]
  rw [if_pos hw]
  refine Or.inl (Oper.wp_mono (fun a' w' hq' => wpAny_done (List.eq_nil_iff_forall_not_mem.2 fun j hj => ?_) hq' f) hq)
  obtain ⟨h1, o, ho, _⟩ := mem_ready.1 hj
  by_cases hjn : j = h.size
  · subst hjn
    rw [← hs] at h1
    simp at h1
  · rw [getD_set_ne true (fun e => hjn e.symm)] at h1
    have hlt : j < h.size + 1 := by
      have := (Array.getElem?_eq_some_iff.1 ho).1
      simpa using this
    rw [getD_push_true _ (by omega), hall j (by omega)] at h1
    cases h1

theorem wpAny_sink (hsink : Region.sinkB md (h.push ol) h.size = true) (hdown : downB (h.push ol) = true) (hg : guardB h = true) (hog : ol.guard = none) :
    ∀ (f : Nat) (listed : Array Bool) (a : Act) (w : World), listed.size = h.size →
      (∀ j oj, h[j]? = some oj → listed.getD j false = true → ∀ e ∈ oj.after, Region.binds md e = true → listed.getD e.on false = true) →
      wpAny P md h (endQ P ol Q) f listed a w → wpAny P md (h.push ol) Q (f + 1) (listed.push false) a w := by
  have hchain : Region.chainB md (h.push ol) h.size = true := by
    unfold Region.chainB
    rw [List.all_eq_true]
    intro t ht
    have : t ≤ h.size := by have := List.mem_range.1 ht; simp at this; omega
    simp [this]
  have hol : (h.push ol)[h.size]? = some ol := by simp
  intro f
  induction f with
  | zero =>
    intro listed a w hs hc hw
    exact wpAny_sink_last hdown hog hs hw.1 hw.2 0
  | succ f ih =>
    intro listed a w hs hc hw
    by_cases hr : Region.ready md h listed = []
    · exact wpAny_sink_last hdown hog hs hr (hw.1 hr) _
    · obtain ⟨i0, hi0⟩ := List.exists_mem_of_ne_nil _ hr
      have hi0lt : i0 < h.size := by
        obtain ⟨_, o, ho, _⟩ := mem_ready.1 hi0
        exact (Array.getElem?_eq_some_iff.1 ho).1
      have hinv := inv_push (ol := ol) hs hc
      have hun : (listed.push false).getD i0 true = false := by rw [getD_push_true _ (by omega)]; exact (mem_ready.1 hi0).1
      have hnot := tail_waits hsink hchain (by simp) hinv _ i0 rfl hi0lt hun
      refine ⟨fun h0 => ?_, fun i hi => ?_⟩
      · have := (ready_head (ol := ol) hs hi0lt).2 hi0
        rw [h0] at this
        cases this
      · have hin : i < h.size := Nat.lt_of_not_le fun hle => hnot i hle hi
        have hi' := (ready_head hs hin).1 hi
        have h1 := hw.2 i hi'
        have hset : (listed.push false).setIfInBounds i true = (listed.setIfInBounds i true).push false := by
          apply Array.ext
          · simp
          · intro j h1 h2
            rw [Array.getElem_setIfInBounds (by simpa using h1)]
            simp only [Array.getElem_push, Array.size_setIfInBounds]
            by_cases hij : i = j
            · subst hij
              rw [if_pos rfl, dif_pos (by omega), Array.getElem_setIfInBounds (by omega), if_pos rfl]
            · rw [if_neg hij]
              split
              · rw [Array.getElem_setIfInBounds (by omega), if_neg hij]
              · rfl
        rw [hset]
        have hnext : ∀ a' w', wpAny P md h (endQ P ol Q) f (listed.setIfInBounds i true) a' w' → wpAny P md (h.push ol) Q (f + 1) ((listed.setIfInBounds i true).push false) a' w' := by
          intro a' w' h'
          refine ih _ _ _ (by simp [hs]) (fun j oj hj hl e he hb => ?_) h'
          by_cases hij : i = j
          · subst hij
            obtain ⟨_, oi, hoi, hall⟩ := mem_ready.1 hi'
            have : oj = oi := Option.some.inj (hj.symm.trans hoi)
            subst this
            exact getD_set_true (hall e he hb)
          · rw [getD_set_ne false hij] at hl
            exact getD_set_true (hc j oj hj hl e he hb)
        have hhi : h[i]? = some h[i] := Array.getElem?_eq_getElem hin
        have hpi : (h.push ol)[i]? = some h[i] := by rw [Array.getElem?_push, if_neg (Nat.ne_of_lt hin)]; exact hhi
        unfold wpOp at h1 ⊢
        rw [hpi]
        rw [hhi] at h1
        change if Region.wanted h[i] (yielded (h.push ol) a.tmps) = true then _ else _
        change if Region.wanted h[i] (yielded h a.tmps) = true then _ else _ at h1
        rw [show Region.wanted h[i] (yielded (h.push ol) a.tmps) = Region.wanted h[i] (yielded h a.tmps) from wanted_push hg (Array.getElem_mem hin) _]
        revert h1
        split
        · rintro (h1 | h1)
          · exact .inl (upon_two hnext (fun _ _ _ h => h) (fun h => h) h1)
          · exact .inr h1
        · exact hnext _ _

/-- the region's walk begins with the others alone -/
theorem wp_region_sink {ops : Array Oper} {S : World → Prop} {id n : Nat} {a : Act} {w : World} (hm : P.follows .mixedOrders = true) (hops : ops = h.push ol) (hn : n = h.size)
    (hb : (Region.sinkB .any (h.push ol) h.size && downB (h.push ol) && guardB h) = true) (hog : ol.guard = none) (hS : S w.drew)
    (hw : S w.drew → wpAnyH P .any h (endQ P ol Q) S n (Array.replicate n false) a w.drew) : (Code.region id ops true).wp P Q a w := by
  subst hops; subst hn
  simp only [Bool.and_eq_true] at hb
  refine wp_region_any hm ?_
  rw [Array.size_push, Array.replicate_succ]
  exact wpAny_sink hb.1.1 hb.1.2 hb.2 hog _ _ _ _ (by simp) (fun j oj _ hl => by rw [getD_replicate_false] at hl; cases hl) (wpAny_of_held _ _ _ _ (hw hS))
theorem pop_push {ops : Array Oper} {n : Nat} (hn : ops.size = n + 1) (ho : ops[n]? = some ol) : ops = ops.pop.push ol := by
  have h1 : ops[n]'(by omega) = ol := by rw [Array.getElem?_eq_getElem (by omega)] at ho; exact Option.some.inj ho
  apply Array.ext
  · simp; omega
  · intro j h2 h3
    rw [Array.getElem_push]
    split
    · simp
    · rename_i hj
      simp at hj h3
      have : j = n := by omega
      subst this
      exact h1
/-- the region, its last operation apart -/
theorem wp_region_last {ops : Array Oper} {S : World → Prop} {id : Nat} (n : Nat) {a : Act} {w : World} (hm : P.follows .mixedOrders = true) (hn : ops.size = n + 1) (ho : ops[n]? = some ol)
    (hb : (Region.sinkB .any (ops.pop.push ol) n && downB (ops.pop.push ol) && guardB ops.pop) = true) (hog : ol.guard = none) (hS : S w.drew)
    (hw : S w.drew → wpAnyH P .any ops.pop (endQ P ol Q) S n (Array.replicate n false) a w.drew) : (Code.region id ops true).wp P Q a w := by
  have hsz : n = ops.pop.size := by simp; omega
  refine wp_region_sink hm (pop_push hn ho) hsz ?_ hog hS hw
  rw [← hsz]; exact hb
/-- the steps, at a region's operations as a list -/
theorem take_l {l : List Oper} {S : World → Prop} (i : Nat) {oi : Oper} {v : Value} {fuel : Nat} {listed : Array Bool} {a : Act} {w : World} (hi : l[i]? = some oi)
    (hs : Region.noSelect l.toArray = true) (hf : Region.free md l.toArray listed i = true) (hr : (Region.ready md l.toArray listed).contains i = true)
    (hQ : ∀ c a w, Q (.panic c) (a.put oi.dst v) w → Q (.panic c) a w) (hw : Region.wanted oi (yielded l.toArray a.tmps) = true) (hy : ∀ w, S w → (execOp a.eval oi).run P w = .ok (.value v) w) (hS : S w)
    (hh : wpAnyH P md l.toArray Q S fuel (listed.setIfInBounds i true) (a.put oi.dst v) w) : wpAnyH P md l.toArray Q S (fuel + 1) listed a w :=
  wpAnyH_take (by simpa using hi) hs hf hr hQ (.inl ⟨hw, hy⟩) hS hh
theorem call_l {l : List Oper} {S : World → Prop} (i : Nat) {o : Oper} {fuel : Nat} {listed : Array Bool} {a : Act} {w : World} (ho : l[i]? = some o)
    (hr : Region.ready md l.toArray listed = [i])
    (hh : ∀ K' : Act → World → Prop, Shut (∀ a w, S w → (S w → wpAnyH P md l.toArray Q S fuel (listed.setIfInBounds i true) a w) → K' a w) → if Region.wanted o (yielded l.toArray a.tmps) = true then Oper.wp P o a w K' Q else K' (a.put o.dst undef) w) :
    wpAnyH P md l.toArray Q S (fuel + 1) listed a w :=
  wpAnyH_ready hr (by simp) (AllReadyH.cons (by simpa using ho) hh AllReadyH.nil)
theorem fork_l {l : List Oper} {S : World → Prop} (i j : Nat) {oi oj : Oper} {fuel : Nat} {listed : Array Bool} {a : Act} {w : World} (hi : l[i]? = some oi) (hj : l[j]? = some oj)
    (hr : Region.ready md l.toArray listed = [i, j])
    (h1 : ∀ K' : Act → World → Prop, Shut (∀ a w, S w → (S w → wpAnyH P md l.toArray Q S fuel (listed.setIfInBounds i true) a w) → K' a w) → if Region.wanted oi (yielded l.toArray a.tmps) = true then Oper.wp P oi a w K' Q else K' (a.put oi.dst undef) w)
    (h2 : ∀ K' : Act → World → Prop, Shut (∀ a w, S w → (S w → wpAnyH P md l.toArray Q S fuel (listed.setIfInBounds j true) a w) → K' a w) → if Region.wanted oj (yielded l.toArray a.tmps) = true then Oper.wp P oj a w K' Q else K' (a.put oj.dst undef) w) :
    wpAnyH P md l.toArray Q S (fuel + 1) listed a w :=
  wpAnyH_ready hr (by simp) (AllReadyH.cons (by simpa using hi) h1 (AllReadyH.cons (by simpa using hj) h2 AllReadyH.nil))
theorem last_l {l : List Oper} {S : World → Prop} {id : Nat} (n : Nat) {a : Act} {w : World} (hm : P.follows .mixedOrders = true) (hn : l.toArray.size = n + 1) (ho : l[n]? = some ol)
    (hb : (Region.sinkB .any (l.dropLast.toArray.push ol) n && downB (l.dropLast.toArray.push ol) && guardB l.dropLast.toArray) = true) (hog : ol.guard = none) (hS : S w.drew)
    (hw : S w.drew → wpAnyH P .any l.dropLast.toArray (endQ P ol Q) S n (Array.replicate n false) a w.drew) : (Code.region id l.toArray true).wp P Q a w :=
  wp_region_last n hm hn (by simpa using ho) (by simpa using hb) hog hS (fun h => by simpa using hw h)
/-- the last operation, as the walk's steps take it -/
theorem endQ_of {a : Act} {w : World} (hh : ol.wp P a w (Q .normal) Q) : endQ P ol Q .normal a w := hh
end
end Go.Proofs.YtefgchmbdijjdaaGreatDoor

namespace Go.Proofs.YtefgchmbdijjdaaGreatDoor
open Go.RowKit

def nF : List Bool → Nat
  | [] => 0
  | b :: l => (if b = true then 0 else 1) + nF l
theorem nF_set : ∀ (l : List Bool) (i : Nat), l[i]? = some false → nF (l.set i true) + 1 = nF l
  | [], i, h => by simp at h
  | b :: l, 0, h => by simp at h; subst h; simp [nF]; omega
  | b :: l, i + 1, h => by
    have := nF_set l i (by simpa using h)
    simp only [List.set_cons_succ, nF]
    omega
theorem nF_zero : ∀ {l : List Bool}, nF l = 0 → ∀ i : Nat, l[i]? ≠ some false
  | [], _, i => by simp
  | b :: l, h, i => by
    simp only [nF] at h
    cases i with
    | zero => cases b <;> simp at h ⊢
    | succ i => simpa using nF_zero (by omega : nF l = 0) i
theorem tmL_congr {ops : Array Oper} {ev : Nat → Ev} {tm0 : List SV} {D D2 : Nat → Prop} : ∀ k, (∀ j, j < k → (D j ↔ D2 j)) → tmL ops ev tm0 D k = tmL ops ev tm0 D2 k
  | 0, _ => rfl
  | k + 1, h => by
    have ih := tmL_congr (ops := ops) (ev := ev) (tm0 := tm0) k (fun j hj => h j (by omega))
    have hk := h k (by omega)
    unfold tmL
    by_cases h1 : D k
    · rw [if_pos h1, if_pos (hk.1 h1), ih]
    · rw [if_neg h1, if_neg (fun h => h1 (hk.2 h)), ih]
theorem hpL_congr {ev : Nat → Ev} {h0 : Nat → Option Blk} {D D2 : Nat → Prop} : ∀ k, (∀ j, j < k → (D j ↔ D2 j)) → hpL ev h0 D k = hpL ev h0 D2 k
  | 0, _ => rfl
  | k + 1, h => by
    have ih := hpL_congr (ev := ev) (h0 := h0) k (fun j hj => h j (by omega))
    have hk := h k (by omega)
    unfold hpL
    by_cases h1 : D k
    · rw [if_pos h1, if_pos (hk.1 h1), ih]
    · rw [if_neg h1, if_neg (fun h => h1 (hk.2 h)), ih]
section
variable {P : Program} {E : Env} (hE : EOk P E)
include hE
theorem draw_any {ops : Array Oper} (hok : okDraw ops = true) {hp0 : List Blk} {tm0 : List SV} {f : Nat → S} {ev : Nat → Ev} (hf0 : f 0 = ⟨[], tm0, hp0⟩)
    (hs : ∀ k o, ops[k]? = some o → StepR E ops hp0 o k (f k) (ev k) (f (k + 1))) {N : Nat} {w0 : Base} {Q : Exit → Act → World → Prop}
    (hQ : ∀ a w, RelS N w0 (f ops.size).tm (f ops.size).hp a w → Q .normal a w) :
    ∀ (fuel : Nat) (listed : Array Bool) (a : Act) (w : World), listed.size = ops.size → Closed ops (fun k => listed.getD k false = true) → nF listed.toList ≤ fuel →
      InvD N w0 ops ev tm0 hp0 (fun k => listed.getD k false = true) a w → wpAny P .any ops Q fuel listed a w := by
  have fin : ∀ (listed : Array Bool) (a : Act) (w : World), listed.size = ops.size → Region.ready .any ops listed = [] → InvD N w0 ops ev tm0 hp0 (fun k => listed.getD k false = true) a w → Q .normal a w := by
    intro listed a w hsz hr hinv
    have hall : ∀ i, i < ops.size → listed.getD i false = true := by
      intro i
      induction i using Nat.strongRecOn with
      | _ i ih =>
        intro hi
        have hoi : ops[i]? = some ops[i] := Array.getElem?_eq_getElem hi
        cases hl : listed.getD i true with
        | true =>
          have : i < listed.size := by omega
          simp only [Array.getD_eq_getD_getElem?, Array.getElem?_eq_getElem this, Option.getD_some] at hl ⊢
          exact hl
        | false =>
          have : i ∈ Region.ready .any ops listed := mem_ready.2 ⟨hl, _, hoi, fun e he hb => ih e.on (draw_edges hok hoi he hb) (by have := draw_edges hok hoi he hb; omega)⟩
          rw [hr] at this
          cases this
    obtain ⟨ρ0, hh, ht, hd⟩ := hinv
    have e1 : hpL ev (nthO hp0) (fun k => listed.getD k false = true) ops.size = nthO (f ops.size).hp := by
      rw [hpL_congr (D2 := fun _ => True) ops.size (fun j hj => ⟨fun _ => trivial, fun _ => hall j hj⟩), tr_hp hf0 hs _ (Nat.le_refl _)]
    have e2 : tmL ops ev tm0 (fun k => listed.getD k false = true) ops.size = (f ops.size).tm := by
      rw [tmL_congr (D2 := fun _ => True) ops.size (fun j hj => ⟨fun _ => trivial, fun _ => hall j hj⟩), tr_tm hf0 hs _ (Nat.le_refl _)]
    rw [e1] at hh ht
    rw [e2] at ht
    exact hQ a w ⟨ρ0, hh, ht, hd⟩
  intro fuel
  induction fuel with
  | zero =>
    intro listed a w hsz hc hn hinv
    have hr : Region.ready .any ops listed = [] := by
      refine List.eq_nil_iff_forall_not_mem.2 fun i hi => ?_
      obtain ⟨h1, o, ho, -⟩ := mem_ready.1 hi
      have hin : i < listed.size := by have := (Array.getElem?_eq_some_iff.1 ho).1; omega
      simp only [Array.getD_eq_getD_getElem?, Array.getElem?_eq_getElem hin, Option.getD_some] at h1
      exact nF_zero (Nat.le_zero.1 hn) i (by simp [Array.getElem?_eq_getElem hin, h1])
    exact ⟨hr, fin listed a w hsz hr hinv⟩
  | succ fuel ih =>
    intro listed a w hsz hc hn hinv
    refine ⟨fun hr => fin listed a w hsz hr hinv, fun i hi => ?_⟩
    obtain ⟨h1, o, ho, hall⟩ := mem_ready.1 hi
    have hin : i < listed.size := by have := (Array.getElem?_eq_some_iff.1 ho).1; omega
    have h1' : listed[i] = false := by simpa only [Array.getD_eq_getD_getElem?, Array.getElem?_eq_getElem hin, Option.getD_some] using h1
    have hnD : ¬ (listed.getD i false = true) := by simp only [Array.getD_eq_getD_getElem?, Array.getElem?_eq_getElem hin, Option.getD_some, h1']; simp
    have hD' : (fun k => (listed.setIfInBounds i true).getD k false = true) = (fun k => listed.getD k false = true ∨ k = i) := by
      funext k
      apply propext
      by_cases hk : k = i
      · subst hk
        simp [Array.getD_eq_getD_getElem?, hin]
      · simp only [Array.getD_eq_getD_getElem?, Array.getElem?_setIfInBounds, hk, or_false]
        rw [if_neg (fun e => hk e.symm)]
    refine draw_step hE hok hf0 hs hc ho hnD hall hinv fun a' w' hinv' => ?_
    refine ih _ a' w' (by simpa using hsz) ?_ ?_ ?_
    · rw [hD']; exact hc.ready ho hall
    · have := nF_set listed.toList i (by simp [Array.getElem?_eq_getElem hin, h1'])
      simp only [Array.toList_setIfInBounds]
      omega
    · rw [hD']; exact hinv'
theorem vcDs_any {ops : Array Oper} (hok : okDraw ops = true) {tm : List SV} {hp : List Blk} {K : List SV → List Blk → Prop} (h : vcDs E ops hp ops.toList 0 [] tm hp K)
    {N : Nat} {w0 : Base} {a : Act} {w : World} (hr : RelS N w0 tm hp a w) {Q : Exit → Act → World → Prop} (hQ : ∀ tm' hp' a' w', K tm' hp' → RelS N w0 tm' hp' a' w' → Q .normal a' w') :
    wpAny P .any ops Q ops.size (Array.replicate ops.size false) a w.drew := by
  obtain ⟨f, ev, hf0, hs, hK⟩ := vcDs_trace ops.toList 0 ⟨[], tm, hp⟩ h
  have hs' : ∀ k o, ops[k]? = some o → StepR E ops hp o k (f k) (ev k) (f (k + 1)) := fun k o ho => by
    have := hs k o (by simpa using ho)
    rw [Nat.zero_add] at this
    exact this
  have hl : ops.toList.length = ops.size := by simp
  rw [hl] at hK
  have hD : (fun k => (Array.replicate ops.size false).getD k false = true) = (fun _ => False) := by
    funext k
    apply propext
    simp [Array.getD_eq_getD_getElem?, Array.getElem?_replicate]
    split <;> simp
  have hn : ∀ n, nF (List.replicate n false) = n := fun n => by
    induction n with
    | zero => rfl
    | succ n ih => simp only [List.replicate_succ, nF, ih]; simp; omega
  refine draw_any hE hok hf0 hs' (fun a' w' hr' => hQ _ _ _ _ hK hr') ops.size _ _ _ (by simp) ?_ (by simp [hn]) ?_
  · rw [hD]; exact fun k o _ hk => hk.elim
  · rw [hD]
    obtain ⟨ρ0, hh, ht, hd⟩ := hr
    refine ⟨ρ0, ?_, fun ρ hρ => ?_, hd⟩
    · rw [hpL_none]
      exact hh.below ((Below.refl _ _).drew)
    · rw [hpL_none] at hρ
      rw [tmL_past (i := 0) ops.size (Nat.zero_le _) (fun _ _ h => h)]
      exact ht ρ hρ
end
/-- behind the operations that draw: the others, one after the other -/
def chainQ (P : Program) : List Oper → (Exit → Act → World → Prop) → Exit → Act → World → Prop
  | [], Q => Q
  | o :: l, Q => endQ P o (chainQ P l Q)
def sufB : List Oper → List Oper → Bool
  | _, [] => true
  | pre, o :: l => (Region.sinkB .any (pre.toArray.push o) pre.toArray.size && downB (pre.toArray.push o) && guardB pre.toArray && o.guard.isNone) && sufB (pre ++ [o]) l
theorem replicate_push (n : Nat) : (Array.replicate n false).push false = Array.replicate (n + 1) false := by
  rw [Array.replicate_succ]
theorem wp_suf {P : Program} : ∀ (suf pre : List Oper), sufB pre suf = true → ∀ {Q : Exit → Act → World → Prop} {a : Act} {w : World},
    wpAny P .any pre.toArray (chainQ P suf Q) pre.toArray.size (Array.replicate pre.toArray.size false) a w → wpAny P .any (pre ++ suf).toArray Q (pre ++ suf).toArray.size (Array.replicate (pre ++ suf).toArray.size false) a w
  | [], pre, _, Q, a, w, h => by rw [List.append_nil]; exact h
  | o :: l, pre, hs, Q, a, w, h => by
    simp only [sufB, Bool.and_eq_true] at hs
    obtain ⟨⟨⟨⟨h1, h2⟩, h3⟩, h4⟩, h5⟩ := hs
    have hog : o.guard = none := by cases hg : o.guard <;> simp [hg] at h4 ⊢
    have key := wpAny_sink (Q := chainQ P l Q) h1 h2 h3 hog _ _ a w (by simp) (fun j oj _ hl => by rw [getD_replicate_false] at hl; cases hl) h
    rw [replicate_push] at key
    have e1 : pre.toArray.push o = (pre ++ [o]).toArray := by simp
    have e2 : pre.toArray.size + 1 = (pre ++ [o]).toArray.size := by simp
    rw [e1, e2] at key
    have := wp_suf l (pre ++ [o]) h5 key
    rw [List.append_assoc] at this
    exact this
section
variable {P : Program} {E : Env} (hE : EOk P E) {H : FuncId → List SV → List Blk → (SV → List Blk → Prop) → Prop} (hH : HOk P H)
include hE hH
theorem vcOps_suf {N : Nat} {w0 : Base} {all : Array Oper} {K : List SV → List Blk → Prop} {Q : Exit → Act → World → Prop} (hQ : ∀ tm' hp' a' w', K tm' hp' → RelS N w0 tm' hp' a' w' → Q .normal a' w') :
    ∀ (os pre : List Oper), sufB pre os = true → ∀ (tm : List SV) (hp : List Blk), vcOps E H all os tm hp K → ∀ a w, RelS N w0 tm hp a w → chainQ P os Q .normal a w
  | [], _, _, tm, hp, h, a, w, hr => hQ _ _ _ _ h hr
  | o :: os, pre, hs, tm, hp, h, a, w, hr => by
    simp only [sufB, Bool.and_eq_true] at hs
    have hog : o.guard = none := by cases hg : o.guard <;> simp [hg] at hs ⊢
    unfold vcOps at h
    rw [hog] at h
    exact vcOp_ok hE hH h hr fun tm' hp' a' w' hK hr' => vcOps_suf hQ os (pre ++ [o]) hs.2 tm' hp' hK a' w' hr'
end
section
variable {P : Program} {E : Env} (hE : EOk P E) {H : FuncId → List SV → List Blk → (SV → List Blk → Prop) → Prop} (hH : HOk P H)
theorem allL_mem : ∀ {l : List Nat} {p : Nat → Prop}, allL l p → ∀ i ∈ l, p i
  | [], _, _, i, hi => by cases hi
  | _ :: _, _, h, i, hi => by
    rcases List.mem_cons.1 hi with rfl | hi
    · exact h.1
    · exact allL_mem h.2 i hi
theorem RelS.drew {N : Nat} {w0 : Base} {tm : List SV} {hp : List Blk} {a : Act} {w : World} (h : RelS N w0 tm hp a w) : RelS N w0 tm hp a w.drew := by
  obtain ⟨ρ0, hh, ht, hd⟩ := h
  exact ⟨ρ0, hh.below ((Below.refl _ _).drew), ht, hd⟩
theorem rdyE_iff {L : List Bool} : ∀ {l : List Edge}, rdyE L l = true ↔ ∀ e ∈ l, Region.binds .any e = true → nth false L e.on = true
  | [] => by simp [rdyE]
  | e :: l => by
    simp only [rdyE, Bool.and_eq_true, Bool.or_eq_true, Bool.not_eq_true', rdyE_iff (l := l), List.mem_cons, forall_eq_or_imp]
    constructor
    · rintro ⟨h1, h2⟩
      exact ⟨fun hb => h1.elim (fun h => by rw [hb] at h; cases h) id, h2⟩
    · rintro ⟨h1, h2⟩
      refine ⟨?_, h2⟩
      cases hb : Region.binds .any e with
      | true => exact .inr (h1 hb)
      | false => exact .inl rfl
theorem rdyG_cons (L : List Bool) (k : Nat) (o : Oper) (l : List Oper) : rdyG L k (o :: l) = (match !nth true L k && rdyE L o.after.toList with | true => k :: rdyG L (k + 1) l | false => rdyG L (k + 1) l) := rfl
theorem rdyG_iff {L : List Bool} : ∀ {l : List Oper} {k i : Nat}, i ∈ rdyG L k l ↔ ∃ j o, i = k + j ∧ l[j]? = some o ∧ nth true L i = false ∧ rdyE L o.after.toList = true
  | [], k, i => by simp [rdyG]
  | o :: l, k, i => by
    have ih := @rdyG_iff L l (k + 1) i
    have key : (∃ j o', i = k + j ∧ (o :: l)[j]? = some o' ∧ nth true L i = false ∧ rdyE L o'.after.toList = true) ↔ (i = k ∧ nth true L i = false ∧ rdyE L o.after.toList = true) ∨ ∃ j o', i = k + 1 + j ∧ l[j]? = some o' ∧ nth true L i = false ∧ rdyE L o'.after.toList = true := by
      constructor
      · rintro ⟨j, o', h1, h2, h3, h4⟩
        cases j with
        | zero => simp at h2; subst h2; exact .inl ⟨h1, h3, h4⟩
        | succ j => exact .inr ⟨j, o', by omega, by simpa using h2, h3, h4⟩
      · rintro (⟨h1, h2, h3⟩ | ⟨j, o', h1, h2, h3, h4⟩)
        · exact ⟨0, o, h1, rfl, h2, h3⟩
        · exact ⟨j + 1, o', by omega, by simpa using h2, h3, h4⟩
    rw [key, ← ih, rdyG_cons]
    split
    · rename_i h
      simp only [Bool.and_eq_true, Bool.not_eq_true'] at h
      simp only [List.mem_cons]
      constructor
      · rintro (rfl | h')
        · exact .inl ⟨rfl, h⟩
        · exact .inr h'
      · rintro (⟨rfl, _⟩ | h')
        · exact .inl rfl
        · exact .inr h'
    · rename_i h
      constructor
      · exact .inr
      · rintro (⟨rfl, h1, h2⟩ | h')
        · rw [h1, h2] at h; cases h
        · exact h'
theorem rdy_mem {ops : List Oper} {L : List Bool} {i : Nat} : i ∈ Region.ready .any ops.toArray L.toArray ↔ i ∈ rdyG L 0 ops := by
  rw [mem_ready, rdyG_iff]
  have e1 : ∀ n, L.toArray.getD n true = nth true L n := fun n => by rw [nth_eq]; simp [Array.getD_eq_getD_getElem?]
  have e2 : ∀ n, L.toArray.getD n false = nth false L n := fun n => by rw [nth_eq]; simp [Array.getD_eq_getD_getElem?]
  constructor
  · rintro ⟨h1, o, h2, h3⟩
    exact ⟨i, o, by omega, by simpa using h2, by rw [← e1]; exact h1, rdyE_iff.2 fun e he hb => by rw [← e2]; exact h3 e (by simpa using he) hb⟩
  · rintro ⟨j, o, h1, h2, h3, h4⟩
    rw [Nat.zero_add] at h1
    subst h1
    exact ⟨by rw [e1]; exact h3, o, by simpa using h2, fun e he hb => by rw [e2]; exact rdyE_iff.1 h4 e (by simpa using he) hb⟩
theorem setB_eq : ∀ (l : List Bool) (i : Nat), setB l i = l.set i true
  | [], _ => by simp [setB]
  | _ :: _, 0 => rfl
  | x :: l, n + 1 => by simp [setB, setB_eq l n]
theorem falses_eq : ∀ l : List Oper, falses l = List.replicate l.length false
  | [] => rfl
  | _ :: l => by simp [falses, falses_eq l, List.replicate_succ]
include hE hH in
theorem vcOrd_ok {N : Nat} {w0 : Base} {ops : List Oper} {K : List SV → List Blk → Prop} {Q : Exit → Act → World → Prop} (hQ : ∀ tm' hp' a' w', K tm' hp' → RelS N w0 tm' hp' a' w' → Q .normal a' w') :
    ∀ (fuel : List Oper) (L : List Bool) (tm : List SV) (hp : List Blk), vcOrd E H ops fuel L tm hp K → ∀ a w, RelS N w0 tm hp a w → wpAny P .any ops.toArray Q fuel.length L.toArray a w
  | [], L, tm, hp, h, a, w, hr => by
    unfold vcOrd at h
    unfold wpAny
    split at h
    · rename_i he
      exact ⟨List.eq_nil_iff_forall_not_mem.2 fun i hi => (by have := rdy_mem.1 hi; rw [he] at this; cases this), hQ _ _ _ _ h hr⟩
    · exact h.elim
  | _ :: fuel, L, tm, hp, h, a, w, hr => by
    unfold vcOrd at h
    rw [List.length_cons]
    unfold wpAny
    split at h
    · rename_i he
      exact ⟨fun _ => hQ _ _ _ _ h hr, fun i hi => by have := rdy_mem.1 hi; rw [he] at this; cases this⟩
    · rename_i i0 l he
      refine ⟨fun h0 => ?_, fun i hi => ?_⟩
      · have : i0 ∈ Region.ready .any ops.toArray L.toArray := rdy_mem.2 (by rw [he]; exact List.mem_cons_self)
        rw [h0] at this; cases this
      · have hi' := rdy_mem.1 hi
        rw [he] at hi'
        have hi := allL_mem h i hi'
        unfold wpOp
        split at hi
        · rename_i o ho
          rw [nthO_eq] at ho
          have ho : ops.toArray[i]? = some o := by simpa using ho
          rw [ho]
          split at hi
          · rename_i hg
            simp only
            rw [if_pos (by simp [Region.wanted, hg])]
            refine .inl (vcOp_ok hE hH hi hr fun tm' hp' a' w' hK hr' => ?_)
            rw [setB_eq] at hK
            have := vcOrd_ok hQ fuel _ tm' hp' hK a' w' hr'
            rwa [← List.setIfInBounds_toArray] at this
          · exact hi.elim
        · exact hi.elim
end
/-- a region that draws: its end apart -/
def okReg (ops : Array Oper) : Bool :=
  match ops.toList.length - sufN ops.toList with
  | m => okDraw (ops.toList.take m).toArray && sufB (ops.toList.take m) (ops.toList.drop m)
/-- the regions of a piece of code that draw their order are such as the reckoner takes -/
def okC : Code → Bool
  | .region _ ops true => okReg ops
  | .seq a b => okC a && okC b
  | .cond _ a b => okC a && okC b
  | .block _ c => okC c
  | .loop c => okC c
  | _ => true
theorem rounds_mono {P : Program} {c : Code} {Q : Exit → Act → World → Prop} : ∀ {n m : Nat}, n ≤ m → ∀ {a : Act} {w : World}, Code.rounds P c Q n a w → Code.rounds P c Q m a w
  | 0, _, _, _, _, h => h.elim
  | n + 1, 0, h, _, _, _ => by omega
  | n + 1, m + 1, h, a, w, hr => by
    rw [rounds_succ] at hr ⊢
    refine wp_mono hr fun e a' w' hq => ?_
    cases e with
    | normal => exact rounds_mono (by omega) hq
    | exit id => exact hq
    | ret => exact hq
    | goto l => exact hq
    | panic c => exact hq
    | outgrown => exact hq
def QL (N : Nat) (w0 : Base) (Q : SE → List SV → List Blk → Prop) : Exit → Act → World → Prop
  | .normal, a, w => ∃ tm hp, Q .normal tm hp ∧ RelS N w0 tm hp a w
  | .exit id, a, w => ∃ tm hp, Q (.exit id) tm hp ∧ RelS N w0 tm hp a w
  | .ret, a, w => ∃ tm hp, Q .ret tm hp ∧ RelS N w0 tm hp a w
  | _, _, _ => False
theorem SameTm.den {l : List SV} : ∀ {m : List SV}, SameTm l m → ∀ ρ, l.map (SV.den ρ) = m.map (SV.den ρ) := by
  induction l with
  | nil =>
    intro m h ρ
    cases m with
    | nil => rfl
    | cons y m => exact h.elim
  | cons x l ih =>
    intro m h ρ
    cases m with
    | nil => exact h.elim
    | cons y m =>
      obtain ⟨h1, h2⟩ := h
      rw [List.map_cons, List.map_cons, h1 ρ, ih h2 ρ]
theorem SameHp.get {l : List Blk} : ∀ {m : List Blk}, SameHp l m → ∀ i c, nthO m i = some c → ∃ b, nthO l i = some b ∧ b.ty = c.ty ∧ b.ro = c.ro ∧ b.tl = c.tl ∧ ∀ ρ, cellsL ρ b.cs = cellsL ρ c.cs := by
  induction l with
  | nil =>
    intro m h i c hc
    cases m with
    | nil => simp [nthO] at hc
    | cons y m => exact h.elim
  | cons b l ih =>
    intro m h i c hc
    cases m with
    | nil => exact h.elim
    | cons d m =>
      obtain ⟨h1, h2⟩ := h
      cases i with
      | zero => simp [nthO] at hc; subst hc; exact ⟨b, rfl, h1⟩
      | succ i => exact ih h2 i c (by simpa [nthO] using hc)
theorem SameHp.symm {l : List Blk} : ∀ {m : List Blk}, SameHp l m → SameHp m l := by
  induction l with
  | nil =>
    intro m h
    cases m with
    | nil => exact h
    | cons y m => exact h.elim
  | cons b l ih =>
    intro m h
    cases m with
    | nil => exact h.elim
    | cons d m =>
      obtain ⟨⟨h1, h2, h5, h3⟩, h4⟩ := h
      exact ⟨⟨h1.symm, h2.symm, h5.symm, fun ρ => (h3 ρ).symm⟩, ih h4⟩
theorem RelS.same {N : Nat} {w0 : Base} {tm tm2 : List SV} {hp hp2 : List Blk} {a : Act} {w : World} (h : RelS N w0 tm hp a w) (e1 : SameTm tm tm2) (e2 : SameHp hp hp2) : RelS N w0 tm2 hp2 a w := by
  obtain ⟨ρ0, hh, ht, hd⟩ := h
  have hagr : ∀ ρ, Agr (nthO hp2) ρ ρ0 → Agr (nthO hp) ρ ρ0 := fun ρ hρ i hi => by
    obtain ⟨b, hb⟩ := Option.isSome_iff_exists.1 hi
    obtain ⟨c, hc, -⟩ := e2.symm.get i b hb
    exact hρ i (by rw [hc]; rfl)
  have hvoid : ∀ i b c, nthO hp i = some b → nthO hp2 i = some c → b.ro = c.ro → (∀ ρ, cellsL ρ b.cs = cellsL ρ c.cs) → c.void = false → b.void = false := fun i b c _ _ h2 h3 hv => by
    rcases void_or b with h | h
    · obtain ⟨h4, h5⟩ := void_spec h
      have h6 := h3 ρ0
      rw [h5] at h6
      have h7 : sizeC c.cs = 0 := by rw [sizeC_eq ρ0, ← h6]; rfl
      have h8 : c.cs = [] := by
        cases hc : c.cs with
        | nil => rfl
        | cons x l => rw [hc] at h7; cases x <;> simp [sizeC, C.n] at h7
      unfold Blk.void at hv
      rw [h8, ← h2, h4] at hv
      cases hv
    · exact h
  refine ⟨ρ0, ⟨fun i c hc hv => ?_, fun i c hc ho => ?_, fun i j c d hc ho hd hdv => ?_, fun ρ hρ i c hc => ?_, hh.bel, hh.big, fun i hi => ?_⟩, fun ρ hρ => (ht ρ (hagr ρ hρ)).trans (e1.den ρ), hd⟩
  · obtain ⟨b, hb, -, h2, -, h3⟩ := e2.get i c hc; exact hh.old i b hb (hvoid i b c hb hc h2 h3 hv)
  · obtain ⟨b, hb, -, h2, -⟩ := e2.get i c hc; exact hh.own i b hb (h2.trans ho)
  · obtain ⟨b, hb, -, h2, -⟩ := e2.get i c hc
    obtain ⟨b', hb', -, h2', -, h3'⟩ := e2.get j d hd
    exact hh.apart i j b b' hb (h2.trans ho) hb' (hvoid j b' d hb' hd h2' h3' hdv)
  · obtain ⟨b, hb, h1, h2, h5, h3⟩ := e2.get i c hc
    have := hh.holds ρ (hagr ρ hρ) i b hb
    unfold Holds at this ⊢
    rw [← h3 ρ, ← h1, ← h2, ← h5]
    exact this
  · have := hh.ext i hi
    refine ⟨?_, this.2⟩
    obtain ⟨b, hb⟩ := Option.isSome_iff_exists.1 this.1
    obtain ⟨c, hc, -⟩ := e2.symm.get i b hb
    rw [hc]; rfl
theorem posL_spec : ∀ {l : List Nat} {i k p : Nat}, posL l i k = some p → ∃ j, p = k + j ∧ l[j]? = some i
  | [], _, _, _, h => by simp [posL] at h
  | a :: l, i, k, p, h => by
    unfold posL at h
    split at h
    · rename_i e; cases h; exact ⟨0, rfl, by simp [e]⟩
    · obtain ⟨j, h1, h2⟩ := posL_spec h; exact ⟨j + 1, by omega, by simpa using h2⟩
theorem inB_iff : ∀ {l : List Nat} {a : Nat}, inB l a = true ↔ a ∈ l
  | [], a => by simp [inB]
  | b :: l, a => by simp only [inB, Bool.or_eq_true, beq_iff_eq, List.mem_cons, inB_iff (l := l)]; exact ⟨fun h => h.imp (fun e => e.symm) id, fun h => h.imp (fun e => e.symm) id⟩
theorem ndL_iff : ∀ {l : List Nat}, ndL l = true → ∀ i j a : Nat, l[i]? = some a → l[j]? = some a → i = j
  | [], _, i, j, a, h, _ => by simp at h
  | b :: l, hn, i, j, a, h1, h2 => by
    simp only [ndL, Bool.and_eq_true, Bool.not_eq_true'] at hn
    have hb : b ∉ l := fun h => by rw [inB_iff.2 h] at hn; cases hn.1
    cases i with
    | zero =>
      cases j with
      | zero => rfl
      | succ j => simp at h1 h2; subst h1; exact (hb (List.mem_of_getElem? h2)).elim
    | succ i =>
      cases j with
      | zero => simp at h1 h2; subst h2; exact (hb (List.mem_of_getElem? h1)).elim
      | succ j => simp at h1 h2; rw [ndL_iff hn.2 i j a h1 h2]
theorem posL_get : ∀ {l : List Nat} {k i : Nat} (j : Nat), ndL l = true → l[j]? = some i → posL l i k = some (k + j)
  | [], _, _, _, _, h => by simp at h
  | a :: l, k, i, 0, _, h => by simp at h; subst h; simp [posL]
  | a :: l, k, i, j + 1, hn, h => by
    have h' : l[j]? = some i := by simpa using h
    have hne : a ≠ i := fun e => by
      subst e
      have := ndL_iff hn 0 (j + 1) a (by simp) h
      omega
    have hn2 : ndL l = true := by simp only [ndL, Bool.and_eq_true] at hn; exact hn.2
    rw [posL, if_neg hne, posL_get j hn2 h']
    congr 1; omega
theorem preOk_spec : ∀ {n i : Nat} {l : List Nat}, preOk n i l = true → ∀ j, j < n → l[j]? = some (i + j)
  | 0, _, _, _, j, h => by omega
  | n + 1, i, [], h, _, _ => by simp [preOk] at h
  | n + 1, i, a :: l, h, j, hj => by
    simp only [preOk, Bool.and_eq_true, beq_iff_eq] at h
    cases j with
    | zero => simp [h.1]
    | succ j =>
      have := preOk_spec h.2 j (by omega)
      simp only [List.getElem?_cons_succ, this]
      congr 1; omega
/-- the same places under other numbers -/
def Link (sel : List Nat) (ρ ρ' : Rho) : Prop := ∀ i p, posL sel i 0 = some p → ρ i = ρ' p
theorem renP_den {sel : List Nat} {ρ ρ' : Rho} (h : Link sel ρ ρ') : ∀ {l m : List (Nat × Nat)}, renP sel l = some m → (l.map fun p => adr ρ p.1 p.2) = m.map fun p => adr ρ' p.1 p.2
  | [], m, hl => by simp [renP] at hl; subst hl; rfl
  | p :: l, m, hl => by
    unfold renP at hl
    split at hl
    · rename_i b l' hb hl'
      cases hl
      rw [List.map_cons, List.map_cons, renP_den h hl']
      simp only [adr, h _ _ hb]
    · cases hl
theorem ren_cells {sel : List Nat} {ρ ρ' : Rho} (h : Link sel ρ ρ') {x y : C} (hx : x.ren sel = some y) : x.cells ρ = y.cells ρ' := by
  cases x <;> simp only [C.ren] at hx <;> try (cases hx; rfl)
  case ptr b off => split at hx; (rename_i b' hb; cases hx; simp only [C.cells, adr, h _ _ hb]); cases hx
  case sli nl b off len cap hl => split at hx; (rename_i b' hb; cases hx; simp only [C.cells, h _ _ hb]); cases hx
  case fn f bd caps => split at hx; (rename_i c' hc; cases hx; simp only [C.cells, renP_den h hc]); cases hx
theorem renL_cells {sel : List Nat} {ρ ρ' : Rho} (h : Link sel ρ ρ') : ∀ {l m : List C}, renL sel l = some m → cellsL ρ l = cellsL ρ' m
  | [], m, hl => by simp [renL] at hl; subst hl; rfl
  | x :: l, m, hl => by
    unfold renL at hl
    split at hl
    · rename_i y l' hy hl'
      cases hl
      rw [cellsL_cons, cellsL_cons, ren_cells h hy, renL_cells h hl']
    · cases hl
theorem ren_t1 {sel : List Nat} {ρ ρ' : Rho} (h : Link sel ρ ρ') {x y : T1} (hx : x.ren sel = some y) : x.den ρ = y.den ρ' := by
  cases x with
  | c x =>
    simp only [T1.ren] at hx
    split at hx
    · rename_i z hz; cases hx; simp only [T1.den, C.den, ren_cells h hz]
    · cases hx
  | agg l =>
    simp only [T1.ren] at hx
    split at hx
    · rename_i z hz; cases hx; simp only [T1.den, renL_cells h hz]
    · cases hx
theorem renT_den {sel : List Nat} {ρ ρ' : Rho} (h : Link sel ρ ρ') : ∀ {l m : List T1}, renT sel l = some m → l.map (T1.den ρ) = m.map (T1.den ρ')
  | [], m, hl => by simp [renT] at hl; subst hl; rfl
  | x :: l, m, hl => by
    unfold renT at hl
    split at hl
    · rename_i y l' hy hl'
      cases hl
      rw [List.map_cons, List.map_cons, ren_t1 h hy, renT_den h hl']
    · cases hl
theorem ren_den {sel : List Nat} {ρ ρ' : Rho} (h : Link sel ρ ρ') {x y : SV} (hx : x.ren sel = some y) : x.den ρ = y.den ρ' := by
  cases x with
  | c x =>
    simp only [SV.ren] at hx
    split at hx
    · rename_i z hz; cases hx; simp only [SV.den, C.den, ren_cells h hz]
    · cases hx
  | agg l =>
    simp only [SV.ren] at hx
    split at hx
    · rename_i z hz; cases hx; simp only [SV.den, renL_cells h hz]
    · cases hx
  | tup l =>
    simp only [SV.ren] at hx
    split at hx
    · rename_i z hz; cases hx; simp only [SV.den, renT_den h hz]
    · cases hx
theorem renK_spec {sel keep : List Nat} {vs : Nat → Value} : ∀ {l : List SV} {i : Nat} {K : List SV → Prop}, renK sel keep vs i l K → ∃ m, K m ∧ ∀ ρ ρ', Link sel ρ ρ' → (∀ j x, l[j]? = some x → vs (i + j) = x.den ρ) → l.map (SV.den ρ) = m.map (SV.den ρ')
  | [], _, _, h => ⟨[], h, fun _ _ _ _ => rfl⟩
  | x :: l, i, K, h => by
    have tail : ∀ {ρ : Rho}, (∀ j y, (x :: l)[j]? = some y → vs (i + j) = y.den ρ) → ∀ j y, l[j]? = some y → vs (i + 1 + j) = y.den ρ := fun hv j y hy => by
      have := hv (j + 1) y (by simpa using hy)
      rw [show i + 1 + j = i + (j + 1) by omega]; exact this
    unfold renK at h
    split at h
    · obtain ⟨m, hm, hd⟩ := renK_spec h
      refine ⟨_, hm, fun ρ ρ' hl hv => ?_⟩
      rw [List.map_cons, List.map_cons, hd ρ ρ' hl (tail hv)]
      have := hv 0 x rfl
      rw [← this]; rfl
    · split at h
      · rename_i y hy
        obtain ⟨m, hm, hd⟩ := renK_spec h
        exact ⟨_, hm, fun ρ ρ' hl hv => by rw [List.map_cons, List.map_cons, hd ρ ρ' hl (tail hv), ren_den hl hy]⟩
      · obtain ⟨m, hm, hd⟩ := renK_spec h
        refine ⟨_, hm, fun ρ ρ' hl hv => ?_⟩
        rw [List.map_cons, List.map_cons, hd ρ ρ' hl (tail hv)]
        have := hv 0 x rfl
        rw [← this]; rfl
def SelB (sel : List Nat) (b c : Blk) : Prop := c.ty = b.ty ∧ c.ro = b.ro ∧ c.tl = b.tl ∧ (c.cs = b.cs ∧ PureL b.cs ∨ renL sel b.cs = some c.cs)
def SelOut (hp : List Blk) (sel l : List Nat) (K : List Blk → Prop) : Prop := ∃ m, K m ∧ m.length = l.length ∧ ∀ j a, l[j]? = some a → ∃ c, nthO m j = some c ∧ ((∃ b, nthO hp a = some b ∧ SelB sel b c) ∨ (nthO hp a = none ∧ c.void = true))
theorem selK_spec {hp : List Blk} {sel pf : List Nat} : ∀ {l : List Nat} {k : Nat} {K : List Blk → Prop}, selK hp sel pf k l K → SelOut hp sel l K
  | [], _, _, h => ⟨[], h, rfl, fun j a hj => by simp at hj⟩
  | a :: l, k, K, h => by
    have fin : ∀ c : Blk, ((∃ b, nthO hp a = some b ∧ SelB sel b c) ∨ (nthO hp a = none ∧ c.void = true)) → selK hp sel pf (k + 1) l (fun l => K (c :: l)) → SelOut hp sel (a :: l) K := fun c e h => by
      obtain ⟨m, hm, hlen, hj⟩ := selK_spec h
      refine ⟨c :: m, hm, by simp [hlen], fun j x hx => ?_⟩
      cases j with
      | zero => simp at hx; subst hx; exact ⟨c, rfl, e⟩
      | succ j => exact hj j x (by simpa using hx)
    unfold selK at h
    split at h
    · rename_i ty ro cs tl hb
      split at h
      · exact fin _ (.inl ⟨_, hb, rfl, rfl, rfl, .inl ⟨rfl, h.1⟩⟩) h.2
      · split at h
        · rename_i cs' hcs; exact fin ⟨ty, ro, cs', tl⟩ (.inl ⟨_, hb, rfl, rfl, rfl, .inr hcs⟩) h
        · exact h.elim
    · rename_i hb; exact fin _ (.inr ⟨hb, rfl⟩) h
/-- blocks chosen anew, slots forgotten -/
theorem endK_ok {N : Nat} {w0 : Base} {n0 : Nat} (hB : ∀ i, w0.B i → i < n0) {sel keep pf : List Nat} {tm : List SV} {hp : List Blk} {K : List SV → List Blk → Prop} {a : Act} {w : World} (hr : RelS N w0 tm hp a w)
    (h : endK n0 sel keep pf (fun t => a.tmps.toList.getD t undef) tm hp K) : ∃ tm2 hp2, K tm2 hp2 ∧ RelS N w0 tm2 hp2 a w := by
  unfold endK at h
  split at h
  · rename_i hok
    simp only [Bool.and_eq_true] at hok
    obtain ⟨hp2, h, hlen, hsel⟩ := selK_spec h
    obtain ⟨tm2, h, htm⟩ := renK_spec h
    refine ⟨tm2, hp2, h, ?_⟩
    obtain ⟨ρ0, hh, ht, hd⟩ := hr
    let σ : Rho := fun j => ρ0 (sel[j]?.getD 0)
    let back : Rho → Rho := fun ρ i => match posL sel i 0 with | some p => ρ p | none => ρ0 i
    have hlink : ∀ ρ, Link sel (back ρ) ρ := fun ρ i p hp => by show (match posL sel i 0 with | some p => ρ p | none => ρ0 i) = ρ p; rw [hp]
    have hget : ∀ j c, nthO hp2 j = some c → ∃ i, sel[j]? = some i ∧ ((∃ b, nthO hp i = some b ∧ SelB sel b c) ∨ (nthO hp i = none ∧ c.void = true)) := fun j c hc => by
      have hj : j < hp2.length := by rw [nthO_eq] at hc; exact (List.getElem?_eq_some_iff.1 hc).1
      obtain ⟨i, hi⟩ : ∃ i, sel[j]? = some i := ⟨_, List.getElem?_eq_getElem (by omega)⟩
      obtain ⟨c', h2, h3⟩ := hsel j i hi
      rw [hc] at h2; cases h2
      exact ⟨i, hi, h3⟩
    have hlive : ∀ j c, nthO hp2 j = some c → c.void = false → ∃ i b, sel[j]? = some i ∧ nthO hp i = some b ∧ SelB sel b c := fun j c hc hv => by
      obtain ⟨i, hi, h⟩ := hget j c hc
      rcases h with ⟨b, h1, h2⟩ | ⟨-, h2⟩
      · exact ⟨i, b, hi, h1, h2⟩
      · rw [h2] at hv; cases hv
    have hagr : ∀ ρ, Agr (nthO hp2) ρ σ → Agr (nthO hp) (back ρ) ρ0 := fun ρ hρ i hi => by
      show (match posL sel i 0 with | some p => ρ p | none => ρ0 i) = ρ0 i
      split
      · rename_i p hp'
        obtain ⟨j, e, hj⟩ := posL_spec hp'
        rw [Nat.zero_add] at e
        subst e
        obtain ⟨c, h2, -⟩ := hsel p i hj
        rw [hρ p (by rw [h2]; rfl)]
        show ρ0 (sel[p]?.getD 0) = ρ0 i
        rw [hj]; rfl
      · rfl
    have hback : ∀ ρ j i, sel[j]? = some i → back ρ i = ρ j := fun ρ j i hj => by
      show (match posL sel i 0 with | some p => ρ p | none => ρ0 i) = ρ j
      rw [posL_get j hok.2 hj, Nat.zero_add]
    have hσ : ∀ j i, sel[j]? = some i → σ j = ρ0 i := fun j i hj => by show ρ0 (sel[j]?.getD 0) = ρ0 i; rw [hj]; rfl
    have hcell : ∀ ρ (b c : Blk), SelB sel b c → cellsL (back ρ) b.cs = cellsL ρ c.cs := fun ρ b c hbc => by
      rcases hbc.2.2.2 with ⟨h1, h2⟩ | h1
      · rw [h1]; exact h2 _ _
      · exact renL_cells (hlink ρ) h1
    have hvoid : ∀ (b c : Blk), SelB sel b c → c.void = false → b.void = false := fun b c h hv => by
      obtain ⟨-, h2, -, h3⟩ := h
      rcases void_or b with h | h
      · obtain ⟨h4, h5⟩ := void_spec h
        have h6 : c.cs = [] := by
          rcases h3 with ⟨h7, -⟩ | h7
          · rw [h7, h5]
          · rw [h5] at h7; simp [renL] at h7; exact h7
        unfold Blk.void at hv
        rw [h6, h2, h4] at hv
        cases hv
      · exact h
    refine ⟨σ, ⟨fun j c hc hv => ?_, fun j c hc hro => ?_, fun j k c d hc hro hdk hdv hne => ?_, fun ρ hρ j c hc => ?_, hh.bel, hh.big, fun i hi => ?_⟩, fun ρ hρ => ?_, hd⟩
    · obtain ⟨i, b, h1, h2, h3⟩ := hlive j c hc hv
      rw [hσ j i h1]; exact hh.old i b h2 (hvoid b c h3 hv)
    · obtain ⟨i, b, h1, h2, h3⟩ := hlive j c hc (own_live hro)
      rw [hσ j i h1]; exact hh.own i b h2 (h3.2.1.symm.trans hro)
    · obtain ⟨i, b, h1, h2, h3⟩ := hlive j c hc (own_live hro)
      obtain ⟨i', b', h1', h2', h3'⟩ := hlive k d hdk hdv
      rw [hσ j i h1, hσ k i' h1']
      exact hh.apart i i' b b' h2 (h3.2.1.symm.trans hro) h2' (hvoid b' d h3' hdv) (fun e => hne (by subst e; exact ndL_iff hok.2 _ _ _ h1' h1))
    · rcases void_or c with hv | hv
      · exact Holds.void hv ρ j w
      · obtain ⟨i, b, h1, h2, h6⟩ := hlive j c hc hv
        have := hh.holds (back ρ) (hagr ρ hρ) i b h2
        unfold Holds at this ⊢
        rw [hcell ρ b c h6, hback ρ j i h1, ← h6.1, ← h6.2.1, ← h6.2.2.1] at this
        exact this
    · have h1 := preOk_spec hok.1 i (hB i hi)
      rw [Nat.zero_add] at h1
      have h2 := hh.ext i hi
      obtain ⟨c, h3, -⟩ := hsel i i h1
      exact ⟨by rw [h3]; rfl, (hσ i i h1).trans h2.2⟩
    · have e := ht (back ρ) (hagr ρ hρ)
      rw [← htm (back ρ) ρ (hlink ρ) (fun j x hx => ?_)]
      · exact e
      · rw [Nat.zero_add, e]
        simp [hx]
  · exact h.elim
section
variable {P : Program} {E : Env} (hE : EOk P E) (hm : P.follows .mixedOrders = true) {H : FuncId → List SV → List Blk → (SV → List Blk → Prop) → Prop} (hH : HOk P H)
include hE hm hH
theorem vcC_ok {N : Nat} {w0 : Base} (hB : ∀ i, w0.B i → i < E.n0) : ∀ (c : Code) (_ : okC c = true) (tm : List SV) (hp : List Blk) (Q : SE → List SV → List Blk → Prop), vcC E H c tm hp Q → ∀ a w, RelS N w0 tm hp a w → c.wp P (QL N w0 Q) a w
  | .skip, _, tm, hp, Q, h, a, w, hr => wp_skip ⟨tm, hp, h, hr⟩
  | .ret, _, tm, hp, Q, h, a, w, hr => wp_ret ⟨tm, hp, h, hr⟩
  | .exit id, _, tm, hp, Q, h, a, w, hr => wp_exit ⟨tm, hp, h, hr⟩
  | .seq x y, hk, tm, hp, Q, h, a, w, hr => by
    simp only [okC, Bool.and_eq_true] at hk
    refine wp_seq (wp_mono (vcC_ok hB x hk.1 tm hp _ h a w hr) fun e a' w' hq => ?_)
    cases e with
    | normal => obtain ⟨tm', hp', h1, h2⟩ := hq; exact vcC_ok hB y hk.2 tm' hp' Q h1 a' w' h2
    | exit id => exact hq
    | ret => exact hq
    | goto l => exact hq.elim
    | panic c => exact hq.elim
    | outgrown => exact hq.elim
  | .cond c x y, hk, tm, hp, Q, h, a, w, hr => by
    simp only [okC, Bool.and_eq_true] at hk
    unfold vcC at h
    split at h
    · rename_i b hb
      have he : a.eval c = .bool b := by
        obtain ⟨ρ0, -, ht, -⟩ := hr
        rw [eval_ok (ht ρ0 (Agr.refl _ _)), evr, hb]; rfl
      obtain ⟨h1, h2⟩ := bcase_of h
      exact wp_cond_split he (fun hb => vcC_ok hB x hk.1 tm hp Q (h1 hb) a w hr) (fun hb => vcC_ok hB y hk.2 tm hp Q (h2 hb) a w hr)
    · cases h
  | .block id c, hk, tm, hp, Q, h, a, w, hr => by
    refine wp_block (wp_mono (vcC_ok hB c hk tm hp _ h a w hr) fun e a' w' hq => ?_)
    cases e with
    | normal => exact hq
    | exit id' =>
      obtain ⟨tm', hp', h1, h2⟩ := hq
      simp only at h1
      show if id' = id then _ else _
      split
      · rename_i e; rw [if_pos e] at h1; exact ⟨tm', hp', h1, h2⟩
      · rename_i e; rw [if_neg e] at h1; exact ⟨tm', hp', h1, h2⟩
    | ret => exact hq
    | goto l => exact hq.elim
    | panic c => exact hq.elim
    | outgrown => exact hq.elim
  | .loop c, hk, tm, hp, Q, h, a, w, hr => by
    have ih : ∀ tm hp Q, vcC E H c tm hp Q → ∀ a w, RelS N w0 tm hp a w → c.wp P (QL N w0 Q) a w := fun tm hp Q h a w hr => vcC_ok hB c hk tm hp Q h a w hr
    have unroll : ∀ n tm hp, rounds (fun tm hp Q => vcC E H c tm hp Q) Q n tm hp → ∀ a w, RelS N w0 tm hp a w → Code.rounds P c (QL N w0 Q) n a w := by
      intro n
      induction n with
      | zero => intro tm hp h; exact h.elim
      | succ n ihn =>
        intro tm hp h a w hr
        rw [rounds_succ]
        refine wp_mono (ih tm hp _ h a w hr) fun e a' w' hq => ?_
        cases e with
        | normal => obtain ⟨tm', hp', h1, h2⟩ := hq; exact ihn tm' hp' h1 a' w' h2
        | exit id => exact hq
        | ret => exact hq
        | goto l => exact hq.elim
        | panic c => exact hq.elim
        | outgrown => exact hq.elim
    unfold vcC at h
    unfold loopQ at h
    split at h
    · rename_i n hn
      exact wp_loop_rounds (n + 1) (unroll _ tm hp h a w hr)
    · rcases h with ⟨n, h⟩ | ⟨I, hent, hround⟩
      · exact wp_loop_rounds n (unroll n tm hp h a w hr)
      · have enter : ∀ {tm hp} {J : List SV → List Blk → Prop} {a : Act} {w : World}, entK E.n0 tm hp J → RelS N w0 tm hp a w → ∃ tm2 hp2, J tm2 hp2 ∧ RelS N w0 tm2 hp2 a w := fun h hr => by
          obtain ⟨sel, keep, pf, h⟩ := h
          obtain ⟨tm1, hp1, ⟨tm2, hp2, e1, e2, hJ⟩, hr1⟩ := endK_ok hB hr (h _)
          exact ⟨tm2, hp2, hJ, hr1.same e1 e2⟩
        have lex : ∀ m tm hp', I m tm hp' → ∀ a w, RelS N w0 tm hp' a w → Code.rounds P c (QL N w0 Q) (m + 1) a w := by
          intro m
          induction m using Nat.strongRecOn with
          | _ m ihm =>
            intro tm hp' hI a w hr
            rw [rounds_succ]
            refine wp_mono (ih tm hp' _ (hround m tm hp' hI) a w hr) fun e a' w' hq => ?_
            cases e with
            | normal =>
              obtain ⟨tm', hp', h2, h3⟩ := hq
              obtain ⟨tm2, hp2, ⟨n', h1, hI2⟩, h4⟩ := enter h2 h3
              exact rounds_mono (by omega) (ihm n' h1 tm2 hp2 hI2 a' w' h4)
            | exit id => exact hq
            | ret => exact hq
            | goto l => exact hq.elim
            | panic c => exact hq.elim
            | outgrown => exact hq.elim
        obtain ⟨tm2, hp2, ⟨m, h0⟩, hr2⟩ := enter hent hr
        exact wp_loop_rounds _ (lex m tm2 hp2 h0 a w hr2)
  | .region id ops draw, hk, tm, hp, Q, h, a, w, hr => by
    unfold vcC at h
    cases draw with
    | true =>
      have hk : okReg ops = true := hk
      unfold okReg at hk
      simp only [Bool.and_eq_true] at hk
      have hsplit : (ops.toList.take (ops.toList.length - sufN ops.toList) ++ ops.toList.drop (ops.toList.length - sufN ops.toList)).toArray = ops := by rw [List.take_append_drop]
      have fin : ∀ tm' hp', vcOps E H ops (ops.toList.drop (ops.toList.length - sufN ops.toList)) tm' hp' (fun tm hp => Q .normal tm hp) → ∀ a' w', RelS N w0 tm' hp' a' w' → chainQ P (ops.toList.drop (ops.toList.length - sufN ops.toList)) (QL N w0 Q) .normal a' w' := fun tm' hp' h1 a' w' h2 =>
        vcOps_suf hE hH (fun tm' hp' a' w' h1 h2 => ⟨tm', hp', h1, h2⟩) _ _ hk.2 tm' hp' h1 a' w' h2
      have key : wpAny P .any (ops.toList.take (ops.toList.length - sufN ops.toList)).toArray (chainQ P (ops.toList.drop (ops.toList.length - sufN ops.toList)) (QL N w0 Q)) (ops.toList.take (ops.toList.length - sufN ops.toList)).toArray.size (Array.replicate (ops.toList.take (ops.toList.length - sufN ops.toList)).toArray.size false) a w.drew := by
        simp only at h
        split at h
        · exact vcDs_any hE hk.1 h hr fun tm' hp' a' w' h1 h2 => fin tm' hp' h1 a' w' h2
        · have := vcOrd_ok hE hH (fun tm' hp' a' w' h1 h2 => fin tm' hp' h1 a' w' h2) _ _ _ _ h _ _ hr.drew
          rw [falses_eq] at this
          simpa using this
      have key := wp_suf _ _ hk.2 key
      rw [hsplit] at key
      exact wp_region_any hm key
    | false => exact wp_region_list (vcOps_ok hE hH (fun tm' hp' a' w' h1 h2 => ⟨tm', hp', h1, h2⟩) ops.toList tm hp h a w hr)
  | .rangeFunc _ _ _ _, _, tm, hp, Q, h, a, w, hr => h.elim
  | .scope _, _, tm, hp, Q, h, a, w, hr => h.elim
  | .label _, _, tm, hp, Q, h, a, w, hr => h.elim
  | .goto _, _, tm, hp, Q, h, a, w, hr => h.elim
  | .refuse _, _, tm, hp, Q, h, a, w, hr => h.elim
end
end Go.Proofs.YtefgchmbdijjdaaGreatDoor

namespace Go.Proofs.YtefgchmbdijjdaaGreatDoor
open Go.RowKit

def gRes (tmps : Array Value) : ResultVar → Sem Value
  | .tmp t => pure (tmps.getD t undef)
  | .cell a t => do loadVar t (← asAddr (tmps.getD a undef))
theorem getD_den {a : Act} {tm : List SV} {ρ : Rho} (h : a.tmps.toList = tm.map (SV.den ρ)) (t : Nat) : a.tmps.getD t undef = (nth uv tm t).den ρ := by
  rw [nth_den, ← h]; simp
theorem sv_den (v : T1) (ρ : Rho) : v.sv.den ρ = v.den ρ := by cases v <;> rfl
section
variable {P : Program} {T : TypeId → Option TI} (hT : TOk P T)
include hT
theorem resV_ok {r : ResultVar} {tm : List SV} {hp : List Blk} {v : T1} (h : resV T r tm hp = some v) {a : Act} {ρ : Rho} {w : World} (ht : a.tmps.toList = tm.map (SV.den ρ)) (hh : ∀ i b, nthO hp i = some b → Holds ρ b i w) :
    (gRes a.tmps r).run P w = .ok (v.den ρ) w := by
  unfold resV at h
  split at h
  · rename_i t
    simp only [gRes, getD_den ht, Sem.run_pure]
    split at h
    · rename_i x hx; cases h; rw [hx]; rfl
    · rename_i l hx; cases h; rw [hx]; rfl
    · cases h
  · rename_i x t
    split at h
    · rename_i b off ti hx hti
      split at h
      · rename_i blk hb
        have hl : ∀ u, partC ti.agg blk.cs off ti.size = some u → (gRes a.tmps (.cell x t)).run P w = .ok (u.den ρ) w := fun u hu => by
          have := run_load_sx hT hti (hh b blk hb) hu
          simp only [Instr.loadAt, adr, Instr.sureAddr, Sem.run_bind, Sem.run_pure, Result.andThen_ok] at this
          have e : (SV.c (C.ptr b off)).den ρ = adr ρ b off := rfl
          simp only [gRes, getD_den ht, hx, e, adr, asAddr, Sem.run_bind, Sem.run_pure, Result.andThen_ok]
          exact this
        split at h
        · rename_i y hy; cases h; exact hl _ hy
        · rename_i l hy; cases h; exact hl _ hy
        · cases h
      · cases h
    · cases h
theorem resL_ok {tm : List SV} {hp : List Blk} : ∀ {rs : List ResultVar} {K : List T1 → Prop}, resL T rs tm hp K → ∃ l, K l ∧ ∀ {a : Act} {ρ : Rho} {w : World}, a.tmps.toList = tm.map (SV.den ρ) → (∀ i b, nthO hp i = some b → Holds ρ b i w) →
    (rs.mapM (gRes a.tmps)).run P w = .ok (l.map (T1.den ρ)) w
  | [], K, h => ⟨[], h, fun _ _ => rfl⟩
  | r :: rs, K, h => by
    unfold resL at h
    split at h
    · rename_i v hv
      rw [T1.force_eq] at h
      obtain ⟨l, hK, hl⟩ := resL_ok h
      refine ⟨v :: l, hK, fun ht hh => ?_⟩
      simp [List.mapM_cons, resV_ok hT hv ht hh, hl ht hh]
    · cases h
theorem retQ_ok {fn : Func} {tm : List SV} {hp : List Blk} {K : SV → List Blk → Prop} (h : retQ T fn.results.toList tm hp K) : ∃ v, K v hp ∧ ∀ {a : Act} {ρ : Rho} {w : World}, a.tmps.toList = tm.map (SV.den ρ) → (∀ i b, nthO hp i = some b → Holds ρ b i w) →
    (results fn a.tmps).run P w = .ok (v.den ρ) w := by
  unfold retQ at h
  obtain ⟨l, hK, hl⟩ := resL_ok hT h
  have hrun : ∀ {a : Act} {ρ : Rho} {w : World}, a.tmps.toList = tm.map (SV.den ρ) → (∀ i b, nthO hp i = some b → Holds ρ b i w) →
      (results fn a.tmps).run P w = .ok (if h : (l.map (T1.den ρ)).toArray.size = 1 then (l.map (T1.den ρ)).toArray[0] else .tuple (l.map (T1.den ρ)).toArray) w := fun {a ρ w} ht hh => by
    have := hl ht hh
    have e : results fn a.tmps = (do let vs ← fn.results.mapM (gRes a.tmps); pure (if h : vs.size = 1 then vs[0] else .tuple vs)) := by
      unfold results
      congr 1
    rw [e, Array.mapM_eq_mapM_toList]
    simp [this]
  split at hK
  · rename_i v
    exact ⟨v.sv, hK, fun ht hh => by rw [hrun ht hh]; simp [sv_den]⟩
  · rename_i hne
    refine ⟨.tup l, hK, fun ht hh => ?_⟩
    rw [hrun ht hh, dif_neg]
    · rfl
    · intro h1
      simp only [List.size_toArray, List.length_map] at h1
      obtain ⟨x, rfl⟩ := List.length_eq_one_iff.1 h1
      exact hne x rfl
end
/-- a function is such as the reckoner takes -/
structure FnOk (P : Program) (f : FuncId) (fn : Func) : Prop where
  get : P.funcs[f]? = some fn
  body : (match fn.body with | some c => okC c | none => false) = true
  name : (fn.name == "runtime.NumGoroutine") = false
theorem FnOk.callable {P : Program} {f : FuncId} {fn : Func} (h : FnOk P f fn) : Callable P f := by
  refine ⟨fn, h.get, ?_, h.name⟩
  have := h.body
  cases hb : fn.body <;> simp_all
section
variable {P : Program} {E : Env} (hE : EOk P E) (hm : P.follows .mixedOrders = true)
include hE hm
theorem fn_ok {H : FuncId → List SV → List Blk → (SV → List Blk → Prop) → Prop} (hH : HOk P H) {f : FuncId} {fn : Func} (hf : FnOk P f fn) {args : List SV} {hp : List Blk} {K : SV → List Blk → Prop} (h : vcF E H fn args hp K)
    (N : Nat) (w0 : Base) (ρ0 : Rho) (w : World) (hh : HRel N w0 (nthO hp) ρ0 w) (hargs : ∀ ρ, Agr (nthO hp) ρ ρ0 → args.map (SV.den ρ) = args.map (SV.den ρ0)) :
    Calls P f (args.map (SV.den ρ0)).toArray w fun e w' => ∃ v hp' ρ0', K v hp' ∧ HRel N w0 (nthO hp') ρ0' w' ∧ (∀ i, (nthO hp i).isSome = true → (nthO hp' i).isSome = true ∧ ρ0' i = ρ0 i) ∧ ∀ ρ, Agr (nthO hp') ρ ρ0' → e = .returned (v.den ρ) := by
  obtain ⟨hget, hbody, -⟩ := hf
  unfold vcF at h
  cases hc : fn.body with
  | none => rw [hc] at h; exact h.elim
  | some c =>
    rw [hc] at h hbody
    simp only [padK_eq, appK_eq] at h
    -- the blocks of the caller stay where they are
    let w1 : Base := ⟨w0.w, fun i => w0.B i ∨ (nthO hp i).isSome = true, ρ0⟩
    have hh1 : HRel N w1 (nthO hp) ρ0 w := ⟨hh.old, hh.own, hh.apart, hh.holds, hh.bel, hh.big, fun i hi => by
      rcases hi with hi | hi
      · exact ⟨(hh.ext i hi).1, rfl⟩
      · exact ⟨hi, rfl⟩⟩
    have hr : RelS N w1 (args ++ List.replicate (fn.ntmps - args.length) uv) hp { tmps := (args.map (SV.den ρ0)).toArray ++ Array.replicate (fn.ntmps - (args.map (SV.den ρ0)).toArray.size) undef, defers := [] } w := by
      refine ⟨ρ0, hh1, fun ρ hρ => ?_, rfl⟩
      simp [← hargs ρ hρ, den_uv]
    have hE' : EOk P { T := E.T, un := E.un, D := E.D, O := E.O, n0 := hp.length, ord := E.ord } := ⟨hE.T, hE.D, hE.O⟩
    refine calls_of_wp hget hc (wp_mono (vcC_ok hE' hm hH (fun i hi => ?_) c hbody _ _ _ h _ w hr) fun e a' w' hq => ?_)
    · have h1 : (nthO hp i).isSome = true := by
        rcases hi with hi | hi
        · exact (hh.ext i hi).1
        · exact hi
      show i < hp.length
      rw [nthO_eq] at h1
      obtain ⟨b, hb⟩ := Option.isSome_iff_exists.1 h1
      exact (List.getElem?_eq_some_iff.1 hb).1
    have fin : ∀ tm' hp', retQ E.T fn.results.toList tm' hp' K → RelS N w1 tm' hp' a' w' → a'.defers = [] ∧ ∃ v, (results fn a'.tmps).run P w' = .ok v w' ∧ ∃ v' hp' ρ0', K v' hp' ∧ HRel N w0 (nthO hp') ρ0' w' ∧
        (∀ i, (nthO hp i).isSome = true → (nthO hp' i).isSome = true ∧ ρ0' i = ρ0 i) ∧ ∀ ρ, Agr (nthO hp') ρ ρ0' → Ending.returned v = .returned (v'.den ρ) := by
      intro tm' hp' hret hr'
      obtain ⟨v, hK, hrun⟩ := retQ_ok hE.T hret
      obtain ⟨ρ1, hh', ht, hd⟩ := hr'
      have key : ∀ ρ, Agr (nthO hp') ρ ρ1 → (results fn a'.tmps).run P w' = .ok (v.den ρ) w' := fun ρ hρ => hrun (ht ρ hρ) (hh'.holds ρ hρ)
      have h0 := key ρ1 (Agr.refl _ _)
      refine ⟨hd, _, h0, v, hp', ρ1, hK, ⟨hh'.old, hh'.own, hh'.apart, hh'.holds, hh'.bel, hh'.big, fun i hi => ?_⟩, fun i hi => hh'.ext i (.inr hi), fun ρ hρ => ?_⟩
      · have := hh'.ext i (.inl hi)
        exact ⟨this.1, this.2.trans (hh.ext i hi).2⟩
      · have := key ρ hρ
        rw [h0] at this
        simpa using this
    cases e with
    | normal => obtain ⟨tm', hp', h1, h2⟩ := hq; exact fin tm' hp' h1 h2
    | ret => obtain ⟨tm', hp', h1, h2⟩ := hq; exact fin tm' hp' h1 h2
    | exit id => obtain ⟨tm', hp', h1, h2⟩ := hq; exact h1.elim
    | goto l => exact hq.elim
    | panic c => exact hq.elim
    | outgrown => exact hq.elim
/-- functions walked in place -/
theorem inl_ok {F : FuncId → Option Func} (hF : ∀ f fn, F f = some fn → FnOk P f fn) : ∀ n, HOk P (inl E F n)
  | 0 => fun f args hp K h => h.elim
  | n + 1 => fun f args hp K h => by
    unfold inl at h
    split at h
    · rename_i fn hfn
      exact ⟨(hF f fn hfn).callable, fun N w0 ρ0 w hh hargs => fn_ok hE hm (inl_ok hF n) (hF f fn hfn) h N w0 ρ0 w hh hargs⟩
    · exact h.elim
/-- a function of values: what it hands back -/
theorem pure_ok {F : FuncId → Option Func} (hF : ∀ f fn, F f = some fn → FnOk P f fn) {n : Nat} {f : FuncId} {fn : Func} (hf : FnOk P f fn) {args : List SV} {v : SV} (hpure : ∀ ρ ρ', v.den ρ = v.den ρ') (hap : ∀ ρ ρ', args.map (SV.den ρ) = args.map (SV.den ρ'))
    (h : vcF E (inl E F n) fn args [] fun u _ => ∀ ρ, u.den ρ = v.den ρ) (ρ : Rho) (w : World) :
    Calls P f (args.map (SV.den ρ)).toArray w fun e w' => e = .returned (v.den ρ) ∧ Below w.heap.size w w' := by
  have hh : HRel w.heap.size ⟨w, fun _ => False, ρ⟩ (nthO []) ρ w := ⟨fun i b h => by simp [nthO] at h, fun i b h => by simp [nthO] at h, fun i j b c h => by simp [nthO] at h, fun ρ _ i b h => by simp [nthO] at h, Below.refl _ _, Nat.le_refl _, fun i h => h.elim⟩
  refine (fn_ok hE hm (inl_ok hE hm hF n) hf h w.heap.size _ ρ w hh (fun ρ' _ => hap ρ' ρ)).mono ?_
  rintro e w' ⟨u, hp', ρ1, hu, hh', -, he⟩
  have := he ρ1 (Agr.refl _ _)
  exact ⟨by rw [this, hu ρ1, hpure ρ1 ρ], hh'.bel⟩
/-- a function that reads blocks of its caller's: what it hands back -/
theorem read_ok {F : FuncId → Option Func} (hF : ∀ f fn, F f = some fn → FnOk P f fn) {n : Nat} {f : FuncId} {fn : Func} (hf : FnOk P f fn) {args : List SV} {hp : List Blk} {v : SV} (hpure : ∀ ρ ρ', v.den ρ = v.den ρ')
    (hb : ∀ i b, nthO hp i = some b → b.ro = true ∧ PureL b.cs) (ρ : Rho) (hap : ∀ ρ', Agr (nthO hp) ρ' ρ → args.map (SV.den ρ') = args.map (SV.den ρ))
    (h : vcF E (inl E F n) fn args hp fun u _ => ∀ ρ, u.den ρ = v.den ρ) (w : World) (hr : ∀ i b, nthO hp i = some b → w.rangeAt (ρ i).1 (ρ i).2 (cellsL ρ b.cs)) :
    Calls P f (args.map (SV.den ρ)).toArray w fun e w' => e = .returned (v.den ρ) ∧ Below w.heap.size w w' := by
  have hh : HRel w.heap.size ⟨w, fun _ => False, ρ⟩ (nthO hp) ρ w := by
    refine ⟨fun i b hi _ => ?_, fun i b hi ho => ?_, fun i j b c hi ho => ?_, fun ρ' hρ i b hi => ?_, Below.refl _ _, Nat.le_refl _, fun i h => h.elim⟩
    · rename_i hv
      have h0 : 0 < sizeC b.cs := by
        cases hc : b.cs with
        | nil =>
          unfold Blk.void at hv
          rw [hc, (hb i b hi).1] at hv
          cases hv
        | cons x l => cases x <;> simp [sizeC, C.n] <;> omega
      rw [sizeC_eq ρ] at h0
      exact block_lt_of_cell (hr i b hi 0 _ (List.getElem?_eq_getElem h0))
    · rw [(hb i b hi).1] at ho; cases ho
    · rw [(hb i b hi).1] at ho; cases ho
    · obtain ⟨h1, h3⟩ := hb i b hi
      refine ⟨?_, fun ho => by rw [h1] at ho; cases ho⟩
      have h3 : cellsL ρ' b.cs = cellsL ρ b.cs := h3 ρ' ρ
      rw [hρ i (by rw [hi]; rfl), h3]
      exact hr i b hi
  refine (fn_ok hE hm (inl_ok hE hm hF n) hf h w.heap.size _ ρ w hh hap).mono ?_
  rintro e w' ⟨u, hp', ρ1, hu, hh', -, he⟩
  have := he ρ1 (Agr.refl _ _)
  exact ⟨by rw [this, hu ρ1, hpure ρ1 ρ], hh'.bel⟩
end
end Go.Proofs.YtefgchmbdijjdaaGreatDoor
