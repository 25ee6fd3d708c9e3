/- What == says of values whose cells are bools, integers and strings. -/
import Derived.DeepKeys
import Derived.Test.YtapppahniablmaaDoorNum
namespace Go.Proofs.YtapppahniablmaaDoor
open Go.RowKit

inductive K where
  | b
  | i (k : IntKind)
  | s
def K.fits : K → Value → Prop
  | .b, .bool _ => True
  | .i k, .int j _ => j = k
  | .s, .string _ => True
  | _, _ => False
def Fits : List K → List Value → Prop
  | [], [] => True
  | k :: ks, v :: vs => k.fits v ∧ Fits ks vs
  | _, _ => False
theorem Fits.length : ∀ {ks : List K} {vs : List Value}, Fits ks vs → vs.length = ks.length
  | [], [], _ => rfl
  | _ :: _, _ :: _, h => by simp [Fits.length h.2]
theorem Fits.append : ∀ {ks js : List K} {vs us : List Value}, Fits ks vs → Fits js us → Fits (ks ++ js) (vs ++ us)
  | [], _, [], _, _, h => h
  | _ :: _, _, _ :: _, _, h, h' => ⟨h.1, Fits.append h.2 h'⟩
theorem Fits.split : ∀ {ks js : List K} {vs : List Value}, Fits (ks ++ js) vs → Fits ks (vs.take ks.length) ∧ Fits js (vs.drop ks.length)
  | [], _, _, h => ⟨trivial, h⟩
  | _ :: _, _, _ :: _, h => ⟨⟨h.1, (Fits.split h.2).1⟩, (Fits.split h.2).2⟩
def repK : Nat → List K → List K
  | 0, _ => []
  | n + 1, ks => ks ++ repK n ks
theorem repK_length (n : Nat) (ks : List K) : (repK n ks).length = n * ks.length := by
  induction n with
  | zero => simp [repK]
  | succ n ih => rw [repK, List.length_append, ih, Nat.succ_mul]; omega
theorem Fits.chunk : ∀ {n : Nat} {ks : List K} {vs : List Value}, Fits (repK n ks) vs → ∀ i, i < n → Fits ks ((vs.drop (i * ks.length)).take ks.length)
  | 0, _, _, _, _, h => absurd h (by omega)
  | n + 1, ks, vs, h, 0, _ => by simpa using (Fits.split h).1
  | n + 1, ks, vs, h, i + 1, hi => by
    have := Fits.chunk (Fits.split h).2 i (by omega)
    rw [List.drop_drop] at this
    rw [Nat.succ_mul, Nat.add_comm]
    exact this

def rowO (P : Program) (t : TypeId) : Option Bool := (P.underlying t).map TypeDesc.isRow
def mkV (row : Bool) (vs : List Value) : Value := if row then .agg vs.toArray else vs.headD undef

section
variable {P : Program}
theorem run_isAggO {t : TypeId} {b : Bool} (h : rowO P t = some b) (w : World) : (isAgg t).run P w = .ok b w := by
  unfold rowO at h
  cases hu : P.underlying t with
  | none => simp [hu] at h
  | some d =>
    simp only [hu, Option.map_some, Option.some.injEq] at h
    unfold isAgg
    rw [Sem.run_bind, run_underlying hu w]
    cases d <;> simp_all [TypeDesc.isRow]
theorem info_of_rowO {t : TypeId} {b : Bool} (h : rowO P t = some b) : ∃ i, P.info? t = some i := by
  unfold rowO at h
  cases hu : P.underlying t with
  | none => simp [hu] at h
  | some d => exact info_of_underlying hu
theorem run_partO {t : TypeId} {b : Bool} (h : rowO P t = some b) (w : World) (xs : List Value) (off : Nat) (hlt : off + P.cellsOf t ≤ xs.length) (h1 : b = false → P.cellsOf t = 1) :
    (part t xs.toArray off).run P w = .ok (mkV b ((xs.drop off).take (P.cellsOf t))) w := by
  obtain ⟨i, hi⟩ := info_of_rowO h
  unfold part mkV
  rw [Sem.run_bind, run_isAggO h w]
  cases b with
  | true =>
    simp [run_sizeOf w hi, List.extract]
  | false =>
    have hc := h1 rfl
    have : xs[off]? = some xs[off] := List.getElem?_eq_getElem (by omega)
    rw [hc]
    have e : List.take 1 (List.drop off xs) = [xs[off]'(by omega)] := by
      rw [List.drop_eq_getElem_cons (by omega)]; rfl
    simp [this, e]

def kf (P : Program) (g : TypeId → Option (List K)) : Nat → List Field → Option (List K)
  | _, [] => some []
  | off, f :: fs =>
    if f.offset = off ∧ f.name ≠ "_" ∧ (P.info? f.type).isSome = true then
      (match g f.type with
      | some ks => if P.cellsOf f.type = ks.length ∧ 0 < ks.length then (match kf P g (off + ks.length) fs with | some js => some (ks ++ js) | none => none) else none
      | none => none)
    else none
def kindsOf (P : Program) : Nat → TypeId → Option (List K)
  | 0, _ => none
  | d + 1, t =>
    match P.underlying t with
    | some .bool => some [.b]
    | some (.int k) => some [.i k]
    | some .string => some [.s]
    | some (.array n e) => (match kindsOf P d e with
      | some ks => if P.cellsOf e = ks.length ∧ 0 < ks.length ∧ (P.info? e).isSome = true then some (repK n ks) else none
      | none => none)
    | some (.struct fs) => if P.stoodInHeld t = false then kf P (kindsOf P d) 0 fs.toList else none
    | _ => none
theorem kindsOf_row {d : Nat} {t : TypeId} {ks : List K} (h : kindsOf P d t = some ks) : ∃ b, rowO P t = some b ∧ (b = false → ks.length = 1) := by
  cases d with
  | zero => simp [kindsOf] at h
  | succ d =>
    unfold kindsOf at h
    unfold rowO
    cases hu : P.underlying t with
    | none => simp [hu] at h
    | some k => cases k <;> simp_all [TypeDesc.isRow] <;> (subst h; rfl)
/-- d more levels than the type has -/
def EqAtK (P : Program) (d : Nat) (t : TypeId) (ks : List K) : Prop :=
  ∀ w xs ys b, rowO P t = some b → Fits ks xs → Fits ks ys → ∃ r : Bool, (Op.equalIn d t (mkV b xs) (mkV b ys)).run P w = .ok r w ∧ (r = true ↔ xs = ys)

theorem eqItemsK (d : Nat) {e : TypeId} {ks : List K} {b : Bool} (he : EqAtK P d e ks) (hb : rowO P e = some b) (hc : P.cellsOf e = ks.length) (h1 : b = false → ks.length = 1) (w : World) (xs ys : List Value) (hl : xs.length = ys.length) :
    ∀ is : List Nat, (∀ i ∈ is, (i + 1) * ks.length ≤ xs.length ∧ Fits ks ((xs.drop (i * ks.length)).take ks.length) ∧ Fits ks ((ys.drop (i * ks.length)).take ks.length)) →
      ∃ r : Bool, (Op.eqItems d e (P.cellsOf e) xs.toArray ys.toArray is).run P w = .ok r w ∧ (r = true ↔ ∀ i ∈ is, (xs.drop (i * ks.length)).take ks.length = (ys.drop (i * ks.length)).take ks.length)
  | [], _ => ⟨true, rfl, by simp⟩
  | i :: is, h => by
    obtain ⟨hi, hx, hy⟩ := h i (by simp)
    have hm : i * ks.length + ks.length ≤ xs.length := by rw [Nat.succ_mul] at hi; exact hi
    have p1 := run_partO hb w xs (i * ks.length) (by rw [hc]; omega) (fun h => by rw [hc]; exact h1 h)
    have p2 := run_partO hb w ys (i * ks.length) (by rw [hc]; omega) (fun h => by rw [hc]; exact h1 h)
    obtain ⟨r, hr, hiff⟩ := he w _ _ b hb hx hy
    obtain ⟨r', hr', hiff'⟩ := eqItemsK d he hb hc h1 w xs ys hl is (fun j hj => h j (by simp [hj]))
    rw [hc] at p1 p2 hr' ⊢
    cases r
    · refine ⟨false, ?_, ?_⟩
      · simp [Op.eqItems, p1, p2, hr]
      · simp only [Bool.false_eq_true, false_iff]
        intro h
        exact absurd (hiff.2 (h i (by simp))) (by simp)
    · refine ⟨r', ?_, ?_⟩
      · simp [Op.eqItems, p1, p2, hr, hr']
      · rw [hiff']
        constructor
        · intro h j hj
          rcases List.mem_cons.1 hj with rfl | hj
          · exact hiff.1 rfl
          · exact h j hj
        · intro h j hj; exact h j (by simp [hj])
theorem eqFieldsK (d : Nat) {g : TypeId → Option (List K)} (hg : ∀ t ks, g t = some ks → EqAtK P d t ks ∧ ∃ b, rowO P t = some b ∧ (b = false → ks.length = 1)) (w : World) (xs ys : List Value) :
    ∀ (fs : List Field) (off : Nat) (ks : List K), kf P g off fs = some ks → off + ks.length = xs.length → xs.length = ys.length → Fits ks (xs.drop off) → Fits ks (ys.drop off) →
      ∃ r : Bool, (Op.eqFields d xs.toArray ys.toArray fs).run P w = .ok r w ∧ (r = true ↔ xs.drop off = ys.drop off)
  | [], off, ks, h, hl, hxy, _, _ => by
    simp [kf] at h
    subst h
    refine ⟨true, by simp [Op.eqFields], ?_⟩
    simp at hl
    simp [List.drop_eq_nil_of_le (show xs.length ≤ off by omega), List.drop_eq_nil_of_le (show ys.length ≤ off by omega)]
  | f :: fs, off, ks, h, hl, hxy, hx, hy => by
    unfold kf at h
    split at h
    · rename_i hf
      obtain ⟨rfl, hn, hi⟩ := hf
      split at h
      · rename_i k1 hk1
        split at h
        · rename_i hc
          split at h
          · rename_i js hjs
            cases h
            obtain ⟨he, b, hb, h1⟩ := hg _ _ hk1
            obtain ⟨fx, rx⟩ := Fits.split hx
            obtain ⟨fy, ry⟩ := Fits.split hy
            rw [List.drop_drop] at rx ry
            simp only [List.length_append] at hl
            have p1 := run_partO hb w xs f.offset (by rw [hc.1]; omega) (fun h => by rw [hc.1]; exact h1 h)
            have p2 := run_partO hb w ys f.offset (by rw [hc.1]; omega) (fun h => by rw [hc.1]; exact h1 h)
            rw [hc.1] at p1 p2
            obtain ⟨r, hr, hiff⟩ := he w _ _ b hb fx fy
            obtain ⟨r', hr', hiff'⟩ := eqFieldsK d hg w xs ys fs (f.offset + k1.length) js hjs (by omega) hxy rx ry
            have key : xs.drop f.offset = ys.drop f.offset ↔ (xs.drop f.offset).take k1.length = (ys.drop f.offset).take k1.length ∧ xs.drop (f.offset + k1.length) = ys.drop (f.offset + k1.length) := by
              constructor
              · intro e
                refine ⟨by rw [e], ?_⟩
                have := congrArg (List.drop k1.length) e
                simpa [List.drop_drop] using this
              · rintro ⟨e1, e2⟩
                rw [← List.take_append_drop k1.length (xs.drop f.offset), ← List.take_append_drop k1.length (ys.drop f.offset), List.drop_drop, List.drop_drop, e1, e2]
            rw [key]
            cases r
            · refine ⟨false, by simp [Op.eqFields, hn, p1, p2, hr], ?_⟩
              simp only [Bool.false_eq_true, false_iff]
              rintro ⟨h1, -⟩
              exact absurd (hiff.2 h1) (by simp)
            · refine ⟨r', by simp [Op.eqFields, hn, p1, p2, hr, hr'], ?_⟩
              rw [hiff', ← hiff]
              simp
          · cases h
        · cases h
      · cases h
    · cases h
theorem eqK : ∀ (d : Nat) (t : TypeId) (ks : List K), kindsOf P d t = some ks → ∀ m, EqAtK P (m + d) t ks
  | 0, _, _, h, _ => by simp [kindsOf] at h
  | d + 1, t, ks, h, m => by
    intro w xs ys b hb hx hy
    unfold kindsOf at h
    cases hu : P.underlying t with
    | none => simp [hu] at h
    | some k =>
      have hb' : k.isRow = b := by simpa [rowO, hu] using hb
      subst hb'
      cases k <;> simp only [hu] at h <;> try (cases h; done)
      case bool =>
        cases h
        match xs, ys, hx, hy with
        | [.bool x], [.bool y], _, _ => exact ⟨x == y, run_equalIn_bool w (m + d) t x y hu, by simp⟩
      case int q =>
        cases h
        match xs, ys, hx, hy with
        | [.int j x], [.int j' y], hx, hy =>
          have e1 : j = q := hx.1
          have e2 : j' = q := hy.1
          subst e1; subst e2
          exact ⟨x == y, run_equalIn_int w (m + d) t _ _ x y hu, by simp⟩
      case string =>
        cases h
        match xs, ys, hx, hy with
        | [.string x], [.string y], _, _ => exact ⟨x.toList == y.toList, run_equalIn_string w (m + d) t x y hu, by simp [ByteArray.toList_eq, ByteArray.ext_iff, ← Array.toList_inj]⟩
      case array n e =>
        split at h
        · rename_i k1 hk1
          split at h
          · rename_i hc
            cases h
            obtain ⟨b, hb1, h1⟩ := kindsOf_row hk1
            obtain ⟨i, hi⟩ := info_of_rowO hb1
            have lx := hx.length
            have ly := hy.length
            rw [repK_length] at lx ly
            obtain ⟨r, hr, hiff⟩ := eqItemsK (m + d) (eqK d e k1 hk1 m) hb1 hc.1 h1 w xs ys (by omega) (List.range n) (fun i hi => by
              have hi := List.mem_range.1 hi
              refine ⟨?_, hx.chunk i hi, hy.chunk i hi⟩
              rw [lx]; exact Nat.mul_le_mul_right _ hi)
            refine ⟨r, ?_, ?_⟩
            · show (Op.equalIn (m + d + 1) t (.agg xs.toArray) (.agg ys.toArray)).run P w = _
              rw [run_equalIn_array w (m + d) _ _ hu hi]; exact hr
            · rw [hiff]
              constructor
              · intro hall
                apply List.ext_getElem?
                intro j
                by_cases hj : j < xs.length
                · have hk : 0 < k1.length := hc.2.1
                  have hjn : j / k1.length < n := Nat.div_lt_of_lt_mul (by rw [Nat.mul_comm, ← lx]; exact hj)
                  have := congrArg (·[j % k1.length]?) (hall _ (List.mem_range.2 hjn))
                  simp only [List.getElem?_take, Nat.mod_lt _ hk, if_true, List.getElem?_drop] at this
                  rw [Nat.mul_comm, Nat.div_add_mod] at this
                  exact this
                · rw [List.getElem?_eq_none (by omega), List.getElem?_eq_none (by omega)]
              · intro e i _; rw [e]
          · cases h
        · cases h
      case struct fs =>
        split at h
        · rename_i hst
          have hfs : P.fieldsOf t = fs := by simp [Program.fieldsOf, hu]
          have lx := hx.length
          have ly := hy.length
          obtain ⟨r, hr, hiff⟩ := eqFieldsK (m + d) (g := kindsOf P d) (fun t ks hk => ⟨eqK d t ks hk m, kindsOf_row hk⟩) w xs ys fs.toList 0 ks h (by omega) (by omega) (by simpa using hx) (by simpa using hy)
          refine ⟨r, ?_, by simpa using hiff⟩
          show (Op.equalIn (m + d + 1) t (.agg xs.toArray) (.agg ys.toArray)).run P w = _
          rw [run_equalIn_struct w (m + d) t _ _ (by rw [hfs]; exact hu) hst, hfs]; exact hr
        · cases h
end
end Go.Proofs.YtapppahniablmaaDoor
