/- Count and First, of ray and of the reference, by the reckoner: one value. law 22: Mod, near, sanity. law 22: laws over shapes that are known, their frame. -/
import Derived.Test.YtefgchmbdijjdaaGreatDoorRyb
import Derived.Test.YtefgchmbdijjdaaGreatDoorBas
import Derived.Test.YtefgchmbdijjdaaGreatDoorTrd
namespace Go.Proofs.YtefgchmbdijjdaaGreatDoor
open Go.RowKit
set_option maxRecDepth 100000

/-- a function that reads blocks of its caller's: what it hands back -/
theorem read_okH {P : Program} {E : Env} (hE : EOk P E) (hm : P.follows .mixedOrders = true) {H : FuncId → List SV → List Blk → (SV → List Blk → Prop) → Prop} (hH : HOk P H) {f : FuncId} {fn : Func} (hf : FnOk P f fn) {args : List SV} {hp : List Blk} {v : SV} (hpure : ∀ ρ ρ', v.den ρ = v.den ρ')
    (hb : ∀ i b, nthO hp i = some b → b.ro = true ∧ PureL b.cs) (ρ : Rho) (hap : ∀ ρ', Agr (nthO hp) ρ' ρ → args.map (SV.den ρ') = args.map (SV.den ρ))
    (h : vcF E H fn args hp fun u _ => ∀ ρ, u.den ρ = v.den ρ) (w : World) (hr : ∀ i b, nthO hp i = some b → w.rangeAt (ρ i).1 (ρ i).2 (cellsL ρ b.cs)) :
    Calls P f (args.map (SV.den ρ)).toArray w fun e w' => e = .returned (v.den ρ) ∧ Below w.heap.size w w' := by
  have hh0 : HRel w.heap.size ⟨w, fun _ => False, ρ⟩ (nthO hp) ρ w := by
    refine ⟨fun i b hi _ => ?_, fun i b hi ho => ?_, fun i j b c hi ho => ?_, fun ρ' hρ i b hi => ?_, Below.refl _ _, Nat.le_refl _, fun i h => h.elim⟩
    · rename_i hv
      have h0 : 0 < sizeC b.cs := by
        cases hc : b.cs with
        | nil =>
          unfold Blk.void at hv
          rw [hc, (hb i b hi).1] at hv
          cases hv
        | cons x l => cases x <;> simp [sizeC, C.n] <;> omega
      rw [sizeC_eq ρ] at h0
      exact block_lt_of_cell (hr i b hi 0 _ (List.getElem?_eq_getElem h0))
    · rw [(hb i b hi).1] at ho; cases ho
    · rw [(hb i b hi).1] at ho; cases ho
    · obtain ⟨h1, h3⟩ := hb i b hi
      refine ⟨?_, fun ho => by rw [h1] at ho; cases ho⟩
      have h3 : cellsL ρ' b.cs = cellsL ρ b.cs := h3 ρ' ρ
      rw [hρ i (by rw [hi]; rfl), h3]
      exact hr i b hi
  refine (fn_ok hE hm hH hf h w.heap.size _ ρ w hh0 hap).mono ?_
  rintro e w' ⟨u, hp', ρ1, hu, hh', -, he⟩
  have := he ρ1 (Agr.refl _ _)
  exact ⟨by rw [this, hu ρ1, hpure ρ1 ρ], hh'.bel⟩
/-- the first of the least -/
def Best (c : Nat → Bool) (q : Nat → Rat) (m n : Nat) (s : Option Nat) : Prop := match s with
  | none => ∀ j, m ≤ j → j < n → c j = false
  | some i => m ≤ i ∧ i < n ∧ c i = true ∧ ∀ j, m ≤ j → j < n → c j = true → q i < q j ∨ q i = q j ∧ i ≤ j
theorem Best.uniq {c : Nat → Bool} {q : Nat → Rat} {m n : Nat} {s t : Option Nat} (h1 : Best c q m n s) (h2 : Best c q m n t) : s = t := by
  cases s with
  | none =>
    cases t with
    | none => rfl
    | some j => have := h1 j h2.1 h2.2.1; rw [h2.2.2.1] at this; cases this
  | some i =>
    cases t with
    | none => have := h2 i h1.1 h1.2.1; rw [h1.2.2.1] at this; cases this
    | some j =>
      have a := h1.2.2.2 j h2.1 h2.2.1 h2.2.2.1
      have b := h2.2.2.2 i h1.1 h1.2.1 h1.2.2.1
      have : i = j := by
        rcases a with a | ⟨a, a'⟩
        · rcases b with b | ⟨b, b'⟩ <;> grind
        · rcases b with b | ⟨b, b'⟩
          · grind
          · omega
      rw [this]
def fwd (c : Nat → Bool) (q : Nat → Rat) : Nat → Option Nat
  | 0 => none
  | k + 1 => if c k = true then (match fwd c q k with | none => some k | some i => if q k < q i then some k else some i) else fwd c q k
theorem fwd_best (c : Nat → Bool) (q : Nat → Rat) : ∀ n, Best c q 0 n (fwd c q n)
  | 0 => fun j _ h => absurd h (Nat.not_lt_zero j)
  | n + 1 => by
    have ih := fwd_best c q n
    unfold fwd
    split
    · rename_i hc
      split
      · rename_i hs
        rw [hs] at ih
        refine ⟨Nat.zero_le _, Nat.lt_succ_self n, hc, fun j _ hj hcj => ?_⟩
        by_cases h : j = n
        · subst h; exact .inr ⟨rfl, Nat.le_refl _⟩
        · have := ih j (Nat.zero_le _) (by omega); rw [hcj] at this; cases this
      · rename_i i hs
        rw [hs] at ih
        obtain ⟨-, h2, h3, h4⟩ := ih
        split
        · rename_i hq
          refine ⟨Nat.zero_le _, Nat.lt_succ_self n, hc, fun j _ hj hcj => ?_⟩
          by_cases h : j = n
          · subst h; exact .inr ⟨rfl, Nat.le_refl _⟩
          · rcases h4 j (Nat.zero_le _) (by omega) hcj with h5 | ⟨h5, _⟩
            · exact .inl (by grind)
            · exact .inl (by grind)
        · rename_i hq
          refine ⟨Nat.zero_le _, by omega, h3, fun j _ hj hcj => ?_⟩
          by_cases h : j = n
          · subst h
            by_cases he : q i = q j
            · exact .inr ⟨he, by omega⟩
            · exact .inl (by grind)
          · exact h4 j (Nat.zero_le _) (by omega) hcj
    · rename_i hc
      have hc : c n = false := by simpa using hc
      cases hs : fwd c q n with
      | none =>
        rw [hs] at ih
        intro j _ hj
        by_cases h : j = n
        · subst h; exact hc
        · exact ih j (Nat.zero_le _) (by omega)
      | some i =>
        rw [hs] at ih
        obtain ⟨-, h2, h3, h4⟩ := ih
        refine ⟨Nat.zero_le _, by omega, h3, fun j _ hj hcj => ?_⟩
        by_cases h : j = n
        · subst h; rw [hc] at hcj; cases hcj
        · exact h4 j (Nat.zero_le _) (by omega) hcj
def bwd (c : Nat → Bool) (q : Nat → Rat) (n : Nat) : Nat → Option Nat
  | 0 => none
  | m + 1 => if c (n - 1 - m) = true then (match bwd c q n m with | none => some (n - 1 - m) | some i => if q (n - 1 - m) ≤ q i then some (n - 1 - m) else some i) else bwd c q n m
theorem bwd_best (c : Nat → Bool) (q : Nat → Rat) (n : Nat) : ∀ m, m ≤ n → Best c q (n - m) n (bwd c q n m)
  | 0, _ => fun j h1 h2 => absurd h2 (by omega)
  | m + 1, hm => by
    have ih := bwd_best c q n m (by omega)
    unfold bwd
    have e : n - (m + 1) = n - 1 - m := by omega
    have hk : n - 1 - m < n := by omega
    have hlow : ∀ j, n - 1 - m ≤ j → j ≠ n - 1 - m → n - m ≤ j := fun j h1 h2 => by omega
    have hup : n - 1 - m ≤ n - m := by omega
    rw [e]
    generalize n - 1 - m = k at *
    split
    · rename_i hc
      split
      · rename_i hs
        rw [hs] at ih
        refine ⟨Nat.le_refl _, hk, hc, fun j h1 hj hcj => ?_⟩
        by_cases h : j = k
        · subst h; exact .inr ⟨rfl, Nat.le_refl _⟩
        · have := ih j (hlow j h1 h) hj; rw [hcj] at this; cases this
      · rename_i i hs
        rw [hs] at ih
        obtain ⟨h1, h2, h3, h4⟩ := ih
        split
        · rename_i hq
          refine ⟨Nat.le_refl _, hk, hc, fun j h5 hj hcj => ?_⟩
          by_cases h : j = k
          · subst h; exact .inr ⟨rfl, Nat.le_refl _⟩
          · rcases h4 j (hlow j h5 h) hj hcj with h6 | ⟨h6, _⟩
            · exact .inl (by grind)
            · by_cases he : q k = q j
              · exact .inr ⟨he, h5⟩
              · exact .inl (by grind)
        · rename_i hq
          refine ⟨Nat.le_trans hup h1, h2, h3, fun j h5 hj hcj => ?_⟩
          by_cases h : j = k
          · subst h; exact .inl (by grind)
          · exact h4 j (hlow j h5 h) hj hcj
    · rename_i hc
      have hc : c k = false := by simpa using hc
      cases hs : bwd c q n m with
      | none =>
        rw [hs] at ih
        intro j h5 hj
        by_cases h : j = k
        · subst h; exact hc
        · exact ih j (hlow j h5 h) hj
      | some i =>
        rw [hs] at ih
        obtain ⟨h1, h2, h3, h4⟩ := ih
        refine ⟨Nat.le_trans hup h1, h2, h3, fun j h5 hj hcj => ?_⟩
        by_cases h : j = k
        · subst h; rw [hc] at hcj; cases hcj
        · exact h4 j (hlow j h5 h) hj hcj
theorem fwd_bwd (c : Nat → Bool) (q : Nat → Rat) (n : Nat) : bwd c q n n = fwd c q n := by
  have h := bwd_best c q n n (Nat.le_refl n)
  rw [Nat.sub_self] at h
  exact h.uniq (fwd_best c q n)
/-- a ray's numbers -/
structure RI where
  x : Int
  y : Int
  z : Int
  w : Int
  a : Int
  b : Int
  c : Int
  hx : IR x
  hy : IR y
  hz : IR z
  hw : IR w
  ha : IR a
  hb : IR b
  hc : IR c
def riC (r : RI) : List C := [.int r.x r.hx, .int r.y r.hy, .int r.z r.hz, .int r.w r.hw, .int r.a r.ha, .int r.b r.hb, .int r.c r.hc]
def RI.z3 (r : RI) : RZ := ⟨r.x, r.y, r.z, r.w, ⟨r.a, r.b, r.c⟩⟩
def PT.v (p : PT) : V3 := ⟨p.x, p.y, p.z⟩
def crB (r : RI) (t : TR) : Bool := crossB r.z3 t.a.v t.b.v t.c.v
def crN (r : RI) (t : TR) : Int := crossN r.z3 t.a.v t.b.v t.c.v
def crD (r : RI) (t : TR) : Int := crossD r.z3 t.a.v t.b.v t.c.v
theorem sm_crN (r : RI) (t : TR) : Sm 3000 (crN r t) := sm_crossN r.hx r.hy r.hz r.hw r.ha r.hb r.hc t.a.hx t.a.hy t.a.hz t.b.hx t.b.hy t.b.hz t.c.hx t.c.hy t.c.hz
theorem sm_crD (r : RI) (t : TR) : Sm 3000 (crD r t) := sm_crossD r.hx r.hy r.hz r.hw r.ha r.hb r.hc t.a.hx t.a.hy t.a.hz t.b.hx t.b.hy t.b.hz t.c.hx t.c.hy t.c.hz
def pt0 : PT := ⟨0, 0, 0, by decide, by decide, by decide⟩
def tAt (l : List TR) (i : Nat) : TR := (l[i]?).getD ⟨pt0, pt0, pt0⟩
theorem tAt_eq {l : List TR} {i : Nat} (h : i < l.length) : tAt l i = l[i] := by unfold tAt; rw [List.getElem?_eq_getElem h]; rfl
def cAt (r : RI) (l : List TR) (i : Nat) : Bool := crB r (tAt l i)
def qAt (r : RI) (l : List TR) (i : Nat) : Rat := ratOf (crN r (tAt l i)) (crD r (tAt l i))
def cntK (r : RI) (l : List TR) : Nat → Nat
  | 0 => 0
  | k + 1 => cntK r l k + (if cAt r l k = true then 1 else 0)
theorem cntK_s (r : RI) (l : List TR) (k : Nat) : cntK r l (k + 1) = cntK r l k + (if cAt r l k = true then 1 else 0) := rfl
theorem cntK_le (r : RI) (l : List TR) : ∀ k, cntK r l k ≤ k
  | 0 => Nat.le_refl _
  | k + 1 => by have := cntK_le r l k; unfold cntK; split <;> omega
theorem ir_cnt (r : RI) (l : List TR) {k : Nat} (h : k ≤ 1000000) : IR (cntK r l k : Nat) := by have := cntK_le r l k; unfold IR; omega
def hN (r : RI) (l : List TR) : Option Nat → Int
  | none => 0
  | some i => crN r (tAt l i)
def hD (r : RI) (l : List TR) : Option Nat → Int
  | none => 1
  | some i => crD r (tAt l i)
def hK : Option Nat → Int
  | none => 0
  | some i => ((min i 1000000 : Nat) : Int)
theorem sm_hN (r : RI) (l : List TR) (s : Option Nat) : Sm 3000 (hN r l s) := by
  cases s with
  | none => exact sm_zero 3000
  | some i => exact sm_crN r _
theorem sm_hD (r : RI) (l : List TR) (s : Option Nat) : Sm 3000 (hD r l s) := by
  cases s with
  | none => have : Sm 1 1 := (by unfold Sm; decide); exact this.mono (by decide)
  | some i => exact sm_crD r _
theorem ir_hK (s : Option Nat) : IR (hK s) := by
  cases s with
  | none => decide
  | some i => show IR ((min i 1000000 : Nat) : Int); unfold IR; omega
def hitC (r : RI) (l : List TR) (s : Option Nat) : List C := [.wid 3000 (hN r l s) (sm_hN r l s), .wid 3000 (hD r l s) (sm_hD r l s), .int (hK s) (ir_hK s)]
theorem cr_at {r : RI} {l : List TR} {k : Nat} (h : k < l.length) : crB r l[k] = cAt r l k ∧ crN r l[k] = hN r l (some k) ∧ crD r l[k] = hD r l (some k) := by
  refine ⟨?_, ?_, ?_⟩
  · unfold cAt; rw [tAt_eq h]
  · show _ = crN r (tAt l k); rw [tAt_eq h]
  · show _ = crD r (tAt l k); rw [tAt_eq h]
theorem hit_cells {r : RI} {l : List TR} {s : Option Nat} {n d k : Int} {a b : Nat} {h1 : Sm a n} {h2 : Sm b d} {h3 : IR k} (e1 : n = hN r l s) (e2 : d = hD r l s) (e3 : k = hK s) (ρ : Rho) : cellsL ρ [.wid a n h1, .wid b d h2, .int k h3] = cellsL ρ (hitC r l s) := by subst e1 e2 e3; rfl
theorem hit_same {r : RI} {l : List TR} {s t : Option Nat} (e : s = t) (ρ : Rho) : cellsL ρ (hitC r l s) = cellsL ρ (hitC r l t) := by subst e; rfl
theorem cnt_y {r : RI} {l : List TR} {k : Nat} (h : k < l.length) (hc : crB r l[k] = true) (hk : k ≤ 1000000) : IntKind.i64.wrap ((cntK r l k : Nat) + 1) = ((cntK r l (k + 1) : Nat) : Int) := by
  rw [(cr_at h).1] at hc
  have := cntK_le r l k
  rw [cntK_s, if_pos hc, wrap_id (by unfold IR; omega)]
  omega
theorem cnt_n {r : RI} {l : List TR} {k : Nat} (h : k < l.length) (hc : crB r l[k] = false) : ((cntK r l k : Nat) : Int) = ((cntK r l (k + 1) : Nat) : Int) := by
  rw [(cr_at h).1] at hc
  rw [cntK_s, hc]; rfl
section
variable {r : RI} {l : List TR} {k : Nat} (h : k < l.length)
include h
theorem fw_n (hc : crB r l[k] = false) : fwd (cAt r l) (qAt r l) k = fwd (cAt r l) (qAt r l) (k + 1) := by
  rw [(cr_at h).1] at hc
  conv => rhs; unfold fwd
  rw [if_neg (by rw [hc]; decide)]
theorem fw_0 (hc : crB r l[k] = true) (hs : (!(fwd (cAt r l) (qAt r l) k).isSome) = true) : fwd (cAt r l) (qAt r l) (k + 1) = some k := by
  rw [(cr_at h).1] at hc
  unfold fwd
  rw [if_pos hc]
  cases he : fwd (cAt r l) (qAt r l) k with
  | none => rfl
  | some i => rw [he] at hs; cases hs
theorem fw_1 (hc : crB r l[k] = true) (hq : decide ((pN (crN r l[k]) (crD r l[k]) * pD (hD r l (fwd (cAt r l) (qAt r l) k)) - pN (hN r l (fwd (cAt r l) (qAt r l) k)) (hD r l (fwd (cAt r l) (qAt r l) k)) * pD (crD r l[k])).sign < 0) = true) : fwd (cAt r l) (qAt r l) (k + 1) = some k := by
  rw [cmpR_lt, (cr_at h).2.1, (cr_at h).2.2] at hq
  rw [(cr_at h).1] at hc
  unfold fwd
  rw [if_pos hc]
  cases he : fwd (cAt r l) (qAt r l) k with
  | none => rfl
  | some i => rw [he] at hq; exact if_pos (of_decide_eq_true hq)
theorem fw_2 (hs : (!(fwd (cAt r l) (qAt r l) k).isSome) = false) (hq : decide ((pN (crN r l[k]) (crD r l[k]) * pD (hD r l (fwd (cAt r l) (qAt r l) k)) - pN (hN r l (fwd (cAt r l) (qAt r l) k)) (hD r l (fwd (cAt r l) (qAt r l) k)) * pD (crD r l[k])).sign < 0) = false) : fwd (cAt r l) (qAt r l) k = fwd (cAt r l) (qAt r l) (k + 1) := by
  rw [cmpR_lt, (cr_at h).2.1, (cr_at h).2.2] at hq
  conv => rhs; unfold fwd
  cases he : fwd (cAt r l) (qAt r l) k with
  | none => rw [he] at hs; cases hs
  | some i =>
    rw [he] at hq
    have hq : ¬ qAt r l k < qAt r l i := of_decide_eq_false hq
    simp only
    rw [if_neg hq]
    split <;> rfl
end
section
variable {r : RI} {l : List TR} {j : Nat} (h : j < l.length)
include h
theorem bw_ix : l.length - j = (l.length - (j + 1)) + 1 ∧ l.length - 1 - (l.length - (j + 1)) = j := by omega
theorem bw_n (hc : crB r l[j] = false) : bwd (cAt r l) (qAt r l) l.length (l.length - (j + 1)) = bwd (cAt r l) (qAt r l) l.length (l.length - j) := by
  rw [(cr_at h).1] at hc
  obtain ⟨e1, e2⟩ := bw_ix h
  rw [e1]
  conv => rhs; unfold bwd
  rw [e2, if_neg (by rw [hc]; decide)]
theorem bw_0 (hc : crB r l[j] = true) (hs : (!(bwd (cAt r l) (qAt r l) l.length (l.length - (j + 1))).isSome) = true) : bwd (cAt r l) (qAt r l) l.length (l.length - j) = some j := by
  rw [(cr_at h).1] at hc
  obtain ⟨e1, e2⟩ := bw_ix h
  rw [e1]
  unfold bwd
  rw [e2, if_pos hc]
  cases he : bwd (cAt r l) (qAt r l) l.length (l.length - (j + 1)) with
  | none => rfl
  | some i => rw [he] at hs; cases hs
theorem bw_1 (hc : crB r l[j] = true) (hq : decide ((pN (crN r l[j]) (crD r l[j]) * pD (hD r l (bwd (cAt r l) (qAt r l) l.length (l.length - (j + 1)))) - pN (hN r l (bwd (cAt r l) (qAt r l) l.length (l.length - (j + 1)))) (hD r l (bwd (cAt r l) (qAt r l) l.length (l.length - (j + 1)))) * pD (crD r l[j])).sign ≤ 0) = true) : bwd (cAt r l) (qAt r l) l.length (l.length - j) = some j := by
  rw [cmpR_le, (cr_at h).2.1, (cr_at h).2.2] at hq
  rw [(cr_at h).1] at hc
  obtain ⟨e1, e2⟩ := bw_ix h
  rw [e1]
  unfold bwd
  rw [e2, if_pos hc]
  cases he : bwd (cAt r l) (qAt r l) l.length (l.length - (j + 1)) with
  | none => rfl
  | some i => rw [he] at hq; exact if_pos (of_decide_eq_true hq)
theorem bw_2 (hs : (!(bwd (cAt r l) (qAt r l) l.length (l.length - (j + 1))).isSome) = false) (hq : decide ((pN (crN r l[j]) (crD r l[j]) * pD (hD r l (bwd (cAt r l) (qAt r l) l.length (l.length - (j + 1)))) - pN (hN r l (bwd (cAt r l) (qAt r l) l.length (l.length - (j + 1)))) (hD r l (bwd (cAt r l) (qAt r l) l.length (l.length - (j + 1)))) * pD (crD r l[j])).sign ≤ 0) = false) : bwd (cAt r l) (qAt r l) l.length (l.length - (j + 1)) = bwd (cAt r l) (qAt r l) l.length (l.length - j) := by
  rw [cmpR_le, (cr_at h).2.1, (cr_at h).2.2] at hq
  obtain ⟨e1, e2⟩ := bw_ix h
  conv => rhs; rw [e1]; unfold bwd
  rw [e2]
  cases he : bwd (cAt r l) (qAt r l) l.length (l.length - (j + 1)) with
  | none => rw [he] at hs; cases hs
  | some i =>
    rw [he] at hq
    have hq : ¬ qAt r l j ≤ qAt r l i := of_decide_eq_false hq
    simp only
    rw [if_neg hq]
    split <;> rfl
end
theorem isSome_some {s : Option Nat} {k : Nat} (e : s = some k) : true = s.isSome := by rw [e]; rfl
theorem hK_some {k n : Nat} (h : k < n) (hn : n ≤ 1000000) : (k : Int) = hK (some k) := by show (k : Int) = ((min k 1000000 : Nat) : Int); omega
theorem lt_irT {nl : Bool} {k n cap : Nat} (h : SliOk nl n cap) (hk : k ≤ n) : IR k := by have := h.ir; unfold IR at *; omega
theorem pureL_trs2 (l : List TR) : PureL (trsC l) := trsC_pure l
theorem ir_pred {nl : Bool} {k n cap : Nat} (h : SliOk nl n cap) (hk : k ≤ n) : IR ((k : Int) - 1) := by have := h.ir; unfold IR at *; omega
theorem pred_eq (j : Nat) : ((j + 1 : Nat) : Int) - 1 = (j : Int) := by omega
theorem wrap_pr {x : Int} (h : IR x) : IntKind.i64.wrap x = x := wrap_id h
def frstS (r : RI) (l : List TR) : Option Nat := fwd (cAt r l) (qAt r l) l.length
def frstV (r : RI) (l : List TR) : SV := .tup [.agg (hitC r l (frstS r l)), .c (.val (.bool (frstS r l).isSome))]
def cntV (r : RI) (l : List TR) (h : l.length ≤ 1000000) : SV := .c (.int (cntK r l l.length : Nat) (ir_cnt r l h))
theorem frst_sv {r : RI} {l : List TR} {s t : Option Nat} (e : s = t) (ρ : Rho) : (SV.tup [.agg (hitC r l s), .c (.val (.bool s.isSome))]).den ρ = (SV.tup [.agg (hitC r l t), .c (.val (.bool t.isSome))]).den ρ := by subst e; rfl
set_option maxHeartbeats 16000000 in
theorem vcCountY (r : RI) (l : List TR) (ty : TypeId) (nl : Bool) (cap : Nat) (h1 : l.length ≤ 1000000) (hl : SliOk nl l.length cap) : vcF (envN 0 baseC [] fun _ => false) (mix [] (envN 0 baseC [] fun _ => false) noF 0) Tryz.f24 [.agg (riC r), .c (.sli nl 0 0 l.length cap hl)] [⟨ty, true, trsC l, 0⟩] fun u _ => ∀ ρ, u.den ρ = (cntV r l h1).den ρ := by
  conv => whnf
  refine loop_st (G := {k : Nat // k ≤ l.length} × (Nat → Value)) (fun g => (.c (.val (g.2 0)) :: .c (.val (g.2 1)) :: .c (.ptr 1 0) :: .c (.val (g.2 3)) :: .c (.val (g.2 4)) :: .c (.int (cntK r l g.1.1 : Nat) (ir_cnt r l (Nat.le_trans g.1.2 h1))) :: .c (.val (g.2 6)) :: .c (.val (g.2 7)) :: .c (.val (g.2 8)) :: .c (.val (g.2 9)) :: .c (.sli nl 0 0 l.length cap hl) :: .c (.int (l.length : Nat) hl.ir) :: .c (.int (g.1.1 : Nat) (lt_irT hl g.1.2)) :: .c (.val (g.2 13)) :: .c (.val (g.2 14)) :: .c (.val (g.2 15)) :: .c (.val (g.2 16)) :: .c (.val (g.2 17)) :: .c (.val (g.2 18)) :: .c (.val (g.2 19)) :: .c (.val (g.2 20)) :: .c (.val (g.2 21)) :: .c (.val (g.2 22)) :: .c (.val (g.2 23)) :: .c (.val (g.2 24)) :: .c (.val (g.2 25)) :: .c (.val (g.2 26)) :: [])) (fun g => [⟨ty, true, trsC l, 0⟩, ⟨24, false, riC r, 0⟩]) (fun g => l.length - g.1.1) ?_ ?_
  · refine ⟨[0, 1], [2, 5, 10, 11, 12], [0, 1], fun vs => ?_⟩
    conv => whnf
    refine ⟨pureL_trs2 l, fun _ _ => rfl, ?_⟩
    conv => whnf
    refine ⟨_, _, ?_, ?_, (⟨0, Nat.zero_le _⟩, vs), rfl, rfl⟩
    · exact stm _
    · exact ⟨⟨rfl, rfl, rfl, fun _ => rfl⟩, ⟨rfl, rfl, rfl, fun _ => rfl⟩, trivial⟩
  · rintro ⟨⟨k, hk⟩, vs⟩
    conv => whnf
    refine bcase_intro (fun hlt => ?_) (fun hlt => ?_)
    · have hlt : k < l.length := n_lt hlt
      conv => whnf
      conv =>
        arg 2
        tactic' =>
          apply eff_index_sli (ho := ?how1) (hT := ?hTw1) (hx := ?hxw1) (hk := ?hkw1) (hlt := ?hltw1)
          case how1 => rfl
          case hTw1 => rfl
          case hxw1 => rfl
          case hkw1 => rfl
          case hltw1 => exact hlt
      conv => whnf
      conv =>
        arg 2
        tactic' =>
          apply eff_load_sub (ho := ?how2) (hT := ?hTw2) (hx := ?hxw2) (hb := ?hbw2) (hm := ?hmw2) (hv := ?hvw2)
          case how2 => rfl
          case hTw2 => rfl
          case hxw2 => rfl
          case hbw2 => rfl
          case hmw2 => exact (by rw [Nat.zero_add]; exact subC_trs l hlt : subC (trsC l) (0 + k * 9) 9 = some (trC l[k]))
          case hvw2 => rfl
      conv => whnf
      refine bcase_intro (fun hc => ?_) (fun hc => ?_)
      · have hc : crB r l[k] = true := hc
        conv => whnf
        refine ⟨[0, 1], [2, 5, 10, 11, 12], [0, 1], fun vs2 => ?_⟩
        conv => whnf
        refine ⟨pureL_trs2 l, fun _ _ => rfl, ?_⟩
        conv => whnf
        refine ⟨_, _, ?_, ?_, (⟨k + 1, hlt⟩, vs2), (by omega : l.length - (k + 1) < l.length - k), rfl, rfl⟩
        · exact ⟨fun _ => rfl, fun _ => rfl, fun _ => rfl, fun _ => rfl, fun _ => rfl, fun ρ => sint_e (cnt_y hlt hc (Nat.le_trans hk h1)) ρ, fun _ => rfl, fun _ => rfl, fun _ => rfl, fun _ => rfl, fun _ => rfl, fun _ => rfl, fun ρ => sint_e (wrap_add1 hlt hl.ir) ρ, stm _⟩
        · exact ⟨⟨rfl, rfl, rfl, fun _ => rfl⟩, ⟨rfl, rfl, rfl, fun _ => rfl⟩, trivial⟩
      · have hc : crB r l[k] = false := hc
        conv => whnf
        refine ⟨[0, 1], [2, 5, 10, 11, 12], [0, 1], fun vs2 => ?_⟩
        conv => whnf
        refine ⟨pureL_trs2 l, fun _ _ => rfl, ?_⟩
        conv => whnf
        refine ⟨_, _, ?_, ?_, (⟨k + 1, hlt⟩, vs2), (by omega : l.length - (k + 1) < l.length - k), rfl, rfl⟩
        · exact ⟨fun _ => rfl, fun _ => rfl, fun _ => rfl, fun _ => rfl, fun _ => rfl, fun ρ => sint_e (cnt_n hlt hc) ρ, fun _ => rfl, fun _ => rfl, fun _ => rfl, fun _ => rfl, fun _ => rfl, fun _ => rfl, fun ρ => sint_e (wrap_add1 hlt hl.ir) ρ, stm _⟩
        · exact ⟨⟨rfl, rfl, rfl, fun _ => rfl⟩, ⟨rfl, rfl, rfl, fun _ => rfl⟩, trivial⟩
    · have e : k = l.length := Nat.le_antisymm hk (n_ge hlt)
      subst e
      conv => whnf
      exact fun ρ => rfl
set_option maxHeartbeats 16000000 in
theorem vcCount22 (r : RI) (l : List TR) (ty : TypeId) (nl : Bool) (cap : Nat) (h1 : l.length ≤ 1000000) (hl : SliOk nl l.length cap) : vcF (envN 0 baseC [] fun _ => false) (mix [] (envN 0 baseC [] fun _ => false) noF 0) Tryz.f30 [.agg (riC r), .c (.sli nl 0 0 l.length cap hl)] [⟨ty, true, trsC l, 0⟩] fun u _ => ∀ ρ, u.den ρ = (cntV r l h1).den ρ := by
  conv => whnf
  refine loop_st (G := {k : Nat // k ≤ l.length} × (Nat → Value)) (fun g => (.c (.val (g.2 0)) :: .c (.sli nl 0 0 l.length cap hl) :: .c (.ptr 1 0) :: .c (.val (g.2 3)) :: .c (.val (g.2 4)) :: .c (.int (cntK r l g.1.1 : Nat) (ir_cnt r l (Nat.le_trans g.1.2 h1))) :: .c (.int (g.1.1 : Nat) (lt_irT hl g.1.2)) :: .c (.val (g.2 7)) :: .c (.val (g.2 8)) :: .c (.val (g.2 9)) :: .c (.val (g.2 10)) :: .c (.val (g.2 11)) :: .c (.val (g.2 12)) :: .c (.val (g.2 13)) :: .c (.val (g.2 14)) :: .c (.val (g.2 15)) :: .c (.val (g.2 16)) :: .c (.val (g.2 17)) :: .c (.val (g.2 18)) :: .c (.val (g.2 19)) :: .c (.val (g.2 20)) :: .c (.val (g.2 21)) :: .c (.val (g.2 22)) :: .c (.val (g.2 23)) :: .c (.val (g.2 24)) :: .c (.val (g.2 25)) :: .c (.val (g.2 26)) :: .c (.val (g.2 27)) :: [])) (fun g => [⟨ty, true, trsC l, 0⟩, ⟨24, false, riC r, 0⟩]) (fun g => l.length - g.1.1) ?_ ?_
  · refine ⟨[0, 1], [1, 2, 5, 6], [0, 1], fun vs => ?_⟩
    conv => whnf
    refine ⟨pureL_trs2 l, fun _ _ => rfl, ?_⟩
    conv => whnf
    refine ⟨_, _, ?_, ?_, (⟨0, Nat.zero_le _⟩, vs), rfl, rfl⟩
    · exact stm _
    · exact ⟨⟨rfl, rfl, rfl, fun _ => rfl⟩, ⟨rfl, rfl, rfl, fun _ => rfl⟩, trivial⟩
  · rintro ⟨⟨k, hk⟩, vs⟩
    conv => whnf
    refine bcase_intro (fun hlt => ?_) (fun hlt => ?_)
    · have hlt : k < l.length := n_lt hlt
      conv => whnf
      conv =>
        arg 2
        tactic' =>
          apply eff_index_sli (ho := ?how3) (hT := ?hTw3) (hx := ?hxw3) (hk := ?hkw3) (hlt := ?hltw3)
          case how3 => rfl
          case hTw3 => rfl
          case hxw3 => rfl
          case hkw3 => rfl
          case hltw3 => exact hlt
      conv => whnf
      conv =>
        arg 2
        tactic' =>
          apply eff_load_sub (ho := ?how4) (hT := ?hTw4) (hx := ?hxw4) (hb := ?hbw4) (hm := ?hmw4) (hv := ?hvw4)
          case how4 => rfl
          case hTw4 => rfl
          case hxw4 => rfl
          case hbw4 => rfl
          case hmw4 => exact (by rw [Nat.zero_add]; exact subC_trs l hlt : subC (trsC l) (0 + k * 9) 9 = some (trC l[k]))
          case hvw4 => rfl
      conv => whnf
      refine bcase_intro (fun hc => ?_) (fun hc => ?_)
      · have hc : crB r l[k] = true := hc
        conv => whnf
        refine ⟨[0, 1], [1, 2, 5, 6], [0, 1], fun vs2 => ?_⟩
        conv => whnf
        refine ⟨pureL_trs2 l, fun _ _ => rfl, ?_⟩
        conv => whnf
        refine ⟨_, _, ?_, ?_, (⟨k + 1, hlt⟩, vs2), (by omega : l.length - (k + 1) < l.length - k), rfl, rfl⟩
        · exact ⟨fun _ => rfl, fun _ => rfl, fun _ => rfl, fun _ => rfl, fun _ => rfl, fun ρ => sint_e (cnt_y hlt hc (Nat.le_trans hk h1)) ρ, fun ρ => sint_e (wrap_add1 hlt hl.ir) ρ, stm _⟩
        · exact ⟨⟨rfl, rfl, rfl, fun _ => rfl⟩, ⟨rfl, rfl, rfl, fun _ => rfl⟩, trivial⟩
      · have hc : crB r l[k] = false := hc
        conv => whnf
        refine ⟨[0, 1], [1, 2, 5, 6], [0, 1], fun vs2 => ?_⟩
        conv => whnf
        refine ⟨pureL_trs2 l, fun _ _ => rfl, ?_⟩
        conv => whnf
        refine ⟨_, _, ?_, ?_, (⟨k + 1, hlt⟩, vs2), (by omega : l.length - (k + 1) < l.length - k), rfl, rfl⟩
        · exact ⟨fun _ => rfl, fun _ => rfl, fun _ => rfl, fun _ => rfl, fun _ => rfl, fun ρ => sint_e (cnt_n hlt hc) ρ, fun ρ => sint_e (wrap_add1 hlt hl.ir) ρ, stm _⟩
        · exact ⟨⟨rfl, rfl, rfl, fun _ => rfl⟩, ⟨rfl, rfl, rfl, fun _ => rfl⟩, trivial⟩
    · have e : k = l.length := Nat.le_antisymm hk (n_ge hlt)
      subst e
      conv => whnf
      exact fun ρ => rfl
set_option maxHeartbeats 16000000 in
theorem vcFirstY (r : RI) (l : List TR) (ty : TypeId) (nl : Bool) (cap : Nat) (h1 : l.length ≤ 1000000) (hl : SliOk nl l.length cap) : vcF (envN 0 baseC [] fun _ => false) (mix [] (envN 0 baseC [] fun _ => false) noF 0) Tryz.f28 [.agg (riC r), .c (.sli nl 0 0 l.length cap hl)] [⟨ty, true, trsC l, 0⟩] fun u _ => ∀ ρ, u.den ρ = (frstV r l).den ρ := by
  conv => whnf
  refine loop_st (G := {k : Nat // k ≤ l.length} × (Nat → Value)) (fun g => (.c (.val (g.2 0)) :: .c (.val (g.2 1)) :: .c (.ptr 1 0) :: .c (.val (g.2 3)) :: .c (.ptr 2 0) :: .c (.val (g.2 5)) :: .c (.ptr 3 0) :: .c (.val (.bool (fwd (cAt r l) (qAt r l) g.1.1).isSome)) :: .c (.val (g.2 8)) :: .c (.val (g.2 9)) :: .c (.val (g.2 10)) :: .c (.val (g.2 11)) :: .c (.val (g.2 12)) :: .c (.val (g.2 13)) :: .c (.sli nl 0 0 l.length cap hl) :: .c (.int (l.length : Nat) hl.ir) :: .c (.int (g.1.1 : Nat) (lt_irT hl g.1.2)) :: .c (.val (g.2 17)) :: .c (.val (g.2 18)) :: .c (.val (g.2 19)) :: .c (.val (g.2 20)) :: .c (.val (g.2 21)) :: .c (.val (g.2 22)) :: .c (.val (g.2 23)) :: .c (.val (g.2 24)) :: .c (.val (g.2 25)) :: .c (.val (g.2 26)) :: .c (.val (g.2 27)) :: .c (.val (g.2 28)) :: .c (.val (g.2 29)) :: .c (.val (g.2 30)) :: .c (.val (g.2 31)) :: .c (.val (g.2 32)) :: .c (.val (g.2 33)) :: .c (.val (g.2 34)) :: .c (.val (g.2 35)) :: .c (.val (g.2 36)) :: .c (.val (g.2 37)) :: .c (.val (g.2 38)) :: .c (.val (g.2 39)) :: .c (.val (g.2 40)) :: .c (.val (g.2 41)) :: .c (.val (g.2 42)) :: .c (.val (g.2 43)) :: .c (.val (g.2 44)) :: [])) (fun g => [⟨ty, true, trsC l, 0⟩, ⟨24, false, riC r, 0⟩, ⟨65, false, [zw, zw, zi], 0⟩, ⟨65, false, hitC r l (fwd (cAt r l) (qAt r l) g.1.1), 0⟩]) (fun g => l.length - g.1.1) ?_ ?_
  · refine ⟨[0, 1, 2, 3], [2, 4, 6, 7, 14, 15, 16], [0, 1, 2, 3], fun vs => ?_⟩
    conv => whnf
    refine ⟨pureL_trs2 l, fun _ _ => rfl, fun _ _ => rfl, fun _ _ => rfl, ?_⟩
    conv => whnf
    refine ⟨_, _, ?_, ?_, (⟨0, Nat.zero_le _⟩, vs), rfl, rfl⟩
    · exact stm _
    · exact ⟨⟨rfl, rfl, rfl, fun _ => rfl⟩, ⟨rfl, rfl, rfl, fun _ => rfl⟩, ⟨rfl, rfl, rfl, fun _ => rfl⟩, ⟨rfl, rfl, rfl, fun _ => rfl⟩, trivial⟩
  · rintro ⟨⟨k, hk⟩, vs⟩
    conv => whnf
    refine bcase_intro (fun hlt => ?_) (fun hlt => ?_)
    · have hlt : k < l.length := n_lt hlt
      conv => whnf
      conv =>
        arg 2
        tactic' =>
          apply eff_index_sli (ho := ?how5) (hT := ?hTw5) (hx := ?hxw5) (hk := ?hkw5) (hlt := ?hltw5)
          case how5 => rfl
          case hTw5 => rfl
          case hxw5 => rfl
          case hkw5 => rfl
          case hltw5 => exact hlt
      conv => whnf
      conv =>
        arg 2
        tactic' =>
          apply eff_load_sub (ho := ?how6) (hT := ?hTw6) (hx := ?hxw6) (hb := ?hbw6) (hm := ?hmw6) (hv := ?hvw6)
          case how6 => rfl
          case hTw6 => rfl
          case hxw6 => rfl
          case hbw6 => rfl
          case hmw6 => exact (by rw [Nat.zero_add]; exact subC_trs l hlt : subC (trsC l) (0 + k * 9) 9 = some (trC l[k]))
          case hvw6 => rfl
      conv => whnf
      refine bcase_intro (fun hc => ?_) (fun hc => ?_)
      · have hc : crB r l[k] = true := hc
        conv => whnf
        refine bcase_intro (fun h0 => ?_) (fun h0 => ?_)
        · conv => whnf
          refine ⟨[0, 1, 2, 3], [2, 4, 6, 7, 14, 15, 16], [0, 1, 2, 3], fun vs2 => ?_⟩
          conv => whnf
          refine ⟨pureL_trs2 l, fun _ _ => rfl, fun _ _ => rfl, fun _ _ => rfl, ?_⟩
          conv => whnf
          refine ⟨_, _, ?_, ?_, (⟨k + 1, hlt⟩, vs2), (by omega : l.length - (k + 1) < l.length - k), rfl, rfl⟩
          · exact ⟨fun _ => rfl, fun _ => rfl, fun _ => rfl, fun _ => rfl, fun _ => rfl, fun _ => rfl, fun _ => rfl, fun ρ => sbool_e (isSome_some (fw_0 hlt hc h0)) ρ, fun _ => rfl, fun _ => rfl, fun _ => rfl, fun _ => rfl, fun _ => rfl, fun _ => rfl, fun _ => rfl, fun _ => rfl, fun ρ => sint_e (wrap_add1 hlt hl.ir) ρ, stm _⟩
          · exact ⟨⟨rfl, rfl, rfl, fun _ => rfl⟩, ⟨rfl, rfl, rfl, fun _ => rfl⟩, ⟨rfl, rfl, rfl, fun _ => rfl⟩, ⟨rfl, rfl, rfl, fun ρ => hit_cells ((cr_at hlt).2.1.trans (congrArg (hN r l) (fw_0 hlt hc h0).symm)) ((cr_at hlt).2.2.trans (congrArg (hD r l) (fw_0 hlt hc h0).symm)) ((hK_some hlt h1).trans (congrArg hK (fw_0 hlt hc h0).symm)) ρ⟩, trivial⟩
        · conv => whnf
          refine bcase_intro (fun hq => ?_) (fun hq => ?_)
          · conv => whnf
            refine ⟨[0, 1, 2, 3], [2, 4, 6, 7, 14, 15, 16], [0, 1, 2, 3], fun vs2 => ?_⟩
            conv => whnf
            refine ⟨pureL_trs2 l, fun _ _ => rfl, fun _ _ => rfl, fun _ _ => rfl, ?_⟩
            conv => whnf
            refine ⟨_, _, ?_, ?_, (⟨k + 1, hlt⟩, vs2), (by omega : l.length - (k + 1) < l.length - k), rfl, rfl⟩
            · exact ⟨fun _ => rfl, fun _ => rfl, fun _ => rfl, fun _ => rfl, fun _ => rfl, fun _ => rfl, fun _ => rfl, fun ρ => sbool_e (isSome_some (fw_1 hlt hc hq)) ρ, fun _ => rfl, fun _ => rfl, fun _ => rfl, fun _ => rfl, fun _ => rfl, fun _ => rfl, fun _ => rfl, fun _ => rfl, fun ρ => sint_e (wrap_add1 hlt hl.ir) ρ, stm _⟩
            · exact ⟨⟨rfl, rfl, rfl, fun _ => rfl⟩, ⟨rfl, rfl, rfl, fun _ => rfl⟩, ⟨rfl, rfl, rfl, fun _ => rfl⟩, ⟨rfl, rfl, rfl, fun ρ => hit_cells ((cr_at hlt).2.1.trans (congrArg (hN r l) (fw_1 hlt hc hq).symm)) ((cr_at hlt).2.2.trans (congrArg (hD r l) (fw_1 hlt hc hq).symm)) ((hK_some hlt h1).trans (congrArg hK (fw_1 hlt hc hq).symm)) ρ⟩, trivial⟩
          · conv => whnf
            refine ⟨[0, 1, 2, 3], [2, 4, 6, 7, 14, 15, 16], [0, 1, 2, 3], fun vs2 => ?_⟩
            conv => whnf
            refine ⟨pureL_trs2 l, fun _ _ => rfl, fun _ _ => rfl, fun _ _ => rfl, ?_⟩
            conv => whnf
            refine ⟨_, _, ?_, ?_, (⟨k + 1, hlt⟩, vs2), (by omega : l.length - (k + 1) < l.length - k), rfl, rfl⟩
            · exact ⟨fun _ => rfl, fun _ => rfl, fun _ => rfl, fun _ => rfl, fun _ => rfl, fun _ => rfl, fun _ => rfl, fun ρ => sbool_e (congrArg Option.isSome (fw_2 hlt h0 hq)) ρ, fun _ => rfl, fun _ => rfl, fun _ => rfl, fun _ => rfl, fun _ => rfl, fun _ => rfl, fun _ => rfl, fun _ => rfl, fun ρ => sint_e (wrap_add1 hlt hl.ir) ρ, stm _⟩
            · exact ⟨⟨rfl, rfl, rfl, fun _ => rfl⟩, ⟨rfl, rfl, rfl, fun _ => rfl⟩, ⟨rfl, rfl, rfl, fun _ => rfl⟩, ⟨rfl, rfl, rfl, fun ρ => hit_same (fw_2 hlt h0 hq) ρ⟩, trivial⟩
      · have hc : crB r l[k] = false := hc
        conv => whnf
        refine ⟨[0, 1, 2, 3], [2, 4, 6, 7, 14, 15, 16], [0, 1, 2, 3], fun vs2 => ?_⟩
        conv => whnf
        refine ⟨pureL_trs2 l, fun _ _ => rfl, fun _ _ => rfl, fun _ _ => rfl, ?_⟩
        conv => whnf
        refine ⟨_, _, ?_, ?_, (⟨k + 1, hlt⟩, vs2), (by omega : l.length - (k + 1) < l.length - k), rfl, rfl⟩
        · exact ⟨fun _ => rfl, fun _ => rfl, fun _ => rfl, fun _ => rfl, fun _ => rfl, fun _ => rfl, fun _ => rfl, fun ρ => sbool_e (congrArg Option.isSome (fw_n hlt hc)) ρ, fun _ => rfl, fun _ => rfl, fun _ => rfl, fun _ => rfl, fun _ => rfl, fun _ => rfl, fun _ => rfl, fun _ => rfl, fun ρ => sint_e (wrap_add1 hlt hl.ir) ρ, stm _⟩
        · exact ⟨⟨rfl, rfl, rfl, fun _ => rfl⟩, ⟨rfl, rfl, rfl, fun _ => rfl⟩, ⟨rfl, rfl, rfl, fun _ => rfl⟩, ⟨rfl, rfl, rfl, fun ρ => hit_same (fw_n hlt hc) ρ⟩, trivial⟩
    · have e : k = l.length := Nat.le_antisymm hk (n_ge hlt)
      subst e
      conv => whnf
      exact fun ρ => rfl
set_option maxHeartbeats 16000000 in
theorem vcFirst22 (r : RI) (l : List TR) (ty : TypeId) (nl : Bool) (cap : Nat) (h1 : l.length ≤ 1000000) (hl : SliOk nl l.length cap) : vcF (envN 0 baseC [] fun _ => false) (mix [] (envN 0 baseC [] fun _ => false) noF 0) Tryz.f29 [.agg (riC r), .c (.sli nl 0 0 l.length cap hl)] [⟨ty, true, trsC l, 0⟩] fun u _ => ∀ ρ, u.den ρ = (frstV r l).den ρ := by
  conv => whnf
  refine loop_st (G := {k : Nat // k ≤ l.length} × (Nat → Value)) (fun g => (.c (.val (g.2 0)) :: .c (.sli nl 0 0 l.length cap hl) :: .c (.ptr 1 0) :: .c (.val (g.2 3)) :: .c (.ptr 2 0) :: .c (.val (g.2 5)) :: .c (.ptr 3 0) :: .c (.val (.bool (bwd (cAt r l) (qAt r l) l.length (l.length - g.1.1)).isSome)) :: .c (.int ((g.1.1 : Nat) - 1) (ir_pred hl g.1.2)) :: .c (.val (g.2 9)) :: .c (.val (g.2 10)) :: .c (.val (g.2 11)) :: .c (.val (g.2 12)) :: .c (.val (g.2 13)) :: .c (.val (g.2 14)) :: .c (.val (g.2 15)) :: .c (.val (g.2 16)) :: .c (.val (g.2 17)) :: .c (.val (g.2 18)) :: .c (.val (g.2 19)) :: .c (.val (g.2 20)) :: .c (.val (g.2 21)) :: .c (.val (g.2 22)) :: .c (.val (g.2 23)) :: .c (.val (g.2 24)) :: .c (.val (g.2 25)) :: .c (.val (g.2 26)) :: .c (.val (g.2 27)) :: .c (.val (g.2 28)) :: .c (.val (g.2 29)) :: .c (.val (g.2 30)) :: .c (.val (g.2 31)) :: .c (.val (g.2 32)) :: .c (.val (g.2 33)) :: .c (.val (g.2 34)) :: .c (.val (g.2 35)) :: .c (.val (g.2 36)) :: .c (.val (g.2 37)) :: .c (.val (g.2 38)) :: .c (.val (g.2 39)) :: .c (.val (g.2 40)) :: .c (.val (g.2 41)) :: .c (.val (g.2 42)) :: .c (.val (g.2 43)) :: .c (.val (g.2 44)) :: .c (.val (g.2 45)) :: [])) (fun g => [⟨ty, true, trsC l, 0⟩, ⟨24, false, riC r, 0⟩, ⟨65, false, [zw, zw, zi], 0⟩, ⟨65, false, hitC r l (bwd (cAt r l) (qAt r l) l.length (l.length - g.1.1)), 0⟩]) (fun g => g.1.1) ?_ ?_
  · refine ⟨[0, 1, 2, 3], [1, 2, 4, 6, 7, 8], [0, 1, 2, 3], fun vs => ?_⟩
    conv => whnf
    refine ⟨pureL_trs2 l, fun _ _ => rfl, fun _ _ => rfl, fun _ _ => rfl, ?_⟩
    conv => whnf
    refine ⟨_, _, ?_, ?_, (⟨l.length, Nat.le_refl _⟩, vs), rfl, rfl⟩
    · exact ⟨fun _ => rfl, fun _ => rfl, fun _ => rfl, fun _ => rfl, fun _ => rfl, fun _ => rfl, fun _ => rfl, fun ρ => sbool_e (by rw [Nat.sub_self]; rfl) ρ, fun ρ => sint_e (wrap_pr (ir_pred hl (Nat.le_refl _))) ρ, stm _⟩
    · exact ⟨⟨rfl, rfl, rfl, fun _ => rfl⟩, ⟨rfl, rfl, rfl, fun _ => rfl⟩, ⟨rfl, rfl, rfl, fun _ => rfl⟩, ⟨rfl, rfl, rfl, fun ρ => hit_cells (by rw [Nat.sub_self]; rfl) (by rw [Nat.sub_self]; rfl) (by rw [Nat.sub_self]; rfl) ρ⟩, trivial⟩
  · rintro ⟨⟨k, hk⟩, vs⟩
    conv => whnf
    refine bcase_intro (fun hge => ?_) (fun hge => ?_)
    · rcases k with _ | k
      · have h0 := of_decide_eq_true hge
        have h1 : (0 : Int) ≤ ((0 : Nat) : Int) - 1 := h0
        omega
      have hlt : k < l.length := hk
      conv => whnf
      conv =>
        arg 2
        tactic' =>
          apply eff_index_sli (hi := lt_irT hl (Nat.le_of_lt hlt)) (ho := ?how7) (hT := ?hTw7) (hx := ?hxw7) (hk := ?hkw7) (hlt := ?hltw7)
          case how7 => rfl
          case hTw7 => rfl
          case hxw7 => rfl
          case hkw7 => exact cint (pred_eq k) (lt_irT hl (Nat.le_of_lt hlt))
          case hltw7 => exact hlt
      conv => whnf
      conv =>
        arg 2
        tactic' =>
          apply eff_load_sub (ho := ?how8) (hT := ?hTw8) (hx := ?hxw8) (hb := ?hbw8) (hm := ?hmw8) (hv := ?hvw8)
          case how8 => rfl
          case hTw8 => rfl
          case hxw8 => rfl
          case hbw8 => rfl
          case hmw8 => exact (by rw [Nat.zero_add]; exact subC_trs l hlt : subC (trsC l) (0 + k * 9) 9 = some (trC l[k]))
          case hvw8 => rfl
      conv => whnf
      refine bcase_intro (fun hc => ?_) (fun hc => ?_)
      · have hc : crB r l[k] = true := hc
        conv => whnf
        refine bcase_intro (fun h0 => ?_) (fun h0 => ?_)
        · conv => whnf
          refine ⟨[0, 1, 2, 3], [1, 2, 4, 6, 7, 8], [0, 1, 2, 3], fun vs2 => ?_⟩
          conv => whnf
          refine ⟨pureL_trs2 l, fun _ _ => rfl, fun _ _ => rfl, fun _ _ => rfl, ?_⟩
          conv => whnf
          refine ⟨_, _, ?_, ?_, (⟨k, Nat.le_of_lt hlt⟩, vs2), (Nat.lt_succ_self k), rfl, rfl⟩
          · exact ⟨fun _ => rfl, fun _ => rfl, fun _ => rfl, fun _ => rfl, fun _ => rfl, fun _ => rfl, fun _ => rfl, fun ρ => sbool_e (isSome_some (bw_0 hlt hc h0)) ρ, fun ρ => sint_e (by rw [pred_eq]; exact wrap_pr (ir_pred hl (Nat.le_of_lt hlt))) ρ, stm _⟩
          · exact ⟨⟨rfl, rfl, rfl, fun _ => rfl⟩, ⟨rfl, rfl, rfl, fun _ => rfl⟩, ⟨rfl, rfl, rfl, fun _ => rfl⟩, ⟨rfl, rfl, rfl, fun ρ => hit_cells ((cr_at hlt).2.1.trans (congrArg (hN r l) (bw_0 hlt hc h0).symm)) ((cr_at hlt).2.2.trans (congrArg (hD r l) (bw_0 hlt hc h0).symm)) ((pred_eq k).trans ((hK_some hlt h1).trans (congrArg hK (bw_0 hlt hc h0).symm))) ρ⟩, trivial⟩
        · conv => whnf
          refine bcase_intro (fun hq => ?_) (fun hq => ?_)
          · conv => whnf
            refine ⟨[0, 1, 2, 3], [1, 2, 4, 6, 7, 8], [0, 1, 2, 3], fun vs2 => ?_⟩
            conv => whnf
            refine ⟨pureL_trs2 l, fun _ _ => rfl, fun _ _ => rfl, fun _ _ => rfl, ?_⟩
            conv => whnf
            refine ⟨_, _, ?_, ?_, (⟨k, Nat.le_of_lt hlt⟩, vs2), (Nat.lt_succ_self k), rfl, rfl⟩
            · exact ⟨fun _ => rfl, fun _ => rfl, fun _ => rfl, fun _ => rfl, fun _ => rfl, fun _ => rfl, fun _ => rfl, fun ρ => sbool_e (isSome_some (bw_1 hlt hc hq)) ρ, fun ρ => sint_e (by rw [pred_eq]; exact wrap_pr (ir_pred hl (Nat.le_of_lt hlt))) ρ, stm _⟩
            · exact ⟨⟨rfl, rfl, rfl, fun _ => rfl⟩, ⟨rfl, rfl, rfl, fun _ => rfl⟩, ⟨rfl, rfl, rfl, fun _ => rfl⟩, ⟨rfl, rfl, rfl, fun ρ => hit_cells ((cr_at hlt).2.1.trans (congrArg (hN r l) (bw_1 hlt hc hq).symm)) ((cr_at hlt).2.2.trans (congrArg (hD r l) (bw_1 hlt hc hq).symm)) ((pred_eq k).trans ((hK_some hlt h1).trans (congrArg hK (bw_1 hlt hc hq).symm))) ρ⟩, trivial⟩
          · conv => whnf
            refine ⟨[0, 1, 2, 3], [1, 2, 4, 6, 7, 8], [0, 1, 2, 3], fun vs2 => ?_⟩
            conv => whnf
            refine ⟨pureL_trs2 l, fun _ _ => rfl, fun _ _ => rfl, fun _ _ => rfl, ?_⟩
            conv => whnf
            refine ⟨_, _, ?_, ?_, (⟨k, Nat.le_of_lt hlt⟩, vs2), (Nat.lt_succ_self k), rfl, rfl⟩
            · exact ⟨fun _ => rfl, fun _ => rfl, fun _ => rfl, fun _ => rfl, fun _ => rfl, fun _ => rfl, fun _ => rfl, fun ρ => sbool_e (congrArg Option.isSome (bw_2 hlt h0 hq)) ρ, fun ρ => sint_e (by rw [pred_eq]; exact wrap_pr (ir_pred hl (Nat.le_of_lt hlt))) ρ, stm _⟩
            · exact ⟨⟨rfl, rfl, rfl, fun _ => rfl⟩, ⟨rfl, rfl, rfl, fun _ => rfl⟩, ⟨rfl, rfl, rfl, fun _ => rfl⟩, ⟨rfl, rfl, rfl, fun ρ => hit_same (bw_2 hlt h0 hq) ρ⟩, trivial⟩
      · have hc : crB r l[k] = false := hc
        conv => whnf
        refine ⟨[0, 1, 2, 3], [1, 2, 4, 6, 7, 8], [0, 1, 2, 3], fun vs2 => ?_⟩
        conv => whnf
        refine ⟨pureL_trs2 l, fun _ _ => rfl, fun _ _ => rfl, fun _ _ => rfl, ?_⟩
        conv => whnf
        refine ⟨_, _, ?_, ?_, (⟨k, Nat.le_of_lt hlt⟩, vs2), (Nat.lt_succ_self k), rfl, rfl⟩
        · exact ⟨fun _ => rfl, fun _ => rfl, fun _ => rfl, fun _ => rfl, fun _ => rfl, fun _ => rfl, fun _ => rfl, fun ρ => sbool_e (congrArg Option.isSome (bw_n hlt hc)) ρ, fun ρ => sint_e (by rw [pred_eq]; exact wrap_pr (ir_pred hl (Nat.le_of_lt hlt))) ρ, stm _⟩
        · exact ⟨⟨rfl, rfl, rfl, fun _ => rfl⟩, ⟨rfl, rfl, rfl, fun _ => rfl⟩, ⟨rfl, rfl, rfl, fun _ => rfl⟩, ⟨rfl, rfl, rfl, fun ρ => hit_same (bw_n hlt hc) ρ⟩, trivial⟩
    · have e : k = 0 := by have h0 : ¬ (0 : Int) ≤ (k : Int) - 1 := of_decide_eq_false hge; omega
      subst e
      conv => whnf
      exact fun ρ => frst_sv (fwd_bwd _ _ _) ρ
def dCnt : Dr
  | [.agg [.int rx hrx, .int ry hry, .int rz hrz, .int rw hrw, .int d0 hd0, .int d1 hd1, .int d2 hd2], .c (.sli _ b off len _ _)], hf => (match hf b, off with
    | some blk, 0 => (match toTrs blk.cs with
      | some l => if h : l.length = len ∧ l.length ≤ 1000000 then some (none, cntV ⟨rx, ry, rz, rw, d0, d1, d2, hrx, hry, hrz, hrw, hd0, hd1, hd2⟩ l h.2) else none
      | none => none)
    | _, _ => none)
  | _, _ => none
def dFst : Dr
  | [.agg [.int rx hrx, .int ry hry, .int rz hrz, .int rw hrw, .int d0 hd0, .int d1 hd1, .int d2 hd2], .c (.sli _ b off len _ _)], hf => (match hf b, off with
    | some blk, 0 => (match toTrs blk.cs with
      | some l => if l.length = len ∧ l.length ≤ 1000000 then some (none, frstV ⟨rx, ry, rz, rw, d0, d1, d2, hrx, hry, hrz, hrw, hd0, hd1, hd2⟩ l) else none
      | none => none)
    | _, _ => none)
  | _, _ => none
theorem spCountY : SpR Tryz.prog 24 dCnt := by
  refine ⟨(⟨Tryz.func24, by kernel_rfl, by kernel_rfl⟩ : FnOk Tryz.prog 24 Tryz.f24).callable, fun args hf p v hd => ?_⟩
  unfold dCnt at hd
  split at hd
  · rename_i rx hrx ry hry rz hrz rw hrw d0 hd0 d1 hd1 d2 hd2 nl b off len cap hl
    split at hd
    · rename_i blk hb
      split at hd
      · rename_i l hpl
        split at hd
        · rename_i hlen
          cases hd
          obtain ⟨rfl, h1⟩ := hlen
          have hcs := toTrs_ok hpl
          refine ⟨fun _ _ => rfl, fun _ ρ w hh => ?_⟩
          have hH := (hh b blk hb).1
          rw [hcs] at hH
          have hv := vcCountY ⟨rx, ry, rz, rw, d0, d1, d2, hrx, hry, hrz, hrw, hd0, hd1, hd2⟩ l blk.ty nl cap h1 hl
          refine read_okH (envN_ok baseC_ok .nil 0 fun _ => false) mixed (mix_ok .nil (envN_ok baseC_ok .nil 0 fun _ => false) mixed noF_ok 0) ⟨Tryz.func24, by kernel_rfl, by kernel_rfl⟩ (fun _ _ => rfl) (fun i c hi => ?_) (fun _ => ρ b) (fun ρ' hρ => ?_) hv w (fun i c hi => ?_)
          · cases i with
            | zero => simp [nthO] at hi; subst hi; exact ⟨rfl, trsC_pure l⟩
            | succ i => simp [nthO] at hi
          · have := hρ 0 rfl
            simp only [List.map_cons, List.map_nil, SV.den, C.den, C.cells, this]
            rfl
          · cases i with
            | zero => simp [nthO] at hi; subst hi; rw [trsC_pure l (fun _ => ρ b) ρ]; exact hH
            | succ i => simp [nthO] at hi
        · cases hd
      · cases hd
    · cases hd
  · cases hd
theorem spCount22 : SpR Tryz.prog 30 dCnt := by
  refine ⟨(⟨Tryz.func30, by kernel_rfl, by kernel_rfl⟩ : FnOk Tryz.prog 30 Tryz.f30).callable, fun args hf p v hd => ?_⟩
  unfold dCnt at hd
  split at hd
  · rename_i rx hrx ry hry rz hrz rw hrw d0 hd0 d1 hd1 d2 hd2 nl b off len cap hl
    split at hd
    · rename_i blk hb
      split at hd
      · rename_i l hpl
        split at hd
        · rename_i hlen
          cases hd
          obtain ⟨rfl, h1⟩ := hlen
          have hcs := toTrs_ok hpl
          refine ⟨fun _ _ => rfl, fun _ ρ w hh => ?_⟩
          have hH := (hh b blk hb).1
          rw [hcs] at hH
          have hv := vcCount22 ⟨rx, ry, rz, rw, d0, d1, d2, hrx, hry, hrz, hrw, hd0, hd1, hd2⟩ l blk.ty nl cap h1 hl
          refine read_okH (envN_ok baseC_ok .nil 0 fun _ => false) mixed (mix_ok .nil (envN_ok baseC_ok .nil 0 fun _ => false) mixed noF_ok 0) ⟨Tryz.func30, by kernel_rfl, by kernel_rfl⟩ (fun _ _ => rfl) (fun i c hi => ?_) (fun _ => ρ b) (fun ρ' hρ => ?_) hv w (fun i c hi => ?_)
          · cases i with
            | zero => simp [nthO] at hi; subst hi; exact ⟨rfl, trsC_pure l⟩
            | succ i => simp [nthO] at hi
          · have := hρ 0 rfl
            simp only [List.map_cons, List.map_nil, SV.den, C.den, C.cells, this]
            rfl
          · cases i with
            | zero => simp [nthO] at hi; subst hi; rw [trsC_pure l (fun _ => ρ b) ρ]; exact hH
            | succ i => simp [nthO] at hi
        · cases hd
      · cases hd
    · cases hd
  · cases hd
theorem spFirstY : SpR Tryz.prog 28 dFst := by
  refine ⟨(⟨Tryz.func28, by kernel_rfl, by kernel_rfl⟩ : FnOk Tryz.prog 28 Tryz.f28).callable, fun args hf p v hd => ?_⟩
  unfold dFst at hd
  split at hd
  · rename_i rx hrx ry hry rz hrz rw hrw d0 hd0 d1 hd1 d2 hd2 nl b off len cap hl
    split at hd
    · rename_i blk hb
      split at hd
      · rename_i l hpl
        split at hd
        · rename_i hlen
          cases hd
          obtain ⟨rfl, h1⟩ := hlen
          have hcs := toTrs_ok hpl
          refine ⟨fun _ _ => rfl, fun _ ρ w hh => ?_⟩
          have hH := (hh b blk hb).1
          rw [hcs] at hH
          have hv := vcFirstY ⟨rx, ry, rz, rw, d0, d1, d2, hrx, hry, hrz, hrw, hd0, hd1, hd2⟩ l blk.ty nl cap h1 hl
          refine read_okH (envN_ok baseC_ok .nil 0 fun _ => false) mixed (mix_ok .nil (envN_ok baseC_ok .nil 0 fun _ => false) mixed noF_ok 0) ⟨Tryz.func28, by kernel_rfl, by kernel_rfl⟩ (fun _ _ => rfl) (fun i c hi => ?_) (fun _ => ρ b) (fun ρ' hρ => ?_) hv w (fun i c hi => ?_)
          · cases i with
            | zero => simp [nthO] at hi; subst hi; exact ⟨rfl, trsC_pure l⟩
            | succ i => simp [nthO] at hi
          · have := hρ 0 rfl
            simp only [List.map_cons, List.map_nil, SV.den, C.den, C.cells, this]
            rfl
          · cases i with
            | zero => simp [nthO] at hi; subst hi; rw [trsC_pure l (fun _ => ρ b) ρ]; exact hH
            | succ i => simp [nthO] at hi
        · cases hd
      · cases hd
    · cases hd
  · cases hd
theorem spFirst22 : SpR Tryz.prog 29 dFst := by
  refine ⟨(⟨Tryz.func29, by kernel_rfl, by kernel_rfl⟩ : FnOk Tryz.prog 29 Tryz.f29).callable, fun args hf p v hd => ?_⟩
  unfold dFst at hd
  split at hd
  · rename_i rx hrx ry hry rz hrz rw hrw d0 hd0 d1 hd1 d2 hd2 nl b off len cap hl
    split at hd
    · rename_i blk hb
      split at hd
      · rename_i l hpl
        split at hd
        · rename_i hlen
          cases hd
          obtain ⟨rfl, h1⟩ := hlen
          have hcs := toTrs_ok hpl
          refine ⟨fun _ _ => rfl, fun _ ρ w hh => ?_⟩
          have hH := (hh b blk hb).1
          rw [hcs] at hH
          have hv := vcFirst22 ⟨rx, ry, rz, rw, d0, d1, d2, hrx, hry, hrz, hrw, hd0, hd1, hd2⟩ l blk.ty nl cap h1 hl
          refine read_okH (envN_ok baseC_ok .nil 0 fun _ => false) mixed (mix_ok .nil (envN_ok baseC_ok .nil 0 fun _ => false) mixed noF_ok 0) ⟨Tryz.func29, by kernel_rfl, by kernel_rfl⟩ (fun _ _ => rfl) (fun i c hi => ?_) (fun _ => ρ b) (fun ρ' hρ => ?_) hv w (fun i c hi => ?_)
          · cases i with
            | zero => simp [nthO] at hi; subst hi; exact ⟨rfl, trsC_pure l⟩
            | succ i => simp [nthO] at hi
          · have := hρ 0 rfl
            simp only [List.map_cons, List.map_nil, SV.den, C.den, C.cells, this]
            rfl
          · cases i with
            | zero => simp [nthO] at hi; subst hi; rw [trsC_pure l (fun _ => ρ b) ρ]; exact hH
            | succ i => simp [nthO] at hi
        · cases hd
      · cases hd
    · cases hd
  · cases hd
end Go.Proofs.YtefgchmbdijjdaaGreatDoor

namespace Go.Proofs.YtefgchmbdijjdaaGreatDoor
open Go.RowKit
set_option maxRecDepth 100000

theorem ir_emod {n m : Int} (hn : IR n) (hm : IR m) : IR (n % m) := by
  by_cases h : m = 0
  · subst h; rw [Int.emod_zero]; exact hn
  · have h1 := Int.emod_nonneg n h
    have h2 := Int.emod_lt n h
    unfold IR at *
    omega
theorem mod_eq {n m : Int} (hn : IR n) (h : 0 < m ∧ m ≤ 1000000) : (IntKind.i64.wrap (n.tmod m + m)).tmod m = n % m := by
  have h1 : -m < n.tmod m := Int.lt_tmod_of_pos n h.1
  have h2 : n.tmod m < m := Int.tmod_lt_of_pos n h.1
  rw [wrap_id (z := n.tmod m + m) (by unfold IR; omega), Int.tmod_eq_emod_of_nonneg (by omega), Int.add_emod_right]
  have _ := hn
  rw [Int.tmod_def, Int.sub_mul_emod_self_left]
def dMod : Dn
  | [.c (.int n hn), .c (.int m hm)] => some (some (0 < m ∧ m ≤ 1000000), .c (.int (n % m) (ir_emod hn hm)))
  | _ => none
theorem spMod : SpOk Tryz.prog 12 dMod := sp_of2 (un := 20) (n := 0) ⟨Tryz.func12, by kernel_rfl, by kernel_rfl⟩ baseC_ok noF_ok fun args p v hd => by
  unfold dMod at hd
  split at hd
  · rename_i n hn m hm
    cases hd
    refine ⟨[.c (.int n hn), .c (.int m hm)], fun _ => rfl, fun _ _ => rfl, fun _ _ => rfl, fun hpre => ?_⟩
    have hm0 : 0 < m ∧ m ≤ 1000000 := hpre _ rfl
    conv => whnf
    conv =>
      arg 2
      tactic' =>
        apply eff_rem (hi := hn.tmod m) (ho := ?how1) (hx := ?hxw1) (hy := ?hyw1) (hb0 := ?hb0w1) (hc := ?hcw1)
        case how1 => rfl
        case hxw1 => rfl
        case hyw1 => rfl
        case hb0w1 => exact (by omega)
        case hcw1 => rfl
    conv => whnf
    conv =>
      arg 2
      tactic' =>
        apply eff_rem (hi := ir_emod hn hm) (ho := ?how2) (hx := ?hxw2) (hy := ?hyw2) (hb0 := ?hb0w2) (hc := ?hcw2)
        case how2 => rfl
        case hxw2 => rfl
        case hyw2 => rfl
        case hb0w2 => exact (by omega)
        case hcw2 => exact mod_eq hn hm0
    conv => whnf
    exact fun _ => rfl
  · cases hd
def baseM : List (FuncId × Dn) := (12, dMod) :: baseC
theorem baseM_ok : AllOk baseM := .cons spMod <| baseC_ok
/-- a small ray -/
def nW (w : Int) : Int := 1 + w % 4
def nC (w n : Int) : Int := n % (11 * w) - 2 * w
def nD (n : Int) : Int := n % 7 - 3
theorem nW_b (w : Int) : 1 ≤ nW w ∧ nW w ≤ 4 := by unfold nW; omega
theorem nC_b {w : Int} (hw : 1 ≤ w ∧ w ≤ 4) (n : Int) : -2 * w ≤ nC w n ∧ nC w n < 9 * w := by
  unfold nC
  have h1 := Int.emod_nonneg n (show 11 * w ≠ 0 by omega)
  have h2 := Int.emod_lt_of_pos n (show 0 < 11 * w by omega)
  omega
theorem nD_b (n : Int) : -3 ≤ nD n ∧ nD n ≤ 3 := by unfold nD; omega
theorem ir_nW (w : Int) : IR (nW w) := by have := nW_b w; unfold IR; omega
theorem ir_nC (w n : Int) : IR (nC (nW w) n) := by have h := nW_b w; have := nC_b h n; unfold IR; omega
theorem ir_nD (n : Int) : IR (nD n) := by have := nD_b n; unfold IR; omega
def nearZ (r : RZ) : RZ := ⟨nC (nW r.w) r.x, nC (nW r.w) r.y, nC (nW r.w) r.z, nW r.w, ⟨nD r.d.x, nD r.d.y, nD r.d.z⟩⟩
/-- the coordinate's function: it reads w -/
def dNear1 : Dr
  | [.c (.int n _), .c (.ptr b 0)], hf => (match hf b with
    | some ⟨_, _, [.int w _], _⟩ => some (some (1 ≤ w ∧ w ≤ 4), .c (.int (IntKind.i64.wrap (n % IntKind.i64.wrap (11 * w) - IntKind.i64.wrap (2 * w))) (IR.wrap _)))
    | _ => none)
  | _, _ => none
theorem vcNear1 {n w : Int} (hn : IR n) (hw : IR w) (hb : 1 ≤ w ∧ w ≤ 4) (ty : TypeId) : vcF (env 20 baseM) (inl (env 20 baseM) noF 0) Tryz.f34 [.c (.int n hn), .c (.ptr 0 0)] [⟨ty, true, [.int w hw], 0⟩] fun u _ => ∀ ρ, u.den ρ = (SV.c (.int (IntKind.i64.wrap (n % IntKind.i64.wrap (11 * w) - IntKind.i64.wrap (2 * w))) (IR.wrap _))).den ρ := by
  have h11 : 0 < IntKind.i64.wrap (11 * w) ∧ IntKind.i64.wrap (11 * w) ≤ 1000000 := by rw [wrap_id (z := 11 * w) (by unfold IR; omega)]; omega
  conv => whnf
  refine ⟨h11, ?_⟩
  conv => whnf
  exact fun _ => rfl
theorem spNear1 : SpR Tryz.prog 34 dNear1 := by
  refine ⟨(⟨Tryz.func34, by kernel_rfl, by kernel_rfl⟩ : FnOk Tryz.prog 34 Tryz.f34).callable, fun args hf p v hd => ?_⟩
  unfold dNear1 at hd
  split at hd
  · rename_i n hn b
    split at hd
    · rename_i ty ro w hw tl hb
      cases hd
      refine ⟨fun _ _ => rfl, fun ho ρ ww hh => ?_⟩
      have hw4 : 1 ≤ w ∧ w ≤ 4 := ho _ rfl
      have hH := (hh b _ hb).1
      refine read_ok (P := Tryz.prog) (env_ok baseM_ok 20) mixed noF_ok ⟨Tryz.func34, by kernel_rfl, by kernel_rfl⟩ (fun _ _ => rfl) (fun i c hi => ?_) (fun _ => ρ b) (fun ρ' hρ => ?_) (vcNear1 hn hw hw4 ty) ww (fun i c hi => ?_)
      · cases i with
        | zero => simp [nthO] at hi; subst hi; exact ⟨rfl, fun _ _ => rfl⟩
        | succ i => simp [nthO] at hi
      · have := hρ 0 rfl
        simp only [List.map_cons, List.map_nil, SV.den, C.den, C.cells, adr, this]
      · cases i with
        | zero => simp [nthO] at hi; subst hi; exact hH
        | succ i => simp [nthO] at hi
    · cases hd
  · cases hd
def dNear2 : Dn
  | [.c (.int n _)] =>
    some (none, .c (.int (nD n) (ir_nD n)))
  | _ => none
theorem spNear2 : SpOk Tryz.prog 35 dNear2 := sp_of2 (un := 20) (n := 0) ⟨Tryz.func35, by kernel_rfl, by kernel_rfl⟩ baseM_ok noF_ok fun args p v hd => by
  unfold dNear2 at hd
  split at hd
  · rename_i n hn
    cases hd
    refine ⟨[.c (.int n hn)], fun _ => rfl, fun _ _ => rfl, fun _ _ => rfl, fun _ => ?_⟩
    conv => whnf
    refine ⟨⟨by decide, by decide⟩, ?_⟩
    conv => whnf
    exact fun ρ => sint_e (wrap_id (ir_nD n)) ρ
  · cases hd
def baseM1 : List (FuncId × Dn) := (35, dNear2) :: baseM
theorem baseM1_ok : AllOk baseM1 := .cons spNear2 <| baseM_ok
def rdNr : List (FuncId × Dr) := [(34, dNear1)]
theorem rdNr_ok : AllR rdNr := .cons spNear1 .nil
theorem near_w {w : Int} : IntKind.i64.wrap (1 + w % 4) = nW w := wrap_id (ir_nW w)
theorem near_c {w n : Int} : IntKind.i64.wrap (n % IntKind.i64.wrap (11 * IntKind.i64.wrap (1 + w % 4)) - IntKind.i64.wrap (2 * IntKind.i64.wrap (1 + w % 4))) = nC (nW w) n := by
  have h := nW_b w
  rw [near_w, wrap_id (z := 11 * nW w) (by unfold IR; omega), wrap_id (z := 2 * nW w) (by unfold IR; omega)]
  exact wrap_id (ir_nC w n)
theorem near_b {w : Int} : 1 ≤ IntKind.i64.wrap (1 + w % 4) ∧ IntKind.i64.wrap (1 + w % 4) ≤ 4 := by rw [near_w]; exact nW_b w
theorem ints7_sv {a b c d e f g a' b' c' d' e' f' g' : Int} {h1 : IR a} {h2 : IR b} {h3 : IR c} {h4 : IR d} {h5 : IR e} {h6 : IR f} {h7 : IR g} {i1 : IR a'} {i2 : IR b'} {i3 : IR c'} {i4 : IR d'} {i5 : IR e'} {i6 : IR f'} {i7 : IR g'} (e1 : a = a') (e2 : b = b') (e3 : c = c') (e4 : d = d') (e5 : e = e') (e6 : f = f') (e7 : g = g') (ρ : Rho) :
    (SV.agg [.int a h1, .int b h2, .int c h3, .int d h4, .int e h5, .int f h6, .int g h7]).den ρ = (SV.agg [.int a' i1, .int b' i2, .int c' i3, .int d' i4, .int e' i5, .int f' i6, .int g' i7]).den ρ := by subst e1 e2 e3 e4 e5 e6 e7; rfl
def dNearL : Dn
  | [.agg [.int rx _, .int ry _, .int rz _, .int rw _, .int d0 _, .int d1 _, .int d2 _]] =>
    some (none, .agg [.int (nC (nW rw) rx) (ir_nC rw rx), .int (nC (nW rw) ry) (ir_nC rw ry), .int (nC (nW rw) rz) (ir_nC rw rz), .int (nW rw) (ir_nW rw), .int (nD d0) (ir_nD d0), .int (nD d1) (ir_nD d1), .int (nD d2) (ir_nD d2)])
  | _ => none
set_option maxHeartbeats 4000000 in
theorem spNearL : SpOk Tryz.prog 13 dNearL := sp_of3 (un := 20) (n := 0) ⟨Tryz.func13, by kernel_rfl, by kernel_rfl⟩ baseM1_ok rdNr_ok noF_ok fun args p v hd => by
  unfold dNearL at hd
  split at hd
  · rename_i rx hrx ry hry rz hrz rw hrw d0 hd0 d1 hd1 d2 hd2
    cases hd
    refine ⟨[.agg [.int rx hrx, .int ry hry, .int rz hrz, .int rw hrw, .int d0 hd0, .int d1 hd1, .int d2 hd2]], fun _ => rfl, fun _ _ => rfl, fun _ _ => rfl, fun _ => ?_⟩
    conv => whnf
    refine ⟨⟨by decide, by decide⟩, ?_⟩
    conv => whnf
    refine ⟨near_b, ?_⟩
    conv => whnf
    refine ⟨near_b, ?_⟩
    conv => whnf
    refine ⟨near_b, ?_⟩
    conv => whnf
    exact fun ρ => ints7_sv near_c near_c near_c near_w rfl rfl rfl ρ
  · cases hd
theorem sm64_1 : Sm 64 1 := by unfold Sm; decide
theorem sm64_2 : Sm 64 2 := by unfold Sm; decide
theorem sm64_3 : Sm 64 3 := by unfold Sm; decide
def cFrac : List SV → Option SV
  | [.c (.int n _), .c (.int m _)] => if n = 1 ∧ m = 1 then some (.agg [.wid 64 1 sm64_1, .wid 64 1 sm64_1]) else if n = 3 ∧ m = 2 then some (.agg [.wid 64 3 sm64_3, .wid 64 2 sm64_2]) else none
  | _ => none
theorem fr_ex : (fracN 1 1 = 1 ∧ fracD 1 1 = 1) ∧ fracN 3 2 = 3 ∧ fracD 3 2 = 2 := by decide +kernel
theorem spFracS : SpOk Tryz.prog 31 (dOver cFrac dFrac22) := spOver spFrac22 fun args v p u h1 h2 ρ => by
  unfold cFrac at h1
  split at h1
  · split at h1
    · rename_i e
      obtain ⟨rfl, rfl⟩ := e
      cases h1; cases h2
      exact wid2_sv _ _ _ _ fr_ex.1.1 fr_ex.1.2 ρ
    · split at h1
      · rename_i e
        obtain ⟨rfl, rfl⟩ := e
        cases h1; cases h2
        exact wid2_sv _ _ _ _ fr_ex.2.1 fr_ex.2.2 ρ
      · cases h1
  · cases h1
def baseS2 : List (FuncId × Dn) := (31, dOver cFrac dFrac22) :: (33, dCrsS) :: (17, dBoxS0) :: baseC
theorem baseS2_ok : AllOk baseS2 := .cons spFracS <| .cons spCrsS <| .cons spBoxS0 baseC_ok
def dSanity : Dn
  | [] => some (none, .c (.val (.bool true)))
  | _ => none
theorem spSanity : SpOk Tryz.prog 11 dSanity := sp_of2 (un := 20) (n := 0) ⟨Tryz.func11, by kernel_rfl, by kernel_rfl⟩ baseS2_ok noF_ok fun args p v hd => by
  unfold dSanity at hd
  split at hd
  · cases hd
    refine ⟨[], fun _ => rfl, fun _ _ => rfl, fun _ _ => rfl, fun _ => ?_⟩
    conv => whnf
    exact fun _ => rfl
  · cases hd
end Go.Proofs.YtefgchmbdijjdaaGreatDoor

namespace Go.Proofs.YtefgchmbdijjdaaGreatDoor
open Go.RowKit
set_option maxRecDepth 100000

def nearI (r : RI) : RI := ⟨nC (nW r.w) r.x, nC (nW r.w) r.y, nC (nW r.w) r.z, nW r.w, nD r.a, nD r.b, nD r.c, ir_nC _ _, ir_nC _ _, ir_nC _ _, ir_nW _, ir_nD _, ir_nD _, ir_nD _⟩
/-- First of an empty list -/
def dFst0 : Dn
  | [.agg [.int rx hrx, .int ry hry, .int rz hrz, .int rw hrw, .int d0 hd0, .int d1 hd1, .int d2 hd2], .c (.val (.slice none 0 0))] => some (none, frstV ⟨rx, ry, rz, rw, d0, d1, d2, hrx, hry, hrz, hrw, hd0, hd1, hd2⟩ [])
  | _ => none
set_option maxHeartbeats 4000000 in
theorem vcFst0 (r : RI) : vcF (envN 0 baseC [] fun _ => false) (mix [] (envN 0 baseC [] fun _ => false) noF 0) Tryz.f28 [.agg (riC r), .c (.val (.slice none 0 0))] [] fun u _ => ∀ ρ, u.den ρ = (frstV r []).den ρ := by
  conv => whnf
  refine .inl ⟨1, ?_⟩
  conv => whnf
  exact fun _ => rfl
theorem spFst0 : SpOk Tryz.prog 28 dFst0 := ⟨⟨_, Tryz.func28, by kernel_rfl, by kernel_rfl⟩, fun args p v hd => by
  unfold dFst0 at hd
  split at hd
  · rename_i rx hrx ry hry rz hrz rw hrw d0 hd0 d1 hd1 d2 hd2
    cases hd
    exact ⟨fun _ _ => rfl, fun _ ρ w => pure_okH (envN_ok baseC_ok .nil 0 fun _ => false) mixed (mix_ok .nil (envN_ok baseC_ok .nil 0 fun _ => false) mixed noF_ok 0) ⟨Tryz.func28, by kernel_rfl, by kernel_rfl⟩ (fun _ _ => rfl) (fun _ _ => rfl) (vcFst0 ⟨rx, ry, rz, rw, d0, d1, d2, hrx, hry, hrz, hrw, hd0, hd1, hd2⟩) ρ w⟩
  · cases hd⟩
theorem sm64_0 : Sm 64 0 := sm_zero 64
def cFr01 : List SV → Option SV
  | [.c (.int n _), .c (.int m _)] => if n = 0 ∧ m = 1 then some (.agg [.wid 64 0 sm64_0, .wid 64 1 sm64_1]) else none
  | _ => none
theorem spFr01 : SpOk Tryz.prog 31 (dOver cFr01 dFrac22) := spOver spFrac22 fun args v p u h1 h2 ρ => by
  unfold cFr01 at h1
  split at h1
  · split at h1
    · rename_i e
      obtain ⟨rfl, rfl⟩ := e
      cases h1; cases h2
      exact wid2_sv _ _ _ _ fr01.1 fr01.2 ρ
    · cases h1
  · cases h1
def baseLL : List (FuncId × Dn) := (11, dSanity) :: (13, dNearL) :: (31, dOver cFr01 dFrac22) :: (28, dFst0) :: baseC
theorem baseLL_ok : AllOk baseLL := .cons spSanity <| .cons spNearL <| .cons spFr01 <| .cons spFst0 baseC_ok
theorem dCnt_ot {o : OT} {b : Nat} {R : RI} {hf : Nat → Option Blk} (hb : hf b = some o.blk) (hn : o.l.length ≤ 1000000) : dCnt [.agg (riC R), o.sl b] hf = some (none, cntV R o.l hn) := by
  unfold dCnt OT.sl riC
  simp only [hb, OT.blk, toTrs_trs]
  rw [dif_pos ⟨trivial, hn⟩]
theorem dFst_ot {o : OT} {b : Nat} {R : RI} {hf : Nat → Option Blk} (hb : hf b = some o.blk) (hn : o.l.length ≤ 1000000) : dFst [.agg (riC R), o.sl b] hf = some (none, frstV R o.l) := by
  unfold dFst OT.sl riC
  simp only [hb, OT.blk, toTrs_trs]
  rw [if_pos ⟨trivial, hn⟩]
theorem imp_viaO {S : List TR} {Z : (o : OT) → o.l = S → Prop} {G : Prop} (h : (∀ o ho, Z o ho) → G) (z : ∀ o ho, Z o ho) : G := h z
theorem shpL_len (b : Int) (L : List ZI) (len : Nat) : (shpL b L len).length ≤ 324 := by
  unfold shpL; split
  · rw [hillsL_len]
    have h := (hM_eq (IntKind.i64.wrap (b.tmod 4))).2
    generalize hM (IntKind.i64.wrap (b.tmod 4)) = M at h
    have : 2 * M * M ≤ 2 * 6 * 6 := Nat.mul_le_mul (Nat.mul_le_mul_left 2 h) h
    omega
  · exact voxL_len _ _ _ 27
def lawC : List (FuncId × NewC) := [(19, cShape)]
theorem lawC_ok : AllC Tryz.prog lawC := .cons csShape .nil
def okLaw (args : List SV) (ros : List Blk) : Prop := ∃ r b v ty L, args = [.agg (riC r), .c (.val (.int .u32 b)), .c v] ∧ ros = [⟨ty, true, intsC L, 0⟩] ∧ okHs v ty L
/-- a law: true for all arguments -/
def cLaw : NewC := fun args ros K => okLaw args ros ∧ K (.c (.val (.bool true))) []
theorem call_law {f : FuncId} (hf : CSp Tryz.prog f cLaw) {b : Int} {v : C} {ty : TypeId} {L : List ZI} {a : Nat × Nat} (r : RI) (hv : okHs v ty L) (w : World) (hr : w.rangeAt a.1 a.2 (cellsL (fun _ => a) (intsC L))) :
    Calls Tryz.prog f #[.agg #[.int .i64 r.x, .int .i64 r.y, .int .i64 r.z, .int .i64 r.w, .int .i64 r.a, .int .i64 r.b, .int .i64 r.c], .int .u32 b, (SV.c v).den (fun _ => a)] w fun e w' => e = .returned (.bool true) ∧ Below w.heap.size w w' := by
  refine (hf.2 [.agg (riC r), .c (.val (.int .u32 b)), .c v] [⟨ty, true, intsC L, 0⟩] (fun u _ => u = .c (.val (.bool true))) ⟨⟨_, _, _, _, _, rfl, rfl, hv⟩, rfl⟩ ⟨rfl, trivial⟩ ⟨intsC_pure L, trivial⟩ (fun _ => a) w (fun i c hi => ?_)).mono ?_
  · cases i with
    | zero => simp [nthO] at hi; subst hi; exact hr
    | succ i => simp [nthO] at hi
  · rintro e w' ⟨u, news, σ, rfl, _, hh, _, he⟩
    exact ⟨he σ (Agr.refl _ _), hh.bel⟩
end Go.Proofs.YtefgchmbdijjdaaGreatDoor
