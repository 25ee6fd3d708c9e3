/- The reckoner is sound: code and functions. -/
import Derived.Test.YtapppahniablmaaDoorSxDraw3
namespace Go.Proofs.YtapppahniablmaaDoor
open Go.RowKit

def nF : List Bool → Nat
  | [] => 0
  | b :: l => (if b = true then 0 else 1) + nF l
theorem nF_set : ∀ (l : List Bool) (i : Nat), l[i]? = some false → nF (l.set i true) + 1 = nF l
  | [], i, h => by simp at h
  | b :: l, 0, h => by simp at h; subst h; simp [nF]; omega
  | b :: l, i + 1, h => by
    have := nF_set l i (by simpa using h)
    simp only [List.set_cons_succ, nF]
    omega
theorem nF_zero : ∀ {l : List Bool}, nF l = 0 → ∀ i : Nat, l[i]? ≠ some false
  | [], _, i => by simp
  | b :: l, h, i => by
    simp only [nF] at h
    cases i with
    | zero => cases b <;> simp at h ⊢
    | succ i => simpa using nF_zero (by omega : nF l = 0) i
theorem tmL_congr {ops : Array Oper} {ev : Nat → Ev} {tm0 : List SV} {D D2 : Nat → Prop} : ∀ k, (∀ j, j < k → (D j ↔ D2 j)) → tmL ops ev tm0 D k = tmL ops ev tm0 D2 k
  | 0, _ => rfl
  | k + 1, h => by
    have ih := tmL_congr (ops := ops) (ev := ev) (tm0 := tm0) k (fun j hj => h j (by omega))
    have hk := h k (by omega)
    unfold tmL
    by_cases h1 : D k
    · rw [if_pos h1, if_pos (hk.1 h1), ih]
    · rw [if_neg h1, if_neg (fun h => h1 (hk.2 h)), ih]
theorem hpL_congr {ev : Nat → Ev} {h0 : Nat → Option Blk} {D D2 : Nat → Prop} : ∀ k, (∀ j, j < k → (D j ↔ D2 j)) → hpL ev h0 D k = hpL ev h0 D2 k
  | 0, _ => rfl
  | k + 1, h => by
    have ih := hpL_congr (ev := ev) (h0 := h0) k (fun j hj => h j (by omega))
    have hk := h k (by omega)
    unfold hpL
    by_cases h1 : D k
    · rw [if_pos h1, if_pos (hk.1 h1), ih]
    · rw [if_neg h1, if_neg (fun h => h1 (hk.2 h)), ih]
section
variable {P : Program} {E : Env} (hE : EOk P E)
include hE
theorem draw_any {ops : Array Oper} (hok : okDraw ops = true) {hp0 : List Blk} {tm0 : List SV} {f : Nat → S} {ev : Nat → Ev} (hf0 : f 0 = ⟨[], tm0, hp0⟩)
    (hs : ∀ k o, ops[k]? = some o → StepR E ops hp0 o k (f k) (ev k) (f (k + 1))) {N : Nat} {w0 : Base} {Q : Exit → Act → World → Prop}
    (hQ : ∀ a w, RelS N w0 (f ops.size).tm (f ops.size).hp a w → Q .normal a w) :
    ∀ (fuel : Nat) (listed : Array Bool) (a : Act) (w : World), listed.size = ops.size → Closed ops (fun k => listed.getD k false = true) → nF listed.toList ≤ fuel →
      InvD N w0 ops ev tm0 hp0 (fun k => listed.getD k false = true) a w → wpAny P .any ops Q fuel listed a w := by
  have fin : ∀ (listed : Array Bool) (a : Act) (w : World), listed.size = ops.size → Region.ready .any ops listed = [] → InvD N w0 ops ev tm0 hp0 (fun k => listed.getD k false = true) a w → Q .normal a w := by
    intro listed a w hsz hr hinv
    have hall : ∀ i, i < ops.size → listed.getD i false = true := by
      intro i
      induction i using Nat.strongRecOn with
      | _ i ih =>
        intro hi
        have hoi : ops[i]? = some ops[i] := Array.getElem?_eq_getElem hi
        cases hl : listed.getD i true with
        | true =>
          have : i < listed.size := by omega
          simp only [Array.getD_eq_getD_getElem?, Array.getElem?_eq_getElem this, Option.getD_some] at hl ⊢
          exact hl
        | false =>
          have : i ∈ Region.ready .any ops listed := mem_ready.2 ⟨hl, _, hoi, fun e he hb => ih e.on (draw_edges hok hoi he hb) (by have := draw_edges hok hoi he hb; omega)⟩
          rw [hr] at this
          cases this
    obtain ⟨ρ0, hh, ht, hd⟩ := hinv
    have e1 : hpL ev (nthO hp0) (fun k => listed.getD k false = true) ops.size = nthO (f ops.size).hp := by
      rw [hpL_congr (D2 := fun _ => True) ops.size (fun j hj => ⟨fun _ => trivial, fun _ => hall j hj⟩), tr_hp hf0 hs _ (Nat.le_refl _)]
    have e2 : tmL ops ev tm0 (fun k => listed.getD k false = true) ops.size = (f ops.size).tm := by
      rw [tmL_congr (D2 := fun _ => True) ops.size (fun j hj => ⟨fun _ => trivial, fun _ => hall j hj⟩), tr_tm hf0 hs _ (Nat.le_refl _)]
    rw [e1] at hh ht
    rw [e2] at ht
    exact hQ a w ⟨ρ0, hh, ht, hd⟩
  intro fuel
  induction fuel with
  | zero =>
    intro listed a w hsz hc hn hinv
    have hr : Region.ready .any ops listed = [] := by
      refine List.eq_nil_iff_forall_not_mem.2 fun i hi => ?_
      obtain ⟨h1, o, ho, -⟩ := mem_ready.1 hi
      have hin : i < listed.size := by have := (Array.getElem?_eq_some_iff.1 ho).1; omega
      simp only [Array.getD_eq_getD_getElem?, Array.getElem?_eq_getElem hin, Option.getD_some] at h1
      exact nF_zero (Nat.le_zero.1 hn) i (by simp [Array.getElem?_eq_getElem hin, h1])
    exact ⟨hr, fin listed a w hsz hr hinv⟩
  | succ fuel ih =>
    intro listed a w hsz hc hn hinv
    refine ⟨fun hr => fin listed a w hsz hr hinv, fun i hi => ?_⟩
    obtain ⟨h1, o, ho, hall⟩ := mem_ready.1 hi
    have hin : i < listed.size := by have := (Array.getElem?_eq_some_iff.1 ho).1; omega
    have h1' : listed[i] = false := by simpa only [Array.getD_eq_getD_getElem?, Array.getElem?_eq_getElem hin, Option.getD_some] using h1
    have hnD : ¬ (listed.getD i false = true) := by simp only [Array.getD_eq_getD_getElem?, Array.getElem?_eq_getElem hin, Option.getD_some, h1']; simp
    have hD' : (fun k => (listed.setIfInBounds i true).getD k false = true) = (fun k => listed.getD k false = true ∨ k = i) := by
      funext k
      apply propext
      by_cases hk : k = i
      · subst hk
        simp [Array.getD_eq_getD_getElem?, hin]
      · simp only [Array.getD_eq_getD_getElem?, Array.getElem?_setIfInBounds, hk, or_false]
        rw [if_neg (fun e => hk e.symm)]
    refine draw_step hE hok hf0 hs hc ho hnD hall hinv fun a' w' hinv' => ?_
    refine ih _ a' w' (by simpa using hsz) ?_ ?_ ?_
    · rw [hD']; exact hc.ready ho hall
    · have := nF_set listed.toList i (by simp [Array.getElem?_eq_getElem hin, h1'])
      simp only [Array.toList_setIfInBounds]
      omega
    · rw [hD']; exact hinv'
theorem vcDs_ok (hm : P.follows .mixedOrders = true) {id : Nat} {ops : Array Oper} (hok : okDraw ops = true) {tm : List SV} {hp : List Blk} {K : List SV → List Blk → Prop} (h : vcDs E ops hp ops.toList 0 [] tm hp K)
    {N : Nat} {w0 : Base} {a : Act} {w : World} (hr : RelS N w0 tm hp a w) {Q : Exit → Act → World → Prop} (hQ : ∀ tm' hp' a' w', K tm' hp' → RelS N w0 tm' hp' a' w' → Q .normal a' w') :
    (Code.region id ops true).wp P Q a w := by
  obtain ⟨f, ev, hf0, hs, hK⟩ := vcDs_trace ops.toList 0 ⟨[], tm, hp⟩ h
  have hs' : ∀ k o, ops[k]? = some o → StepR E ops hp o k (f k) (ev k) (f (k + 1)) := fun k o ho => by
    have := hs k o (by simpa using ho)
    rw [Nat.zero_add] at this
    exact this
  have hl : ops.toList.length = ops.size := by simp
  rw [hl] at hK
  refine wp_region_any hm ?_
  have hD : (fun k => (Array.replicate ops.size false).getD k false = true) = (fun _ => False) := by
    funext k
    apply propext
    simp [Array.getD_eq_getD_getElem?, Array.getElem?_replicate]
    split <;> simp
  have hn : ∀ n, nF (List.replicate n false) = n := fun n => by
    induction n with
    | zero => rfl
    | succ n ih => simp only [List.replicate_succ, nF, ih]; simp; omega
  refine draw_any hE hok hf0 hs' (fun a' w' hr' => hQ _ _ _ _ hK hr') ops.size _ _ _ (by simp) ?_ (by simp [hn]) ?_
  · rw [hD]; exact fun k o _ hk => hk.elim
  · rw [hD]
    obtain ⟨ρ0, hh, ht, hd⟩ := hr
    refine ⟨ρ0, ?_, fun ρ hρ => ?_, hd⟩
    · rw [hpL_none]
      exact hh.below ((Below.refl _ _).drew)
    · rw [hpL_none] at hρ
      rw [tmL_past (i := 0) ops.size (Nat.zero_le _) (fun _ _ h => h)]
      exact ht ρ hρ
end
/-- the regions of a piece of code that draw their order are such as the reckoner takes -/
def okC : Code → Bool
  | .region _ ops true => okDraw ops
  | .seq a b => okC a && okC b
  | .cond _ a b => okC a && okC b
  | .block _ c => okC c
  | .loop c => okC c
  | _ => true
theorem rounds_mono {P : Program} {c : Code} {Q : Exit → Act → World → Prop} : ∀ {n m : Nat}, n ≤ m → ∀ {a : Act} {w : World}, Code.rounds P c Q n a w → Code.rounds P c Q m a w
  | 0, _, _, _, _, h => h.elim
  | n + 1, 0, h, _, _, _ => by omega
  | n + 1, m + 1, h, a, w, hr => by
    rw [rounds_succ] at hr ⊢
    refine wp_mono hr fun e a' w' hq => ?_
    cases e with
    | normal => exact rounds_mono (by omega) hq
    | exit id => exact hq
    | ret => exact hq
    | goto l => exact hq
    | panic c => exact hq
    | outgrown => exact hq
def QL (N : Nat) (w0 : Base) (Q : SE → List SV → List Blk → Prop) : Exit → Act → World → Prop
  | .normal, a, w => ∃ tm hp, Q .normal tm hp ∧ RelS N w0 tm hp a w
  | .exit id, a, w => ∃ tm hp, Q (.exit id) tm hp ∧ RelS N w0 tm hp a w
  | .ret, a, w => ∃ tm hp, Q .ret tm hp ∧ RelS N w0 tm hp a w
  | _, _, _ => False
theorem SameTm.den {l : List SV} : ∀ {m : List SV}, SameTm l m → ∀ ρ, l.map (SV.den ρ) = m.map (SV.den ρ) := by
  induction l with
  | nil =>
    intro m h ρ
    cases m with
    | nil => rfl
    | cons y m => exact h.elim
  | cons x l ih =>
    intro m h ρ
    cases m with
    | nil => exact h.elim
    | cons y m =>
      obtain ⟨h1, h2⟩ := h
      rw [List.map_cons, List.map_cons, h1 ρ, ih h2 ρ]
theorem SameHp.get {l : List Blk} : ∀ {m : List Blk}, SameHp l m → ∀ i c, nthO m i = some c → ∃ b, nthO l i = some b ∧ b.ty = c.ty ∧ b.ro = c.ro ∧ ∀ ρ, cellsL ρ b.cs = cellsL ρ c.cs := by
  induction l with
  | nil =>
    intro m h i c hc
    cases m with
    | nil => simp [nthO] at hc
    | cons y m => exact h.elim
  | cons b l ih =>
    intro m h i c hc
    cases m with
    | nil => exact h.elim
    | cons d m =>
      obtain ⟨h1, h2⟩ := h
      cases i with
      | zero => simp [nthO] at hc; subst hc; exact ⟨b, rfl, h1⟩
      | succ i => exact ih h2 i c (by simpa [nthO] using hc)
theorem SameHp.symm {l : List Blk} : ∀ {m : List Blk}, SameHp l m → SameHp m l := by
  induction l with
  | nil =>
    intro m h
    cases m with
    | nil => exact h
    | cons y m => exact h.elim
  | cons b l ih =>
    intro m h
    cases m with
    | nil => exact h.elim
    | cons d m =>
      obtain ⟨⟨h1, h2, h3⟩, h4⟩ := h
      exact ⟨⟨h1.symm, h2.symm, fun ρ => (h3 ρ).symm⟩, ih h4⟩
theorem RelS.same {N : Nat} {w0 : Base} {tm tm2 : List SV} {hp hp2 : List Blk} {a : Act} {w : World} (h : RelS N w0 tm hp a w) (e1 : SameTm tm tm2) (e2 : SameHp hp hp2) : RelS N w0 tm2 hp2 a w := by
  obtain ⟨ρ0, hh, ht, hd⟩ := h
  have hagr : ∀ ρ, Agr (nthO hp2) ρ ρ0 → Agr (nthO hp) ρ ρ0 := fun ρ hρ i hi => by
    obtain ⟨b, hb⟩ := Option.isSome_iff_exists.1 hi
    obtain ⟨c, hc, -⟩ := e2.symm.get i b hb
    exact hρ i (by rw [hc]; rfl)
  refine ⟨ρ0, ⟨fun i c hc => ?_, fun i c hc ho => ?_, fun i j c d hc ho hd => ?_, fun ρ hρ i c hc => ?_, hh.bel, hh.big, fun i hi => ?_⟩, fun ρ hρ => (ht ρ (hagr ρ hρ)).trans (e1.den ρ), hd⟩
  · obtain ⟨b, hb, -⟩ := e2.get i c hc; exact hh.old i b hb
  · obtain ⟨b, hb, -, h2, -⟩ := e2.get i c hc; exact hh.own i b hb (h2.trans ho)
  · obtain ⟨b, hb, -, h2, -⟩ := e2.get i c hc
    obtain ⟨b', hb', -⟩ := e2.get j d hd
    exact hh.apart i j b b' hb (h2.trans ho) hb'
  · obtain ⟨b, hb, h1, h2, h3⟩ := e2.get i c hc
    have := hh.holds ρ (hagr ρ hρ) i b hb
    unfold Holds at this ⊢
    rw [← h3 ρ, ← h1, ← h2]
    exact this
  · have := hh.ext i hi
    refine ⟨?_, this.2⟩
    obtain ⟨b, hb⟩ := Option.isSome_iff_exists.1 this.1
    obtain ⟨c, hc, -⟩ := e2.symm.get i b hb
    rw [hc]; rfl
theorem lowP_den {m : Nat} {ρ ρ' : Rho} (h : ∀ i, i < m → ρ i = ρ' i) : ∀ {l : List (Nat × Nat)}, lowP m l = true → (l.map fun p => adr ρ p.1 p.2) = l.map fun p => adr ρ' p.1 p.2
  | [], _ => rfl
  | p :: l, hl => by
    simp only [lowP, Bool.and_eq_true, decide_eq_true_eq] at hl
    rw [List.map_cons, List.map_cons, lowP_den h hl.2]
    unfold adr
    rw [h p.1 hl.1]
theorem low_cells {m : Nat} {ρ ρ' : Rho} (h : ∀ i, i < m → ρ i = ρ' i) {x : C} (hx : x.low m = true) : x.cells ρ = x.cells ρ' := by
  cases x <;> try rfl
  case ptr b off => simp only [C.low, decide_eq_true_eq] at hx; simp only [C.cells, adr, h b hx]
  case sli b off len cap hl => simp only [C.low, decide_eq_true_eq] at hx; simp only [C.cells, h b hx]
  case fn f caps => simp only [C.cells, lowP_den h (l := caps) hx]
theorem lowL_cells {m : Nat} {ρ ρ' : Rho} (h : ∀ i, i < m → ρ i = ρ' i) : ∀ {l : List C}, lowL m l = true → cellsL ρ l = cellsL ρ' l
  | [], _ => rfl
  | x :: l, hl => by
    simp only [lowL, Bool.and_eq_true] at hl
    rw [cellsL_cons, cellsL_cons, low_cells h hl.1, lowL_cells h hl.2]
theorem low_den {m : Nat} {ρ ρ' : Rho} (h : ∀ i, i < m → ρ i = ρ' i) {x : SV} (hx : x.low m = true) : x.den ρ = x.den ρ' := by
  cases x with
  | c x => simp only [SV.den, C.den, low_cells h hx]
  | agg l => simp only [SV.den, lowL_cells h hx]
  | tup l => cases hx
theorem lowB_get {m : Nat} : ∀ {l : List Blk}, lowB m l = true → ∀ {i : Nat} {b : Blk}, nthO l i = some b → lowL m b.cs = true
  | [], _, i, b, h => by simp [nthO] at h
  | x :: l, hl, i, b, h => by
    simp only [lowB, Bool.and_eq_true] at hl
    cases i with
    | zero => simp [nthO] at h; subst h; exact hl.1
    | succ i => exact lowB_get hl.2 (by simpa [nthO] using h)
theorem takeK_eq : ∀ (m : Nat) (l : List Blk) (K : List Blk → Prop), takeK m l K = K (l.take m)
  | 0, _, _ => by simp [takeK]
  | _ + 1, [], _ => by simp [takeK]
  | m + 1, b :: l, K => by simp [takeK, takeK_eq m l]
def fgt (keep : List Nat) (m : Nat) (vs : Nat → Value) : Nat → List SV → List SV
  | _, [] => []
  | i, x :: l => (if inB keep i = true ∧ x.low m = true then x else .c (.val (vs i))) :: fgt keep m vs (i + 1) l
theorem fgtK_eq (keep : List Nat) (m : Nat) (vs : Nat → Value) : ∀ (l : List SV) (i : Nat) (K : List SV → Prop), fgtK keep m vs i l K = K (fgt keep m vs i l)
  | [], _, _ => rfl
  | x :: l, i, K => by
    unfold fgtK fgt
    cases hk : inB keep i <;> cases hx : x.low m <;> simp [fgtK_eq keep m vs l]
theorem fgt_den {keep : List Nat} {m : Nat} {ρ ρ' : Rho} (h : ∀ i, i < m → ρ i = ρ' i) (vs : Nat → Value) : ∀ (l : List SV) (i : Nat), (∀ j x, l[j]? = some x → vs (i + j) = x.den ρ') → (fgt keep m vs i l).map (SV.den ρ) = l.map (SV.den ρ')
  | [], _, _ => rfl
  | x :: l, i, hv => by
    unfold fgt
    rw [List.map_cons, List.map_cons, fgt_den h vs l (i + 1) (fun j y hy => by have := hv (j + 1) y (by simpa using hy); rw [show i + 1 + j = i + (j + 1) by omega]; exact this)]
    congr 1
    split
    · rename_i hx; exact low_den h hx.2
    · have := hv 0 x rfl
      simpa [SV.den, C.den, C.cells] using this
theorem forget {N : Nat} {w0 : Base} {m : Nat} (hB : ∀ i, w0.B i → i < m) {tm : List SV} {hp : List Blk} {I : List SV → List Blk → Prop} {keep : List Nat}
    (h : ∀ vs, takeK m hp fun hp' => (match lowB m hp' with | true => fgtK keep m vs 0 tm fun tm' => I tm' hp' | false => False)) {a : Act} {w : World} (hr : RelS N w0 tm hp a w) :
    ∃ tm2 hp2, I tm2 hp2 ∧ RelS N w0 tm2 hp2 a w := by
  have h := h (fun t => a.tmps.toList.getD t undef)
  rw [takeK_eq] at h
  split at h
  · rename_i hlow
    rw [fgtK_eq] at h
    refine ⟨_, _, h, ?_⟩
    obtain ⟨ρ0, hh, ht, hd⟩ := hr
    have hsub : ∀ i b, nthO (hp.take m) i = some b → i < m ∧ nthO hp i = some b := fun i b hi => by
      rw [nthO_eq, List.getElem?_take] at hi
      rw [nthO_eq]
      split at hi
      · rename_i hm; exact ⟨hm, hi⟩
      · cases hi
    let mix : Rho → Rho := fun ρ i => if i < m then ρ i else ρ0 i
    have hmix : ∀ ρ, Agr (nthO (hp.take m)) ρ ρ0 → Agr (nthO hp) (mix ρ) ρ0 := fun ρ hρ i hi => by
      show (if i < m then ρ i else ρ0 i) = ρ0 i
      split
      · rename_i him
        refine hρ i ?_
        rw [nthO_eq, List.getElem?_take, if_pos him, ← nthO_eq]
        exact hi
      · rfl
    have hlt : ∀ ρ i, i < m → ρ i = mix ρ i := fun ρ i hi => (if_pos hi).symm
    refine ⟨ρ0, ⟨fun i b hi => hh.old i b (hsub i b hi).2, fun i b hi => hh.own i b (hsub i b hi).2, fun i j b c hi hb hj => hh.apart i j b c (hsub i b hi).2 hb (hsub j c hj).2, fun ρ hρ i b hi => ?_, hh.bel, hh.big, fun i hi => ?_⟩, fun ρ hρ => ?_, hd⟩
    · obtain ⟨him, hi'⟩ := hsub i b hi
      have := hh.holds (mix ρ) (hmix ρ hρ) i b hi'
      have hc : cellsL ρ b.cs = cellsL (mix ρ) b.cs := lowL_cells (hlt ρ) (lowB_get hlow hi)
      unfold Holds at this ⊢
      rw [hc, hlt ρ i him]
      exact this
    · have := hh.ext i hi
      refine ⟨?_, this.2⟩
      rw [nthO_eq, List.getElem?_take, if_pos (hB i hi), ← nthO_eq]
      exact this.1
    · have e := ht (mix ρ) (hmix ρ hρ)
      rw [fgt_den (hlt ρ) _ tm 0 (fun j x hx => ?_)]
      · exact e
      · rw [Nat.zero_add, e]
        simp [hx]
  · exact h.elim
section
variable {P : Program} {E : Env} (hE : EOk P E) (hm : P.follows .mixedOrders = true) {H : FuncId → List SV → List Blk → (SV → List Blk → Prop) → Prop} (hH : HOk P H)
include hE hm hH
theorem vcC_ok {N : Nat} {w0 : Base} : ∀ (c : Code) (_ : okC c = true) (tm : List SV) (hp : List Blk) (Q : SE → List SV → List Blk → Prop), vcC E H c tm hp Q → ∀ a w, RelS N w0 tm hp a w → c.wp P (QL N w0 Q) a w
  | .skip, _, tm, hp, Q, h, a, w, hr => wp_skip ⟨tm, hp, h, hr⟩
  | .ret, _, tm, hp, Q, h, a, w, hr => wp_ret ⟨tm, hp, h, hr⟩
  | .exit id, _, tm, hp, Q, h, a, w, hr => wp_exit ⟨tm, hp, h, hr⟩
  | .seq x y, hk, tm, hp, Q, h, a, w, hr => by
    simp only [okC, Bool.and_eq_true] at hk
    refine wp_seq (wp_mono (vcC_ok x hk.1 tm hp _ h a w hr) fun e a' w' hq => ?_)
    cases e with
    | normal => obtain ⟨tm', hp', h1, h2⟩ := hq; exact vcC_ok y hk.2 tm' hp' Q h1 a' w' h2
    | exit id => exact hq
    | ret => exact hq
    | goto l => exact hq.elim
    | panic c => exact hq.elim
    | outgrown => exact hq.elim
  | .cond c x y, hk, tm, hp, Q, h, a, w, hr => by
    simp only [okC, Bool.and_eq_true] at hk
    unfold vcC at h
    split at h
    · rename_i b hb
      have he : a.eval c = .bool b := by
        obtain ⟨ρ0, -, ht, -⟩ := hr
        rw [eval_ok (ht ρ0 (Agr.refl _ _)), evr, hb]; rfl
      obtain ⟨h1, h2⟩ := bcase_of h
      exact wp_cond_split he (fun hb => vcC_ok x hk.1 tm hp Q (h1 hb) a w hr) (fun hb => vcC_ok y hk.2 tm hp Q (h2 hb) a w hr)
    · cases h
  | .block id c, hk, tm, hp, Q, h, a, w, hr => by
    refine wp_block (wp_mono (vcC_ok c hk tm hp _ h a w hr) fun e a' w' hq => ?_)
    cases e with
    | normal => exact hq
    | exit id' =>
      obtain ⟨tm', hp', h1, h2⟩ := hq
      simp only at h1
      show if id' = id then _ else _
      split
      · rename_i e; rw [if_pos e] at h1; exact ⟨tm', hp', h1, h2⟩
      · rename_i e; rw [if_neg e] at h1; exact ⟨tm', hp', h1, h2⟩
    | ret => exact hq
    | goto l => exact hq.elim
    | panic c => exact hq.elim
    | outgrown => exact hq.elim
  | .loop c, hk, tm, hp, Q, h, a, w, hr => by
    have ih : ∀ tm hp Q, vcC E H c tm hp Q → ∀ a w, RelS N w0 tm hp a w → c.wp P (QL N w0 Q) a w := fun tm hp Q h a w hr => vcC_ok c hk tm hp Q h a w hr
    have unroll : ∀ n tm hp, rounds (fun tm hp Q => vcC E H c tm hp Q) Q n tm hp → ∀ a w, RelS N w0 tm hp a w → Code.rounds P c (QL N w0 Q) n a w := by
      intro n
      induction n with
      | zero => intro tm hp h; exact h.elim
      | succ n ihn =>
        intro tm hp h a w hr
        rw [rounds_succ]
        refine wp_mono (ih tm hp _ h a w hr) fun e a' w' hq => ?_
        cases e with
        | normal => obtain ⟨tm', hp', h1, h2⟩ := hq; exact ihn tm' hp' h1 a' w' h2
        | exit id => exact hq
        | ret => exact hq
        | goto l => exact hq.elim
        | panic c => exact hq.elim
        | outgrown => exact hq.elim
    unfold vcC at h
    unfold loopQ at h
    split at h
    · rename_i n hn
      exact wp_loop_rounds (n + 1) (unroll _ tm hp h a w hr)
    · rcases h with ⟨n, h⟩ | ⟨I, n0, keep, ⟨tm2, hp2, e1, e2, h0⟩, hround⟩
      · exact wp_loop_rounds n (unroll n tm hp h a w hr)
      · have hB : ∀ i, w0.B i → i < hp.length := fun i hi => by
          obtain ⟨ρ0, hh, -, -⟩ := hr
          have := (hh.ext i hi).1
          rw [nthO_eq] at this
          by_cases hl : i < hp.length
          · exact hl
          · rw [List.getElem?_eq_none (by omega)] at this; cases this
        have lex : ∀ m tm hp', I m tm hp' → ∀ a w, RelS N w0 tm hp' a w → Code.rounds P c (QL N w0 Q) (m + 1) a w := by
          intro m
          induction m using Nat.strongRecOn with
          | _ m ihm =>
            intro tm hp' hI a w hr
            rw [rounds_succ]
            refine wp_mono (ih tm hp' _ (hround m tm hp' hI) a w hr) fun e a' w' hq => ?_
            cases e with
            | normal =>
              obtain ⟨tm', hp', ⟨n', h1, h2⟩, h3⟩ := hq
              obtain ⟨tm1, hp1, ⟨tm2, hp2, e1, e2, hI2⟩, h4⟩ := forget hB h2 h3
              have h4 := h4.same e1 e2
              exact rounds_mono (by omega) (ihm n' h1 tm2 hp2 hI2 a' w' h4)
            | exit id => exact hq
            | ret => exact hq
            | goto l => exact hq.elim
            | panic c => exact hq.elim
            | outgrown => exact hq.elim
        exact wp_loop_rounds _ (lex _ tm2 hp2 h0 a w (hr.same e1 e2))
  | .region id ops draw, hk, tm, hp, Q, h, a, w, hr => by
    unfold vcC at h
    cases draw with
    | true => exact vcDs_ok hE hm hk h hr fun tm' hp' a' w' h1 h2 => ⟨tm', hp', h1, h2⟩
    | false => exact wp_region_list (vcOps_ok hE hH (fun tm' hp' a' w' h1 h2 => ⟨tm', hp', h1, h2⟩) ops.toList tm hp h a w hr)
  | .rangeFunc _ _ _ _, _, tm, hp, Q, h, a, w, hr => h.elim
  | .scope _, _, tm, hp, Q, h, a, w, hr => h.elim
  | .label _, _, tm, hp, Q, h, a, w, hr => h.elim
  | .goto _, _, tm, hp, Q, h, a, w, hr => h.elim
  | .refuse _, _, tm, hp, Q, h, a, w, hr => h.elim
end
end Go.Proofs.YtapppahniablmaaDoor
