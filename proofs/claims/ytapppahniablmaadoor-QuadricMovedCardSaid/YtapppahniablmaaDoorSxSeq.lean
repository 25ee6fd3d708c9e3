/- The reckoner is sound: lists of operations in the order of the text. -/
import Derived.Test.YtapppahniablmaaDoorSxSound
namespace Go.Proofs.YtapppahniablmaaDoor
open Go.RowKit

/-- the state in symbols is what the world and the frame hold -/
def RelS (N : Nat) (w0 : Base) (tm : List SV) (hp : List Blk) (a : Act) (w : World) : Prop :=
  ∃ ρ0, HRel N w0 (nthO hp) ρ0 w ∧ (∀ ρ, Agr (nthO hp) ρ ρ0 → a.tmps.toList = tm.map (SV.den ρ)) ∧ a.defers = []
/-- what is said of functions is true -/
structure EOk (P : Program) (E : Env) : Prop where
  T : TOk P E.T
  D : ∀ f args hf p v, E.D f args hf = some (p, v) → Callable P f ∧ (∀ ρ ρ', v.den ρ = v.den ρ') ∧ ((∀ q, p = some q → q) → ∀ ρ w, (∀ b blk, hf b = some blk → Holds ρ blk b w) →
    Calls P f (args.map (SV.den ρ)).toArray w fun e w' => e = .returned (v.den ρ) ∧ Below w.heap.size w w')
def HOk (P : Program) (H : FuncId → List SV → List Blk → (SV → List Blk → Prop) → Prop) : Prop :=
  ∀ f args hp K, H f args hp K → Callable P f ∧ ∀ N w0 ρ0 w, HRel N w0 (nthO hp) ρ0 w → (∀ ρ, Agr (nthO hp) ρ ρ0 → args.map (SV.den ρ) = args.map (SV.den ρ0)) →
    Calls P f (args.map (SV.den ρ0)).toArray w fun e w' => ∃ v hp' ρ0', K v hp' ∧ HRel N w0 (nthO hp') ρ0' w' ∧ (∀ i, (nthO hp i).isSome = true → (nthO hp' i).isSome = true ∧ ρ0' i = ρ0 i) ∧ ∀ ρ, Agr (nthO hp') ρ ρ0' → e = .returned (v.den ρ)

theorem nthO_none {α : Type} (l : List α) : nthO l l.length = none := by rw [nthO_eq]; simp
theorem nthO_snoc {α : Type} (l : List α) (x : α) (i : Nat) : nthO (l ++ [x]) i = if i = l.length then some x else nthO l i := by
  rw [nthO_eq, nthO_eq]
  split
  · rename_i h; subst h; simp
  · rename_i h
    by_cases hi : i < l.length
    · rw [List.getElem?_append_left hi]
    · rw [List.getElem?_eq_none (by simp; omega), List.getElem?_eq_none (by omega)]
theorem nthO_snoc' (l : List Blk) (x : Blk) : nthO (l ++ [x]) = upF (nthO l) l.length x := by funext i; rw [nthO_snoc]; rfl
theorem nthO_set (l : List Blk) (n : Nat) (x y : Blk) (h : nthO l n = some y) : nthO (l.set n x) = upF (nthO l) n x := by
  funext i
  rw [nthO_eq] at h ⊢
  unfold upF
  rw [nthO_eq]
  have hn := (List.getElem?_eq_some_iff.1 h).1
  split
  · rename_i e; subst e; rw [List.getElem?_set_self hn]
  · rename_i e; rw [List.getElem?_set_ne (fun h => e h.symm)]
theorem Agr.sub {hf hg : Nat → Option Blk} {ρ ρ0 ρ1 : Rho} (h : Agr hg ρ ρ1) (hs : ∀ i, (hf i).isSome = true → (hg i).isSome = true ∧ ρ1 i = ρ0 i) : Agr hf ρ ρ0 := fun i hi => (h i (hs i hi).1).trans (hs i hi).2
theorem up_agr {hf : Nat → Option Blk} {ρ0 : Rho} {n : Nat} {b : Blk} {p : Nat × Nat} (hn : hf n = none) : ∀ i, (hf i).isSome = true → (upF hf n b i).isSome = true ∧ upR ρ0 n p i = ρ0 i := fun i hi => by
  have : i ≠ n := fun e => by rw [e, hn] at hi; cases hi
  unfold upF upR
  rw [if_neg this, if_neg this]
  exact ⟨hi, rfl⟩
theorem RelS.put {N : Nat} {w0 : Base} {tm : List SV} {hp hp' : List Blk} {a : Act} {w' : World} {ρ0 ρ1 : Rho} (ht : ∀ ρ, Agr (nthO hp) ρ ρ0 → a.tmps.toList = tm.map (SV.den ρ)) (hd : a.defers = [])
    (h : HRel N w0 (nthO hp') ρ1 w') (hs : ∀ i, (nthO hp i).isSome = true → (nthO hp' i).isSome = true ∧ ρ1 i = ρ0 i) (d : Option Tmp) {v : SV} {u : Value} (hu : ∀ ρ, Agr (nthO hp') ρ ρ1 → u = v.den ρ) :
    RelS N w0 (match d with | some t => tm.set t v | none => tm) hp' (a.put d u) w' :=
  ⟨ρ1, h, fun ρ hρ => put_ok (ht ρ (hρ.sub hs)) d v (hu ρ hρ), by rw [put_defers]; exact hd⟩

section
variable {P : Program} {E : Env} (hE : EOk P E) {H : FuncId → List SV → List Blk → (SV → List Blk → Prop) → Prop} (hH : HOk P H)
include hE hH
theorem vcOp_ok {N : Nat} {w0 : Base} {o : Oper} {tm : List SV} {hp : List Blk} {K : List SV → List Blk → Prop} (h : vcOp E H o tm hp K) {a : Act} {w : World} (hr : RelS N w0 tm hp a w)
    {next : Act → World → Prop} {Q : Exit → Act → World → Prop} (hn : ∀ tm' hp' a' w', K tm' hp' → RelS N w0 tm' hp' a' w' → next a' w') : o.wp P a w next Q := by
  obtain ⟨ρ0, hh, ht, hd⟩ := hr
  have hev : ∀ ρ, Agr (nthO hp) ρ ρ0 → a.eval = evr (evm tm) ρ := fun ρ hρ => eval_ok (ht ρ hρ)
  unfold vcOp at h
  unfold Oper.wp
  split at h
  · rename_i v hv
    rw [SV.force_eq, putK_eq] at h
    have hrun : ∀ ρ, Agr (nthO hp) ρ ρ0 → (execOp a.eval o).run P w = .ok (.value (v.den ρ)) w := fun ρ hρ => by
      rw [hev ρ hρ]; exact eff_val hE.T hv ρ w fun b blk hb => hh.holds ρ hρ b blk hb
    have h0 := hrun ρ0 (Agr.refl _ _)
    rw [h0]
    refine hn _ _ _ _ h (RelS.put ht hd hh (fun i hi => ⟨hi, rfl⟩) o.dst fun ρ hρ => ?_)
    have := hrun ρ hρ
    rw [h0] at this
    simpa using this
  · rename_i b f hv
    rw [forceL_eq, snocK_eq, SV.force_eq, putK_eq] at h
    obtain ⟨val, h0, hro, hval⟩ := eff_new hE.T hv ρ0 w
    have hL : ∀ ρ, Agr (nthO hp) ρ ρ0 → cellsL ρ b.cs = cellsL ρ0 b.cs := fun ρ hρ => by
      obtain ⟨val', h1, -⟩ := eff_new hE.T hv ρ w
      rw [← hev ρ hρ] at h1
      rw [← hev ρ0 (Agr.refl _ _), h1] at h0
      simp only [Result.ok.injEq] at h0
      have := congrArg (fun W => W.heap[w.heap.size]?) h0.2
      simp only [heap_alloc_new] at this
      simpa using this
    have hnew := hh.new (nthO_none hp) hro hL
    rw [← hev ρ0 (Agr.refl _ _)] at h0
    rw [h0]
    have e : ({ ty := b.ty, ro := b.ro, cs := b.cs } : Blk) = b := rfl
    refine hn _ _ _ _ h (RelS.put (ρ1 := upR ρ0 hp.length (w.heap.size, 0)) ht hd ?_ (fun i hi => ?_) o.dst fun ρ hρ => ?_)
    · rw [nthO_snoc']; exact hnew
    · rw [nthO_snoc']; exact up_agr (nthO_none hp) i hi
    · refine (hval ρ _ ?_).symm
      rw [hρ _ (by rw [nthO_snoc]; simp)]
      unfold upR; rw [if_pos rfl]
  · rename_i b cs hv
    rw [forceL_eq] at h
    obtain ⟨blk, off, l, hb, hro, -, hrun⟩ := eff_put hE.T hv
    rw [hb] at h
    simp only [updK_eq, putK_eq] at h
    have key : ∀ ρ, Agr (nthO hp) ρ ρ0 → (execOp a.eval o).run P w = .ok .skip (w.setCells (ρ0 b).1 off (cellsL ρ l)) ∧ (w.setCells (ρ0 b).1 off (cellsL ρ l)).heap[(ρ0 b).1]? = some (.cells (cellsL ρ cs).toArray blk.ty (0, 0)) := fun ρ hρ => by
      have := hrun ρ w (hh.holds ρ hρ b blk hb)
      rw [hρ b (by rw [hb]; rfl), ← hev ρ hρ] at this
      exact this
    obtain ⟨h0, hk⟩ := key ρ0 (Agr.refl _ _)
    have hL : ∀ ρ, Agr (nthO hp) ρ ρ0 → cellsL ρ cs = cellsL ρ0 cs := fun ρ hρ => by
      obtain ⟨h1, hk1⟩ := key ρ hρ
      rw [h0] at h1
      simp only [Result.ok.injEq, true_and] at h1
      rw [← h1, hk] at hk1
      simpa using hk1.symm
    have hput := hh.put hb hro hk hL
    rw [h0]
    refine hn _ _ _ _ h (RelS.put (ρ1 := ρ0) ht hd ?_ (fun i hi => ?_) o.dst fun ρ hρ => rfl)
    · rw [nthO_set _ _ _ blk hb]; exact hput
    · rw [nthO_set _ _ _ blk hb]; unfold upF; split
      · exact ⟨rfl, rfl⟩
      · exact ⟨hi, rfl⟩
  · split at h
    · rename_i c hc
      split at h
      · rename_i f args hcal
        have hcall : ∀ (hf : Callable P f) ρ, Agr (nthO hp) ρ ρ0 → (execOp a.eval o).run P w = .ok (.enter f (args.map (SV.den ρ)).toArray) w := fun hf ρ hρ => by
          rw [hev ρ hρ]; exact run_call_sx hc hcal hf ρ w
        have func : ∀ p v, E.D f args (nthO hp) = some (p, v) → (∀ q, p = some q → q) → K (match o.dst with | some t => tm.set t v | none => tm) hp → o.upon P a next Q ((execOp a.eval o).run P w) := fun p v hD hp' hK => by
          obtain ⟨hf, hpure, hspec⟩ := hE.D f args _ p v hD
          rw [hcall hf ρ0 (Agr.refl _ _)]
          refine (hspec hp' ρ0 w fun b blk hb => hh.holds ρ0 (Agr.refl _ _) b blk hb).mono ?_
          rintro e w' ⟨rfl, hb⟩
          exact hn _ _ _ _ hK (RelS.put ht hd (hh.below hb) (fun i hi => ⟨hi, rfl⟩) o.dst fun ρ _ => hpure _ _)
        split at h
        · rename_i v hD
          rw [SV.force_eq, putK_eq] at h
          exact func _ _ hD (fun q hq => by cases hq) h
        · rename_i p v hD
          rw [SV.force_eq, putK_eq] at h
          exact func _ _ hD (fun q hq => by cases hq; exact h.1) h.2
        · obtain ⟨hf, hspec⟩ := hH f args hp _ h
          have hargs : ∀ ρ, Agr (nthO hp) ρ ρ0 → args.map (SV.den ρ) = args.map (SV.den ρ0) := fun ρ hρ => by
            have h1 := hcall hf ρ hρ
            rw [hcall hf ρ0 (Agr.refl _ _)] at h1
            simpa using h1.symm
          rw [hcall hf ρ0 (Agr.refl _ _)]
          refine (hspec N w0 ρ0 w hh hargs).mono ?_
          rintro e w' ⟨v, hp', ρ1, hK, hh', hs, he⟩
          rw [SV.force_eq, putK_eq] at hK
          have e0 := he ρ1 (Agr.refl _ _)
          subst e0
          exact hn _ _ _ _ hK (RelS.put ht hd hh' hs o.dst fun ρ hρ => by have := he ρ hρ; simpa using this)
      · cases h
    · cases h
omit hE hH in
theorem set_same {tm : List SV} {t : Nat} {x : SV} (h : nth uv tm t = x) (hx : x ≠ uv) : tm.set t x = tm := by
  rw [nth_eq] at h
  by_cases ht : t < tm.length
  · rw [List.getElem?_eq_getElem ht] at h
    simp only [Option.getD_some] at h
    subst h
    exact List.set_getElem_self ht
  · rw [List.getElem?_eq_none (by omega)] at h
    exact absurd h.symm hx
omit hE hH in
theorem bool_ne (b : Bool) : (SV.c (.val (.bool b))) ≠ uv := by unfold uv undef; intro h; cases h
omit hE hH in
theorem yielded_ok {all : Array Oper} {j : Nat} {t : Tmp} (hg : guardS all j = some t) {a : Act} {tm : List SV} {ρ : Rho} (h : a.tmps.toList = tm.map (SV.den ρ)) {b : Bool} (hb : nth uv tm t = .c (.val (.bool b))) :
    yielded all a.tmps j = some b := by
  unfold guardS at hg
  rw [nthO_eq] at hg
  split at hg
  · rename_i o ho
    have ho : all[j]? = some o := by simpa using ho
    unfold yielded
    simp only [ho, Option.bind_some, hg]
    have : a.tmps[t]? = some (.bool b) := by
      have e : a.tmps[t]? = a.tmps.toList[t]? := by simp
      rw [e, h, List.getElem?_map]
      rw [nth_eq] at hb
      cases htm : tm[t]? with
      | none => rw [htm] at hb; exact absurd hb.symm (bool_ne b)
      | some x => rw [htm] at hb; simp only [Option.getD_some] at hb; subst hb; rfl
    rw [this]
  · cases hg
theorem vcOps_ok {N : Nat} {w0 : Base} {all : Array Oper} {K : List SV → List Blk → Prop} {Q : Exit → Act → World → Prop} (hQ : ∀ tm' hp' a' w', K tm' hp' → RelS N w0 tm' hp' a' w' → Q .normal a' w') :
    ∀ (os : List Oper) (tm : List SV) (hp : List Blk), vcOps E H all os tm hp K → ∀ a w, RelS N w0 tm hp a w → wpList P all Q os a w
  | [], tm, hp, h, a, w, hr => hQ _ _ _ _ h hr
  | o :: os, tm, hp, h, a, w, hr => by
    unfold vcOps at h
    unfold wpList
    split at h
    · rename_i hg
      rw [if_pos (by simp [Region.wanted, hg])]
      exact .inl (vcOp_ok hE hH h hr fun tm' hp' a' w' hK hr' => vcOps_ok hQ os tm' hp' hK a' w' hr')
    · rename_i j want hg
      split at h
      · rename_i t hgs
        split at h
        · rename_i b hb
          have hy : yielded all a.tmps j = some b := by
            obtain ⟨ρ0, -, ht, -⟩ := hr
            exact yielded_ok hgs (ht ρ0 (Agr.refl _ _)) hb
          have hw : Region.wanted o (yielded all a.tmps) = (b == want) := by
            unfold Region.wanted
            rw [hg]
            simp only [hy]
            cases b <;> cases want <;> rfl
          have run : vcOp E H o tm hp (fun tm hp => vcOps E H all os tm hp K) → o.wp P a w (wpList P all Q os) Q := fun h =>
            vcOp_ok hE hH h hr fun tm' hp' a' w' hK hr' => vcOps_ok hQ os tm' hp' hK a' w' hr'
          have skip : putK o.dst uv tm (fun tm => vcOps E H all os tm hp K) → wpList P all Q os (a.put o.dst undef) w := fun h => by
            rw [putK_eq] at h
            obtain ⟨ρ0, hh, ht, hd⟩ := hr
            exact vcOps_ok hQ os _ hp h _ _ (RelS.put ht hd hh (fun i hi => ⟨hi, rfl⟩) o.dst fun ρ _ => rfl)
          split at h
          · obtain ⟨h1, h2⟩ := bcase_of h
            rw [updK_eq] at h1 h2
            cases b with
            | true => rw [if_pos (by rw [hw]; rfl)]; exact .inl (run (by rw [set_same hb (bool_ne _)] at h1; exact h1 rfl))
            | false => rw [if_neg (by rw [hw]; simp)]; exact skip (by rw [set_same hb (bool_ne _)] at h2; exact h2 rfl)
          · obtain ⟨h1, h2⟩ := bcase_of h
            rw [updK_eq] at h1 h2
            cases b with
            | true => rw [if_neg (by rw [hw]; simp)]; exact skip (by rw [set_same hb (bool_ne _)] at h1; exact h1 rfl)
            | false => rw [if_pos (by rw [hw]; rfl)]; exact .inl (run (by rw [set_same hb (bool_ne _)] at h2; exact h2 rfl))
        · cases h
      · cases h
end
end Go.Proofs.YtapppahniablmaaDoor
