/- The reckoner is sound: a region that draws its order. -/
import Derived.Test.YtapppahniablmaaDoorSxSeq
namespace Go.Proofs.YtapppahniablmaaDoor
open Go.RowKit

/-! what is asked of a region, once -/
/-- two operations, i ahead of j in the text -/
def pairOk (ops : Array Oper) (ms : List Nat) (i j : Nat) (a b : Oper) : Bool :=
  let bf := (nth 0 ms j).testBit i
  (match b.dst with | some t => (!(a.looksAt ops).contains t || bf) && a.dst != some t | none => true) &&
  (match a.dst with | some t => (!(b.looksAt ops).contains t || bf) | none => true) &&
  (!isStore b.op || bf || !isStore a.op) && (!isStore a.op || (!(reading b.op || isStore b.op) || bf && !reading b.op))
def pairsOk (ops : Array Oper) (ms : List Nat) (i : Nat) (a : Oper) : Nat → List Oper → Bool
  | _, [] => true
  | j, b :: bs => pairOk ops ms i j a b && pairsOk ops ms i a (j + 1) bs
def allPairs (ops : Array Oper) (ms : List Nat) : Nat → List Oper → Bool
  | _, [] => true
  | i, a :: l => pairsOk ops ms i a (i + 1) l && allPairs ops ms (i + 1) l
def edgesOk : Nat → List Oper → Bool
  | _, [] => true
  | i, o :: os => (o.after.toList.all fun e => !Region.binds .any e || decide (e.on < i)) && edgesOk (i + 1) os
def okDraw (ops : Array Oper) : Bool := edgesOk 0 ops.toList && allPairs ops (masksA ops.toList []) 0 ops.toList

theorem pairsOk_spec {ops : Array Oper} {ms : List Nat} {i : Nat} {a : Oper} : ∀ {l : List Oper} {j : Nat}, pairsOk ops ms i a j l = true → ∀ k b, l[k]? = some b → pairOk ops ms i (j + k) a b = true
  | [], _, _, k, b, hb => by simp at hb
  | x :: l, j, h, k, b, hb => by
    simp only [pairsOk, Bool.and_eq_true] at h
    cases k with
    | zero => simp at hb; subst hb; exact h.1
    | succ k =>
      have := pairsOk_spec h.2 k b (by simpa using hb)
      rw [show j + 1 + k = j + (k + 1) by omega] at this
      exact this
theorem allPairs_spec {ops : Array Oper} {ms : List Nat} : ∀ {l : List Oper} {i : Nat}, allPairs ops ms i l = true → ∀ k m a b, l[k]? = some a → l[m]? = some b → k < m → pairOk ops ms (i + k) (i + m) a b = true
  | [], _, _, k, m, a, b, ha, _, _ => by simp at ha
  | x :: l, i, h, k, m, a, b, ha, hb, hkm => by
    simp only [allPairs, Bool.and_eq_true] at h
    cases m with
    | zero => omega
    | succ m =>
      cases k with
      | zero =>
        simp at ha; subst ha
        have := pairsOk_spec h.1 m b (by simpa using hb)
        rw [show i + 1 + m = i + (m + 1) by omega] at this
        exact this
      | succ k =>
        have := allPairs_spec h.2 k m a b (by simpa using ha) (by simpa using hb) (by omega)
        rw [show i + 1 + k = i + (k + 1) by omega, show i + 1 + m = i + (m + 1) by omega] at this
        exact this
theorem edgesOk_spec : ∀ {l : List Oper} {i : Nat}, edgesOk i l = true → ∀ k o, l[k]? = some o → ∀ e ∈ o.after, Region.binds .any e = true → e.on < i + k
  | [], _, _, k, o, ho, _, _, _ => by simp at ho
  | x :: l, i, h, k, o, ho, e, he, hb => by
    simp only [edgesOk, Bool.and_eq_true, List.all_eq_true, Bool.or_eq_true, Bool.not_eq_true', decide_eq_true_eq] at h
    cases k with
    | zero =>
      simp at ho; subst ho
      rcases h.1 e (by simpa using he) with h1 | h1
      · rw [hb] at h1; cases h1
      · simpa using h1
    | succ k =>
      have := edgesOk_spec h.2 k o (by simpa using ho) e he hb
      omega
theorem maskOf_spec {D : Nat → Prop} {acc : List Nat} (ih : ∀ k, D k → ∀ i, (nth 0 acc k).testBit i = true → D i) : ∀ {es : List Edge}, (∀ e ∈ es, Region.binds .any e = true → D e.on) → ∀ i, (maskOf es acc).testBit i = true → D i
  | [], _, i, h => by simp [maskOf] at h
  | e :: es, hes, i, h => by
    simp only [maskOf, Nat.testBit_or, Bool.or_eq_true] at h
    rcases h with h | h
    · split at h
      · rename_i hb
        have hd := hes e (by simp) hb
        simp only [Nat.testBit_or, Bool.or_eq_true, Nat.testBit_two_pow, decide_eq_true_eq] at h
        rcases h with h | h
        · exact h ▸ hd
        · exact ih _ hd i h
      · simp at h
    · exact maskOf_spec ih (fun e he => hes e (by simp [he])) i h
theorem nth_snoc {α : Type} (d : α) (l : List α) (x : α) (k : Nat) : nth d (l ++ [x]) k = if k = l.length then x else nth d l k := by
  rw [nth_eq, nth_eq]
  split
  · rename_i h; subst h; simp
  · rename_i h
    by_cases hi : k < l.length
    · rw [List.getElem?_append_left hi]
    · rw [List.getElem?_eq_none (by simp; omega), List.getElem?_eq_none (by omega)]
/-- what waits for another through others waits for it -/
theorem masksA_spec {D : Nat → Prop} : ∀ (l : List Oper) (acc : List Nat), (∀ k, D k → ∀ i, (nth 0 acc k).testBit i = true → D i) →
    (∀ k o, l[k]? = some o → D (acc.length + k) → ∀ e ∈ o.after, Region.binds .any e = true → D e.on) → ∀ k, D k → ∀ i, (nth 0 (masksA l acc) k).testBit i = true → D i
  | [], _, ih, _, k, hk, i, h => ih k hk i h
  | o :: l, acc, ih, hc, k, hk, i, h => by
    refine masksA_spec l (acc ++ [maskOf o.after.toList acc]) (fun k hk i h => ?_) (fun k o' ho hd => ?_) k hk i h
    · rw [nth_snoc] at h
      split at h
      · rename_i e
        subst e
        exact maskOf_spec ih (fun e he hb => hc 0 o rfl hk e (by simpa using he) hb) i h
      · exact ih k hk i h
    · refine hc (k + 1) o' (by simpa using ho) ?_
      simp only [List.length_append, List.length_singleton] at hd
      rw [show acc.length + (k + 1) = acc.length + 1 + k by omega]
      exact hd

/-! the run in the text's order -/
structure S where
  al : List (Nat × Nat)
  tm : List SV
  hp : List Blk
inductive Ev where
  | skip
  | val (v : SV)
  | new (b : Blk) (n : Nat) (v : SV)
  | put (b : Nat) (c : Blk)
def Ev.v : Ev → SV
  | .skip => uv
  | .val v => v
  | .new _ _ v => v
  | .put _ _ => uv
def dput (d : Option Tmp) (v : SV) (tm : List SV) : List SV := match d with | some t => tm.set t v | none => tm
def Wanted (all : Array Oper) (o : Oper) (tm : List SV) : Prop :=
  ∀ j want, o.guard = some (j, want) → ∃ t, guardS all j = some t ∧ nth uv tm t = .c (.val (.bool want))
def Unwanted (all : Array Oper) (o : Oper) (tm : List SV) : Prop :=
  ∃ j want, o.guard = some (j, want) ∧ ∃ t, guardS all j = some t ∧ nth uv tm t = .c (.val (.bool (!want)))
def StepR (E : Env) (all : Array Oper) (hp0 : List Blk) (o : Oper) (i : Nat) (s : S) (e : Ev) (s' : S) : Prop :=
  s'.tm = dput o.dst e.v s.tm ∧
  match e with
  | .skip => Unwanted all o s.tm ∧ s'.hp = s.hp ∧ s'.al = s.al
  | .val v => Wanted all o s.tm ∧ isStore o.op = false ∧ s'.hp = s.hp ∧ s'.al = s.al ∧ (eff E.T o.op (evm s.tm) (hfR hp0.length o s.al s.hp) = some (.val v) ∨
      ∃ c f args p, o.op = .call c ∧ callee (evm s.tm) c = some (f, args) ∧ E.D f args (hfR hp0.length o s.al s.hp) = some (p, v) ∧ ∀ q, p = some q → q)
  | .new b n v => Wanted all o s.tm ∧ isStore o.op = false ∧ n = s.hp.length ∧ s'.hp = s.hp ++ [b] ∧ s'.al = (n, i) :: s.al ∧ ∃ f, eff E.T o.op (evm s.tm) (hfR hp0.length o s.al s.hp) = some (.new b f) ∧ v = f n
  | .put b c => Wanted all o s.tm ∧ isStore o.op = true ∧ s'.hp = s.hp.set b c ∧ s'.al = s.al ∧ ∃ blk cs, nthO s.hp b = some blk ∧ c = { ty := blk.ty, ro := blk.ro, cs := cs } ∧
      eff E.T o.op (evm s.tm) (nthO s.hp) = some (.put b cs) ∧ (b < hp0.length ∨ ∃ j, lkN s.al b = some j ∧ waits o j = true) ∧
      ∀ j a, all[j]? = some a → j < i → reading a.op = true → (nth 0 (masksA all.toList []) i).testBit j = true ∨ (hp0.length ≤ b ∧ ∃ k, lkN s.al b = some k ∧ waits a k = false)
theorem lateL_spec {ms : List Nat} {al : List (Nat × Nat)} {b n0 i : Nat} : ∀ {l : List Oper} {j : Nat}, lateL ms al b n0 i j l = true → ∀ m a, l[m]? = some a → j + m < i → reading a.op = true → (nth 0 ms i).testBit (j + m) = true ∨ (n0 ≤ b ∧ ∃ k, lkN al b = some k ∧ waits a k = false)
  | [], _, _, m, a, ha, _, _ => by simp at ha
  | x :: l, j, h, m, a, ha, hm, hr => by
    simp only [lateL, Bool.and_eq_true] at h
    cases m with
    | zero =>
      simp at ha; subst ha
      have h := h.1
      simp only [hr, Bool.not_true, Bool.or_eq_true, decide_eq_true_eq, Bool.and_eq_true] at h
      rcases h with ((h | h) | h) | ⟨h1, h2⟩
      · omega
      · cases h
      · exact .inl h
      · split at h2
        · rename_i k hk; exact .inr ⟨h1, k, hk, by simpa using h2⟩
        · cases h2
    | succ m =>
      have := lateL_spec h.2 m a (by simpa using ha) (by omega) hr
      rw [show j + 1 + m = j + (m + 1) by omega] at this
      exact this
theorem vcDop_step {E : Env} {all : Array Oper} {hp0 : List Blk} {o : Oper} {i : Nat} {al : List (Nat × Nat)} {tm : List SV} {hp : List Blk} {K : List (Nat × Nat) → List SV → List Blk → Prop}
    (h : vcDop E all hp0 o i al tm hp K) (hw : Wanted all o tm) : ∃ e s', StepR E all hp0 o i ⟨al, tm, hp⟩ e s' ∧ K s'.al s'.tm s'.hp := by
  unfold vcDop at h
  split at h
  · rename_i hs
    split at h
    · rename_i b cs hv
      split at h
      · rename_i hc
        rw [forceL_eq] at h
        split at h
        · rename_i blk hb
          rw [updK_eq, putK_eq] at h
          refine ⟨.put b { ty := blk.ty, ro := blk.ro, cs := cs }, ⟨al, dput o.dst uv tm, hp.set b { ty := blk.ty, ro := blk.ro, cs := cs }⟩, ⟨rfl, hw, hs, rfl, rfl, blk, cs, hb, rfl, hv, ?_, fun j a ha hj hr => ?_⟩, h⟩
          rotate_left
          · have := lateL_spec (Bool.and_eq_true _ _ ▸ hc).2 j a (by simpa using ha) (by omega) hr
            rw [Nat.zero_add] at this
            exact this
          have hc := (Bool.and_eq_true _ _ ▸ hc).1
          unfold okPut at hc
          simp only [Bool.or_eq_true, decide_eq_true_eq] at hc
          rcases hc with hc | hc
          · exact .inl hc
          · split at hc
            · rename_i j hj; exact .inr ⟨j, hj, hc⟩
            · cases hc
        · cases h
      · cases h
    · cases h
  · rename_i hs
    split at h
    · rename_i v hv
      rw [SV.force_eq, putK_eq] at h
      exact ⟨.val v, ⟨al, dput o.dst v tm, hp⟩, ⟨rfl, hw, hs, rfl, rfl, .inl hv⟩, h⟩
    · rename_i b f hv
      rw [forceL_eq, snocK_eq, SV.force_eq, putK_eq] at h
      exact ⟨.new b hp.length (f hp.length), ⟨(hp.length, i) :: al, dput o.dst (f hp.length) tm, hp ++ [b]⟩, ⟨rfl, hw, hs, rfl, rfl, rfl, f, hv, rfl⟩, h⟩
    · cases h
    · split at h
      · rename_i c hc
        split at h
        · rename_i f args hcal
          split at h
          · rename_i v hD
            rw [SV.force_eq, putK_eq] at h
            exact ⟨.val v, ⟨al, dput o.dst v tm, hp⟩, ⟨rfl, hw, hs, rfl, rfl, .inr ⟨c, f, args, none, hc, hcal, hD, fun q hq => by cases hq⟩⟩, h⟩
          · rename_i p v hD
            rw [SV.force_eq, putK_eq] at h
            exact ⟨.val v, ⟨al, dput o.dst v tm, hp⟩, ⟨rfl, hw, hs, rfl, rfl, .inr ⟨c, f, args, some p, hc, hcal, hD, fun q hq => by cases hq; exact h.1⟩⟩, h.2⟩
          · cases h
        · cases h
      · cases h
theorem vcDs_step {E : Env} {all : Array Oper} {hp0 : List Blk} {o : Oper} {os : List Oper} {i : Nat} {al : List (Nat × Nat)} {tm : List SV} {hp : List Blk} {K : List SV → List Blk → Prop}
    (h : vcDs E all hp0 (o :: os) i al tm hp K) : ∃ e s', StepR E all hp0 o i ⟨al, tm, hp⟩ e s' ∧ vcDs E all hp0 os (i + 1) s'.al s'.tm s'.hp K := by
  unfold vcDs at h
  split at h
  · rename_i hg
    exact vcDop_step h fun j want hj => by rw [hg] at hj; cases hj
  · rename_i j want hg
    split at h
    · rename_i t hgs
      split at h
      · rename_i b hb
        have run : b = want → vcDop E all hp0 o i al tm hp (fun al tm hp => vcDs E all hp0 os (i + 1) al tm hp K) → ∃ e s', StepR E all hp0 o i ⟨al, tm, hp⟩ e s' ∧ vcDs E all hp0 os (i + 1) s'.al s'.tm s'.hp K := fun e h =>
          vcDop_step h fun j' want' hj => by rw [hg] at hj; cases hj; exact ⟨t, hgs, by rw [hb, e]⟩
        have skip : b = (!want) → putK o.dst uv tm (fun tm => vcDs E all hp0 os (i + 1) al tm hp K) → ∃ e s', StepR E all hp0 o i ⟨al, tm, hp⟩ e s' ∧ vcDs E all hp0 os (i + 1) s'.al s'.tm s'.hp K := fun e h => by
          rw [putK_eq] at h
          exact ⟨.skip, ⟨al, dput o.dst uv tm, hp⟩, ⟨rfl, ⟨j, want, hg, t, hgs, by rw [hb, e]⟩, rfl, rfl⟩, h⟩
        split at h
        · obtain ⟨h1, h2⟩ := bcase_of h
          rw [updK_eq] at h1 h2
          cases b with
          | true => exact run rfl (by rw [set_same hb (bool_ne _)] at h1; exact h1 rfl)
          | false => exact skip rfl (by rw [set_same hb (bool_ne _)] at h2; exact h2 rfl)
        · obtain ⟨h1, h2⟩ := bcase_of h
          rw [updK_eq] at h1 h2
          cases b with
          | true => exact skip rfl (by rw [set_same hb (bool_ne _)] at h1; exact h1 rfl)
          | false => exact run rfl (by rw [set_same hb (bool_ne _)] at h2; exact h2 rfl)
      · cases h
    · cases h
theorem vcDs_trace {E : Env} {all : Array Oper} {hp0 : List Blk} {K : List SV → List Blk → Prop} : ∀ (os : List Oper) (i : Nat) (s : S), vcDs E all hp0 os i s.al s.tm s.hp K →
    ∃ (f : Nat → S) (ev : Nat → Ev), f 0 = s ∧ (∀ k o, os[k]? = some o → StepR E all hp0 o (i + k) (f k) (ev k) (f (k + 1))) ∧ K (f os.length).tm (f os.length).hp
  | [], i, s, h => ⟨fun _ => s, fun _ => .skip, rfl, fun k o ho => by simp at ho, h⟩
  | o :: os, i, s, h => by
    obtain ⟨e, s', hst, h'⟩ := vcDs_step h
    obtain ⟨f, ev, h0, hs, hK⟩ := vcDs_trace os (i + 1) s' h'
    refine ⟨fun k => match k with | 0 => s | k + 1 => f k, fun k => match k with | 0 => e | k + 1 => ev k, rfl, fun k o' ho => ?_, hK⟩
    cases k with
    | zero =>
      simp at ho
      subst ho
      show StepR E all hp0 o (i + 0) s e (f 0)
      rw [h0]; exact hst
    | succ k =>
      have := hs k o' (by simpa using ho)
      rw [show i + 1 + k = i + (k + 1) by omega] at this
      exact this
end Go.Proofs.YtapppahniablmaaDoor
