/- The reckoner is sound: a region that draws its order. The reckoner is sound: a region that draws its order (in any order the same comes out). The reckoner is sound: a region that draws its order, the theorem. A region that draws its order and whose last operation waits for all the others: the others are walked as a region of their own (their condition on the world need not hold behind the last one). The reckoner is sound: code and functions. The rounds of a loop over a function: what is shown of a piece of code outside a round holds in a round. A loop over a function that hands out a list of values. The reckoner is sound: a region that draws its order, cut where all that follows waits for all ahead. The reckoner is sound: code. The reckoner is sound: functions. -/
import Derived.Test.YthmdmbpecgakkaaDoorEna
import Derived.Deep.RegionHeld3
import Derived.StillTail
import Derived.OrdersIn
import Derived.TacticsIn
import Derived.LoopNIn
namespace Go.Proofs.YthmdmbpecgakkaaDoor
open Go.RowKit

/-! what is asked of a region, once -/
def pairOk (ops : Array Oper) (ms : List Nat) (i j : Nat) (a b : Oper) : Bool :=
 let bf := (nth 0 ms j).testBit i
 (match b.dst with | some t => (!(a.looksAt ops).contains t || bf) && a.dst != some t | none => true) &&
 (match a.dst with | some t => (!(b.looksAt ops).contains t || bf) | none => true) &&
 (!isStore b.op || bf || !isStore a.op) && (!isStore a.op || (!(reading b.op || isStore b.op) || bf && !reading b.op))
def pairsOk (ops : Array Oper) (ms : List Nat) (i : Nat) (a : Oper) : Nat → List Oper → Bool
 | _, [] => true
 | j, b :: bs => pairOk ops ms i j a b && pairsOk ops ms i a (j + 1) bs
def allPairs (ops : Array Oper) (ms : List Nat) : Nat → List Oper → Bool
 | _, [] => true
 | i, a :: l => pairsOk ops ms i a (i + 1) l && allPairs ops ms (i + 1) l
def edgesOk : Nat → List Oper → Bool
 | _, [] => true
 | i, o :: os => (o.after.toList.all fun e => !Region.binds .any e || decide (e.on < i)) && edgesOk (i + 1) os
def okDraw (ops : Array Oper) : Bool := edgesOk 0 ops.toList && allPairs ops (masksA ops.toList []) 0 ops.toList

theorem pairsOk_spec {ops : Array Oper} {ms : List Nat} {i : Nat} {a : Oper} : ∀ {l : List Oper} {j : Nat}, pairsOk ops ms i a j l = true → ∀ k b, l[k]? = some b → pairOk ops ms i (j + k) a b = true
 | [], _, _, k, b, hb => by simp at hb
 | x :: l, j, h, k, b, hb => by
  simp only [pairsOk, Bool.and_eq_true] at h
  cases k with
  | zero => simp at hb; subst hb; exact h.1
  | succ k =>
   have := pairsOk_spec h.2 k b (by simpa using hb)
   rw [show j + 1 + k = j + (k + 1) by omega] at this
   exact this
theorem allPairs_spec {ops : Array Oper} {ms : List Nat} : ∀ {l : List Oper} {i : Nat}, allPairs ops ms i l = true → ∀ k m a b, l[k]? = some a → l[m]? = some b → k < m → pairOk ops ms (i + k) (i + m) a b = true
 | [], _, _, k, m, a, b, ha, _, _ => by simp at ha
 | x :: l, i, h, k, m, a, b, ha, hb, hkm => by
  simp only [allPairs, Bool.and_eq_true] at h
  cases m with
  | zero => omega
  | succ m =>
   cases k with
   | zero =>
    simp at ha; subst ha
    have := pairsOk_spec h.1 m b (by simpa using hb)
    rw [show i + 1 + m = i + (m + 1) by omega] at this
    exact this
   | succ k =>
    have := allPairs_spec h.2 k m a b (by simpa using ha) (by simpa using hb) (by omega)
    rw [show i + 1 + k = i + (k + 1) by omega, show i + 1 + m = i + (m + 1) by omega] at this
    exact this
theorem edgesOk_spec : ∀ {l : List Oper} {i : Nat}, edgesOk i l = true → ∀ k o, l[k]? = some o → ∀ e ∈ o.after, Region.binds .any e = true → e.on < i + k
 | [], _, _, k, o, ho, _, _, _ => by simp at ho
 | x :: l, i, h, k, o, ho, e, he, hb => by
  simp only [edgesOk, Bool.and_eq_true, List.all_eq_true, Bool.or_eq_true, Bool.not_eq_true', decide_eq_true_eq] at h
  cases k with
  | zero =>
   simp at ho; subst ho
   rcases h.1 e (by simpa using he) with h1 | h1
   ·rw [hb] at h1; cases h1
   ·simpa using h1
  | succ k =>
   have := edgesOk_spec h.2 k o (by simpa using ho) e he hb
   omega
theorem maskOf_spec {D : Nat → Prop} {acc : List Nat} (ih : ∀ k, D k → ∀ i, (nth 0 acc k).testBit i = true → D i) : ∀ {es : List Edge}, (∀ e ∈ es, Region.binds .any e = true → D e.on) → ∀ i, (maskOf es acc).testBit i = true → D i
 | [], _, i, h => by simp [maskOf] at h
 | e :: es, hes, i, h => by
  simp only [maskOf, Nat.testBit_or, Bool.or_eq_true] at h
  rcases h with h | h
  ·split at h
   ·rename_i hb
    have hd := hes e (by simp) hb
    simp only [Nat.testBit_or, Bool.or_eq_true, Nat.testBit_two_pow, decide_eq_true_eq] at h
    rcases h with h | h
    ·exact h ▸ hd
    ·exact ih _ hd i h
   ·simp at h
  ·exact maskOf_spec ih (fun e he => hes e (by simp [he])) i h
theorem nth_snoc {α : Type} (d : α) (l : List α) (x : α) (k : Nat) : nth d (l ++ [x]) k = if k = l.length then x else nth d l k := by
 rw [nth_eq, nth_eq]
 split
 ·rename_i h; subst h; simp
 ·rename_i h
  by_cases hi : k < l.length
  ·rw [List.getElem?_append_left hi]
  ·rw [List.getElem?_eq_none (by simp; omega), List.getElem?_eq_none (by omega)]
theorem masksA_spec {D : Nat → Prop} : ∀ (l : List Oper) (acc : List Nat), (∀ k, D k → ∀ i, (nth 0 acc k).testBit i = true → D i) →
  (∀ k o, l[k]? = some o → D (acc.length + k) → ∀ e ∈ o.after, Region.binds .any e = true → D e.on) → ∀ k, D k → ∀ i, (nth 0 (masksA l acc) k).testBit i = true → D i
 | [], _, ih, _, k, hk, i, h => ih k hk i h
 | o :: l, acc, ih, hc, k, hk, i, h => by
  refine masksA_spec l (acc ++ [maskOf o.after.toList acc]) (fun k hk i h => ?_) (fun k o' ho hd => ?_) k hk i h
  ·rw [nth_snoc] at h
   split at h
   ·rename_i e
    subst e
    exact maskOf_spec ih (fun e he hb => hc 0 o rfl hk e (by simpa using he) hb) i h
   ·exact ih k hk i h
  ·refine hc (k + 1) o' (by simpa using ho) ?_
   simp only [List.length_append, List.length_singleton] at hd
   rw [show acc.length + (k + 1) = acc.length + 1 + k by omega]
   exact hd

/-! the run in the text's order -/
structure S where
 al : List (Nat × Nat)
 tm : List SV
 hp : List Blk
inductive Ev where
 | skip
 | val (v : SV)
 | new (b : Blk) (n : Nat) (v : SV)
 | put (b : Nat) (c : Blk)
def Ev.v : Ev → SV
 | .skip => uv
 | .val v => v
 | .new _ _ v => v
 | .put _ _ => uv
def dput (d : Option Tmp) (v : SV) (tm : List SV) : List SV := match d with | some t => tm.set t v | none => tm
def Wanted (all : Array Oper) (o : Oper) (tm : List SV) : Prop :=
 ∀ j want, o.guard = some (j, want) → ∃ t, guardS all j = some t ∧ nth uv tm t = .c (.val (.bool want))
def Unwanted (all : Array Oper) (o : Oper) (tm : List SV) : Prop :=
 ∃ j want, o.guard = some (j, want) ∧ ∃ t, guardS all j = some t ∧ (nth uv tm t = .c (.val (.bool (!want))) ∨ ∃ l, nth uv tm t = .c (.val (.tuple l)))
def StepR (E : Env) (all : Array Oper) (hp0 : List Blk) (o : Oper) (i : Nat) (s : S) (e : Ev) (s' : S) : Prop :=
 s'.tm = dput o.dst e.v s.tm ∧
 match e with
 | .skip => Unwanted all o s.tm ∧ s'.hp = s.hp ∧ s'.al = s.al
 | .val v => Wanted all o s.tm ∧ isStore o.op = false ∧ s'.hp = s.hp ∧ s'.al = s.al ∧ (eff E.T o.op (evm s.tm) (hfR hp0.length o s.al s.hp) = some (.val v) ∨
   ∃ c f args p, o.op = .call c ∧ callee (evm s.tm) c = some (f, args) ∧ E.D f args (hfR hp0.length o s.al s.hp) = some (p, v) ∧ ∀ q, p = some q → q)
 | .new b n v => Wanted all o s.tm ∧ isStore o.op = false ∧ n = s.hp.length ∧ s'.hp = s.hp ++ [b] ∧ s'.al = (n, i) :: s.al ∧ ∃ f, eff E.T o.op (evm s.tm) (hfR hp0.length o s.al s.hp) = some (.new b f) ∧ v = f n
 | .put b c => Wanted all o s.tm ∧ isStore o.op = true ∧ s'.hp = s.hp.set b c ∧ s'.al = s.al ∧ ∃ blk cs, nthO s.hp b = some blk ∧ c = { ty := blk.ty, ro := blk.ro, cs := cs, tl := blk.tl } ∧
   eff E.T o.op (evm s.tm) (nthO s.hp) = some (.put b cs) ∧ (b < hp0.length ∨ ∃ j, lkN s.al b = some j ∧ waits o j = true) ∧
   ∀ j a, all[j]? = some a → j < i → reading a.op = true → (nth 0 (masksA all.toList []) i).testBit j = true ∨ (hp0.length ≤ b ∧ ∃ k, lkN s.al b = some k ∧ waits a k = false)
theorem lateL_spec {ms : List Nat} {al : List (Nat × Nat)} {b n0 i : Nat} : ∀ {l : List Oper} {j : Nat}, lateL ms al b n0 i j l = true → ∀ m a, l[m]? = some a → j + m < i → reading a.op = true → (nth 0 ms i).testBit (j + m) = true ∨ (n0 ≤ b ∧ ∃ k, lkN al b = some k ∧ waits a k = false)
 | [], _, _, m, a, ha, _, _ => by simp at ha
 | x :: l, j, h, m, a, ha, hm, hr => by
  simp only [lateL, Bool.and_eq_true] at h
  cases m with
  | zero =>
   simp at ha; subst ha
   have h := h.1
   simp only [hr, Bool.not_true, Bool.or_eq_true, decide_eq_true_eq, Bool.and_eq_true] at h
   rcases h with ((h | h) | h) | ⟨h1, h2⟩
   ·omega
   ·cases h
   ·exact .inl h
   ·split at h2
    ·rename_i k hk; exact .inr ⟨h1, k, hk, by simpa using h2⟩
    ·cases h2
  | succ m =>
   have := lateL_spec h.2 m a (by simpa using ha) (by omega) hr
   rw [show j + 1 + m = j + (m + 1) by omega] at this
   exact this
theorem vcDop_step {E : Env} {all : Array Oper} {hp0 : List Blk} {o : Oper} {i : Nat} {al : List (Nat × Nat)} {tm : List SV} {hp : List Blk} {K : List (Nat × Nat) → List SV → List Blk → Prop}
  (h : vcDop E all hp0 o i al tm hp K) (hw : Wanted all o tm) : ∃ e s', StepR E all hp0 o i ⟨al, tm, hp⟩ e s' ∧ K s'.al s'.tm s'.hp := by
 unfold vcDop at h
 split at h
 ·rename_i hs
  split at h
  ·rename_i b cs hv
   split at h
   ·rename_i hc
    rw [forceL_eq] at h
    split at h
    ·rename_i ty ro cs0 tl hb
     rw [updK_eq, putK_eq] at h
     refine ⟨.put b ⟨ty, ro, cs, tl⟩, ⟨al, dput o.dst uv tm, hp.set b ⟨ty, ro, cs, tl⟩⟩, ⟨rfl, hw, hs, rfl,rfl,⟨ty, ro, cs0, tl⟩, cs, hb, rfl, hv, ?_, fun j a ha hj hr => ?_⟩, h⟩
     rotate_left
     ·have := lateL_spec (Bool.and_eq_true _ _ ▸ hc).2 j a (by simpa using ha) (by omega) hr
      rw [Nat.zero_add] at this
      exact this
     have hc := (Bool.and_eq_true _ _ ▸ hc).1
     unfold okPut at hc
     simp only [Bool.or_eq_true, decide_eq_true_eq] at hc
     rcases hc with hc | hc
     ·exact .inl hc
     ·split at hc
      ·rename_i j hj; exact .inr ⟨j, hj, hc⟩
      ·cases hc
    ·cases h
   ·cases h
  ·cases h
 ·rename_i hs
  split at h
  ·rename_i v hv
   rw [SV.force_eq, putK_eq] at h
   exact ⟨.val v, ⟨al, dput o.dst v tm, hp⟩, ⟨rfl, hw, hs, rfl,rfl,.inl hv⟩, h⟩
  ·rename_i ty ro cs tl f hv
   rw [forceL_eq, snocK_eq, lenK_eq, SV.force_eq, putK_eq] at h
   exact ⟨.new ⟨ty, ro, cs, tl⟩ hp.length (f hp.length), ⟨(hp.length, i) :: al, dput o.dst (f hp.length) tm, hp ++ [(⟨ty, ro, cs, tl⟩ : Blk)]⟩, ⟨rfl, hw, hs, rfl,rfl,rfl, f, hv, rfl⟩, h⟩
  ·cases h
  ·split at h
   ·rename_i c hc
    split at h
    ·rename_i f args hcal
     split at h
     ·rename_i v hD
      rw [SV.force_eq, putK_eq] at h
      exact ⟨.val v, ⟨al, dput o.dst v tm, hp⟩, ⟨rfl, hw, hs, rfl,rfl,.inr ⟨c, f, args, none, hc, hcal, hD, fun q hq => by cases hq⟩⟩, h⟩
     ·rename_i p v hD
      rw [SV.force_eq, putK_eq] at h
      exact ⟨.val v, ⟨al, dput o.dst v tm, hp⟩, ⟨rfl, hw, hs, rfl,rfl,.inr ⟨c, f, args, some p, hc, hcal, hD, fun q hq => by cases hq; exact h.1⟩⟩, h.2⟩
     ·cases h
    ·cases h
   ·cases h
theorem vcDs_step {E : Env} {all : Array Oper} {hp0 : List Blk} {o : Oper} {os : List Oper} {i : Nat} {al : List (Nat × Nat)} {tm : List SV} {hp : List Blk} {K : List SV → List Blk → Prop}
  (h : vcDs E all hp0 (o :: os) i al tm hp K) : ∃ e s', StepR E all hp0 o i ⟨al, tm, hp⟩ e s' ∧ vcDs E all hp0 os (i + 1) s'.al s'.tm s'.hp K := by
 unfold vcDs at h
 split at h
 ·rename_i hg
  exact vcDop_step h fun j want hj => by rw [hg] at hj; cases hj
 ·rename_i j want hg
  split at h
  ·rename_i t hgs
   split at h
   ·rename_i b hb
    have run : b = want → vcDop E all hp0 o i al tm hp (fun al tm hp => vcDs E all hp0 os (i + 1) al tm hp K) → ∃ e s', StepR E all hp0 o i ⟨al, tm, hp⟩ e s' ∧ vcDs E all hp0 os (i + 1) s'.al s'.tm s'.hp K := fun e h =>
     vcDop_step h fun j' want' hj => by rw [hg] at hj; cases hj; exact ⟨t, hgs, by rw [hb, e]⟩
    have skip : b = (!want) → putK o.dst uv tm (fun tm => vcDs E all hp0 os (i + 1) al tm hp K) → ∃ e s', StepR E all hp0 o i ⟨al, tm, hp⟩ e s' ∧ vcDs E all hp0 os (i + 1) s'.al s'.tm s'.hp K := fun e h => by
     rw [putK_eq] at h
     exact ⟨.skip, ⟨al, dput o.dst uv tm, hp⟩, ⟨rfl, ⟨j, want, hg, t, hgs, .inl (by rw [hb, e])⟩, rfl, rfl⟩, h⟩
    split at h
    ·obtain ⟨h1, h2⟩ := bcase_of h
     rw [updK_eq] at h1 h2
     cases b with
     | true => exact run rfl (by rw [set_same hb (bool_ne _)] at h1; exact h1 rfl)
     | false => exact skip rfl (by rw [set_same hb (bool_ne _)] at h2; exact h2 rfl)
    ·obtain ⟨h1, h2⟩ := bcase_of h
     rw [updK_eq] at h1 h2
     cases b with
     | true => exact skip rfl (by rw [set_same hb (bool_ne _)] at h1; exact h1 rfl)
     | false => exact run rfl (by rw [set_same hb (bool_ne _)] at h2; exact h2 rfl)
   ·rename_i l hb
    rw [putK_eq] at h
    exact ⟨.skip, ⟨al, dput o.dst uv tm, hp⟩, ⟨rfl, ⟨j, want, hg, t, hgs, .inr ⟨l, hb⟩⟩, rfl, rfl⟩, h⟩
   ·cases h
  ·cases h
theorem vcDs_trace {E : Env} {all : Array Oper} {hp0 : List Blk} {K : List SV → List Blk → Prop} : ∀ (os : List Oper) (i : Nat) (s : S), vcDs E all hp0 os i s.al s.tm s.hp K →
  ∃ (f : Nat → S) (ev : Nat → Ev), f 0 = s ∧ (∀ k o, os[k]? = some o → StepR E all hp0 o (i + k) (f k) (ev k) (f (k + 1))) ∧ K (f os.length).tm (f os.length).hp
 | [], i, s, h => ⟨fun _ => s, fun _ => .skip, rfl, fun k o ho => by simp at ho, h⟩
 | o :: os, i, s, h => by
  obtain ⟨e, s', hst, h'⟩ := vcDs_step h
  obtain ⟨f, ev, h0, hs, hK⟩ := vcDs_trace os (i + 1) s' h'
  refine ⟨fun k => match k with | 0 => s | k + 1 => f k, fun k => match k with | 0 => e | k + 1 => ev k, rfl, fun k o' ho => ?_, hK⟩
  cases k with
  | zero =>
   simp at ho
   subst ho
   show StepR E all hp0 o (i + 0) s e (f 0)
   rw [h0]; exact hst
  | succ k =>
   have := hs k o' (by simpa using ho)
   rw [show i + 1 + k = i + (k + 1) by omega] at this
   exact this
end Go.Proofs.YthmdmbpecgakkaaDoor

namespace Go.Proofs.YthmdmbpecgakkaaDoor
open Go.RowKit

def Ev.key : Ev → Option (Nat × Blk)
  | .new b n _ => some (n, b)
  | .put b c => some (b, c)
  | _ => none
def appH (e : Ev) (h : Nat → Option Blk) : Nat → Option Blk := match e.key with | some p => upF h p.1 p.2 | none => h
def dstOf (ops : Array Oper) (k : Nat) : Option Tmp := (ops[k]?).bind (·.dst)
open Classical in
noncomputable def tmL (ops : Array Oper) (ev : Nat → Ev) (tm0 : List SV) (D : Nat → Prop) : Nat → List SV
  | 0 => tm0
  | k + 1 => if D k then dput (dstOf ops k) (ev k).v (tmL ops ev tm0 D k) else tmL ops ev tm0 D k
open Classical in
noncomputable def hpL (ev : Nat → Ev) (h0 : Nat → Option Blk) (D : Nat → Prop) : Nat → Nat → Option Blk
  | 0 => h0
  | k + 1 => if D k then appH (ev k) (hpL ev h0 D k) else hpL ev h0 D k
section
variable {ops : Array Oper} {ev : Nat → Ev} {tm0 : List SV} {h0 : Nat → Option Blk}
theorem dput_length (d : Option Tmp) (v : SV) (l : List SV) : (dput d v l).length = l.length := by cases d <;> simp [dput]
theorem tmL_length (D : Nat → Prop) : ∀ k, (tmL ops ev tm0 D k).length = tm0.length
  | 0 => rfl
  | k + 1 => by unfold tmL; split <;> simp [dput_length, tmL_length D k]
theorem nth_set {α : Type} (d : α) (l : List α) (t u : Nat) (v : α) : nth d (l.set t v) u = if t = u ∧ t < l.length then v else nth d l u := by
  rw [nth_eq, nth_eq]
  by_cases h : t = u
  · subst h
    by_cases ht : t < l.length
    · rw [if_pos ⟨rfl, ht⟩, List.getElem?_set_self ht]; rfl
    · rw [if_neg (fun h => ht h.2), List.set_eq_of_length_le (by omega)]
  · rw [if_neg (fun e => h e.1), List.getElem?_set_ne h]
theorem tmL_same {D D2 : Nat → Prop} (t : Nat) : ∀ k, (∀ j, j < k → dstOf ops j = some t → (D j ↔ D2 j)) → nth uv (tmL ops ev tm0 D k) t = nth uv (tmL ops ev tm0 D2 k) t
  | 0, _ => rfl
  | k + 1, h => by
    have ih := tmL_same t k (fun j hj => h j (by omega))
    have hk := h k (by omega)
    unfold tmL
    cases hd : dstOf ops k with
    | none => simp only [dput, ite_self]; exact ih
    | some u =>
      by_cases hu : u = t
      · subst hu
        have := hk hd
        by_cases h1 : D k
        · rw [if_pos h1, if_pos (this.1 h1)]
          simp only [dput, nth_set, tmL_length]
          split
          · rfl
          · exact ih
        · rw [if_neg h1, if_neg (fun h => h1 (this.2 h))]; exact ih
      · have e : ∀ D : Nat → Prop, nth uv (dput (some u) (ev k).v (tmL ops ev tm0 D k)) t = nth uv (tmL ops ev tm0 D k) t := fun D => by
          simp only [dput, nth_set]; rw [if_neg (fun h => hu h.1)]
        split <;> split <;> (try simp only [e]) <;> exact ih
theorem hpL_same {D D2 : Nat → Prop} (b : Nat) : ∀ k, (∀ j p, j < k → (ev j).key = some p → p.1 = b → (D j ↔ D2 j)) → hpL ev h0 D k b = hpL ev h0 D2 k b
  | 0, _ => rfl
  | k + 1, h => by
    have ih := hpL_same b k (fun j p hj => h j p (by omega))
    have hk := fun p => h k p (by omega)
    unfold hpL appH
    cases hd : (ev k).key with
    | none => simp only [ite_self]; exact ih
    | some p =>
      by_cases hu : p.1 = b
      · have := hk p hd hu
        by_cases h1 : D k
        · rw [if_pos h1, if_pos (this.1 h1)]; simp [upF, hu]
        · rw [if_neg h1, if_neg (fun h => h1 (this.2 h))]; exact ih
      · have e : ∀ D : Nat → Prop, upF (hpL ev h0 D k) p.1 p.2 b = hpL ev h0 D k b := fun D => by unfold upF; rw [if_neg (fun h => hu h.symm)]
        by_cases h1 : D k <;> by_cases h2 : D2 k <;> simp only [h1, h2, if_true, if_false, e] <;> exact ih
theorem dput_comm {d e : Option Tmp} {u v : SV} {l : List SV} (h : ∀ t, d = some t → e ≠ some t) : dput d u (dput e v l) = dput e v (dput d u l) := by
  cases d with
  | none => rfl
  | some t =>
    cases e with
    | none => rfl
    | some s =>
      have : t ≠ s := fun e => h t rfl (e ▸ rfl)
      exact List.set_comm _ _ (fun e => this e.symm)
theorem tmL_insert {D : Nat → Prop} {i : Nat} (hi : ¬ D i) : ∀ k, i < k → (∀ j, i < j → j < k → D j → ∀ t, dstOf ops j = some t → dstOf ops i ≠ some t) →
    tmL ops ev tm0 (fun j => D j ∨ j = i) k = dput (dstOf ops i) (ev i).v (tmL ops ev tm0 D k) := by
  intro k
  induction k with
  | zero => intro h; omega
  | succ k ih =>
    intro hik hj
    have low : ∀ m, m ≤ i → tmL ops ev tm0 (fun j => D j ∨ j = i) m = tmL ops ev tm0 D m := by
      intro m
      induction m with
      | zero => intro _; rfl
      | succ m ihm =>
        intro hm
        unfold tmL
        rw [ihm (by omega)]
        by_cases h1 : D m
        · rw [if_pos (Or.inl h1), if_pos h1]
        · rw [if_neg (fun h => h.elim h1 (fun e => by omega)), if_neg h1]
    rcases Nat.lt_or_ge i k with hlt | hge
    · have ih' := ih hlt (fun j h1 h2 => hj j h1 (by omega))
      unfold tmL
      rw [ih']
      by_cases h1 : D k
      · rw [if_pos (Or.inl h1), if_pos h1, dput_comm (hj k hlt (by omega) h1)]
      · rw [if_neg (fun h => h.elim h1 (fun e => by omega)), if_neg h1]
    · have : k = i := by omega
      subst this
      unfold tmL
      rw [if_pos (Or.inr rfl), if_neg hi, low k (Nat.le_refl _)]
theorem appH_comm {e d : Ev} {h : Nat → Option Blk} (hne : ∀ p q, e.key = some p → d.key = some q → p.1 ≠ q.1) : appH e (appH d h) = appH d (appH e h) := by
  unfold appH
  cases he : e.key with
  | none => cases hd : d.key <;> rfl
  | some p =>
    cases hd : d.key with
    | none => rfl
    | some q =>
      have := hne p q he hd
      funext x
      simp only [upF]
      by_cases h1 : x = p.1
      · subst h1; simp [this]
      · simp [h1]
theorem hpL_insert {D : Nat → Prop} {i : Nat} (hi : ¬ D i) : ∀ k, i < k → (∀ j, i < j → j < k → D j → ∀ p q, (ev j).key = some p → (ev i).key = some q → p.1 ≠ q.1) →
    hpL ev h0 (fun j => D j ∨ j = i) k = appH (ev i) (hpL ev h0 D k) := by
  intro k
  induction k with
  | zero => intro h; omega
  | succ k ih =>
    intro hik hj
    have low : ∀ m, m ≤ i → hpL ev h0 (fun j => D j ∨ j = i) m = hpL ev h0 D m := by
      intro m
      induction m with
      | zero => intro _; rfl
      | succ m ihm =>
        intro hm
        unfold hpL
        rw [ihm (by omega)]
        by_cases h1 : D m
        · rw [if_pos (Or.inl h1), if_pos h1]
        · rw [if_neg (fun h => h.elim h1 (fun e => by omega)), if_neg h1]
    rcases Nat.lt_or_ge i k with hlt | hge
    · have ih' := ih hlt (fun j h1 h2 => hj j h1 (by omega))
      unfold hpL
      rw [ih']
      by_cases h1 : D k
      · rw [if_pos (Or.inl h1), if_pos h1, appH_comm (hj k hlt (by omega) h1)]
      · rw [if_neg (fun h => h.elim h1 (fun e => by omega)), if_neg h1]
    · have : k = i := by omega
      subst this
      unfold hpL
      rw [if_pos (Or.inr rfl), if_neg hi, low k (Nat.le_refl _)]
theorem tmL_past {D : Nat → Prop} {i : Nat} : ∀ k, i ≤ k → (∀ j, i ≤ j → ¬ D j) → tmL ops ev tm0 D k = tmL ops ev tm0 D i
  | 0, h, _ => by have : i = 0 := by omega
                  subst this; rfl
  | k + 1, h, hD => by
    rcases Nat.lt_or_ge i (k + 1) with h1 | h1
    · rw [tmL, if_neg (hD k (by omega))]
      exact tmL_past k (by omega) hD
    · have : i = k + 1 := by omega
      subst this; rfl
end
/-- what a look at a region tells -/
def bf (ops : Array Oper) (j i : Nat) : Prop := (nth 0 (masksA ops.toList []) j).testBit i = true
def Closed (ops : Array Oper) (D : Nat → Prop) : Prop := ∀ k o, ops[k]? = some o → D k → ∀ e ∈ o.after, Region.binds .any e = true → D e.on
theorem Closed.bf {ops : Array Oper} {D : Nat → Prop} (h : Closed ops D) {j i : Nat} (hj : D j) (hb : bf ops j i) : D i :=
  masksA_spec (D := D) ops.toList [] (fun k _ i h => by simp [nth] at h) (fun k o ho hd e he hb => h k o (by simpa using ho) (by simpa using hd) e he hb) j hj i hb
theorem Closed.ready {ops : Array Oper} {D : Nat → Prop} (h : Closed ops D) {i : Nat} {o : Oper} (ho : ops[i]? = some o) (hr : ∀ e ∈ o.after, Region.binds .any e = true → D e.on) : Closed ops (fun j => D j ∨ j = i) := by
  intro k o' ho' hk e he hb
  rcases hk with hk | rfl
  · exact .inl (h k o' ho' hk e he hb)
  · rw [ho] at ho'; cases ho'; exact .inl (hr e he hb)
section
variable {ops : Array Oper} (hok : okDraw ops = true)
include hok
theorem draw_edges {k : Nat} {o : Oper} (ho : ops[k]? = some o) {e : Edge} (he : e ∈ o.after) (hb : Region.binds .any e = true) : e.on < k := by
  unfold okDraw at hok
  rw [Bool.and_eq_true] at hok
  have := edgesOk_spec hok.1 k o (by simpa using ho) e he hb
  omega
theorem draw_pair {i j : Nat} (hij : i < j) {a b : Oper} (ha : ops[i]? = some a) (hb : ops[j]? = some b) :
    (∀ t, b.dst = some t → (t ∈ a.looksAt ops → bf ops j i) ∧ a.dst ≠ some t) ∧ (∀ t, a.dst = some t → t ∈ b.looksAt ops → bf ops j i) ∧
    (isStore b.op = true → isStore a.op = true → bf ops j i) ∧ (isStore a.op = true → reading b.op = true → False) := by
  unfold okDraw at hok
  rw [Bool.and_eq_true] at hok
  have h := allPairs_spec hok.2 i j a b (by simpa using ha) (by simpa using hb) hij
  rw [Nat.zero_add, Nat.zero_add] at h
  unfold pairOk at h
  simp only [Bool.and_eq_true] at h
  obtain ⟨⟨⟨h1, h2⟩, h3⟩, h4⟩ := h
  refine ⟨fun t ht => ?_, fun t ht hl => ?_, fun hs hr => ?_, fun hs hr => ?_⟩
  · rw [ht] at h1
    simp only [Bool.and_eq_true, Bool.or_eq_true, Bool.not_eq_true', bne_iff_ne, ne_eq] at h1
    refine ⟨fun hl => ?_, h1.2⟩
    rcases h1.1 with h | h
    · rw [List.contains_iff_mem.2 hl] at h; cases h
    · exact h
  · rw [ht] at h2
    simp only [Bool.or_eq_true, Bool.not_eq_true'] at h2
    rcases h2 with h | h
    · rw [List.contains_iff_mem.2 hl] at h; cases h
    · exact h
  · rw [hs, hr] at h3
    simp only [Bool.not_true, Bool.false_or, Bool.or_false] at h3
    exact h3
  · rw [hs, hr] at h4
    simp at h4
theorem draw_bf_lt {i j : Nat} (h : bf ops j i) : i < j ∨ ops.size ≤ j := by
  rcases Nat.lt_or_ge j ops.size with hj | hj
  · left
    have hc : Closed ops (fun k => k < j) := fun k o ho hk e he hb => Nat.lt_trans (draw_edges hok ho he hb) hk
    have hc' := hc.ready (Array.getElem?_eq_getElem hj) (fun e he hb => draw_edges hok (Array.getElem?_eq_getElem hj) he hb)
    rcases hc'.bf (.inr rfl) h with h1 | h1
    · exact h1
    · exfalso
      subst h1
      -- an operation does not wait for itself
      have key : ∀ (l : List Oper) (acc : List Nat), (∀ k i, (nth 0 acc k).testBit i = true → i < k) → (∀ k o, l[k]? = some o → ∀ e ∈ o.after, Region.binds .any e = true → e.on < acc.length + k) →
          ∀ k i, (nth 0 (masksA l acc) k).testBit i = true → i < k := by
        intro l
        induction l with
        | nil => intro acc h _; exact h
        | cons o l ih =>
          intro acc h1 h2
          refine ih _ (fun k i h => ?_) (fun k o' ho e he hb => ?_)
          · rw [nth_snoc] at h
            split at h
            · rename_i e
              subst e
              refine maskOf_spec (D := fun i => i < acc.length) (fun k hk i h => Nat.lt_trans (h1 k i h) hk) (fun e he hb => ?_) i h
              have := h2 0 o rfl e (by simpa using he) hb
              omega
            · exact h1 k i h
          · have := h2 (k + 1) o' (by simpa using ho) e he hb
            simp; omega
      have := key ops.toList [] (fun k i h => by simp [nth] at h) (fun k o ho e he hb => by simpa using draw_edges hok (by simpa using ho) he hb) _ _ h
      omega
  · exact .inr hj
end
end Go.Proofs.YthmdmbpecgakkaaDoor

namespace Go.Proofs.YthmdmbpecgakkaaDoor
open Go.RowKit

theorem eff_blind {T : TypeId → Option TI} {op : Op} (h1 : reading op = false) (h2 : isStore op = false) (ev : Operand → SV) (hp hq : Nat → Option Blk) : eff T op ev hp = eff T op ev hq := by
  cases op <;> first | rfl | (simp [reading] at h1; done) | (simp [isStore] at h2; done)
theorem hpL_past {ev : Nat → Ev} {h0 : Nat → Option Blk} {D : Nat → Prop} {i : Nat} : ∀ k, i ≤ k → (∀ j, i ≤ j → ¬ D j) → hpL ev h0 D k = hpL ev h0 D i
  | 0, h, _ => by have : i = 0 := by omega
                  subst this; rfl
  | k + 1, h, hD => by
    rcases Nat.lt_or_ge i (k + 1) with h1 | h1
    · rw [hpL, if_neg (hD k (by omega))]
      exact hpL_past k (by omega) hD
    · have : i = k + 1 := by omega
      subst this; rfl
theorem hpL_none {ev : Nat → Ev} {h0 : Nat → Option Blk} (k : Nat) : hpL ev h0 (fun _ => False) k = h0 := hpL_past k (Nat.zero_le _) (fun _ _ h => h)

section
variable {P : Program} {E : Env} (hE : EOk P E) {ops : Array Oper} (hok : okDraw ops = true) {hp0 : List Blk} {tm0 : List SV} {f : Nat → S} {ev : Nat → Ev}
  (hf0 : f 0 = ⟨[], tm0, hp0⟩) (hs : ∀ k o, ops[k]? = some o → StepR E ops hp0 o k (f k) (ev k) (f (k + 1)))
include hf0 hs
theorem tr_tm : ∀ i, i ≤ ops.size → (f i).tm = tmL ops ev tm0 (fun _ => True) i
  | 0, _ => by rw [hf0]; rfl
  | i + 1, h => by
    have ho : ops[i]? = some ops[i] := Array.getElem?_eq_getElem (by omega)
    have := (hs i _ ho).1
    rw [this, tr_tm i (by omega), tmL, if_pos trivial]
    simp [dstOf, ho]
theorem tr_hp : ∀ i, i ≤ ops.size → nthO (f i).hp = hpL ev (nthO hp0) (fun _ => True) i
  | 0, _ => by rw [hf0]; rfl
  | i + 1, h => by
    have ho : ops[i]? = some ops[i] := Array.getElem?_eq_getElem (by omega)
    have ih := tr_hp i (by omega)
    obtain ⟨-, h2⟩ := hs i _ ho
    rw [hpL, if_pos trivial, ← ih]
    cases hev : ev i with
    | skip => rw [hev] at h2; rw [h2.2.1]; rfl
    | val v => rw [hev] at h2; rw [h2.2.2.1]; rfl
    | new b n v =>
      rw [hev] at h2
      obtain ⟨-, -, rfl, h3, -⟩ := h2
      rw [h3, nthO_snoc']
      rfl
    | put b c =>
      rw [hev] at h2
      obtain ⟨-, -, h3, -, blk, cs, h4, -⟩ := h2
      rw [h3, nthO_set _ _ _ _ h4]
      rfl
theorem tr_len {i : Nat} : ∀ j, i ≤ j → j ≤ ops.size → (f i).hp.length ≤ (f j).hp.length
  | 0, h, _ => by have _ := hf0
                  have : i = 0 := by omega
                  subst this; exact Nat.le_refl _
  | j + 1, h, hj => by
    rcases Nat.lt_or_ge i (j + 1) with h1 | h1
    · have ih := tr_len (i := i) j (by omega) (by omega)
      have ho : ops[j]? = some ops[j] := Array.getElem?_eq_getElem (by omega)
      obtain ⟨-, h2⟩ := hs j _ ho
      cases hev : ev j with
      | skip => rw [hev] at h2; rw [h2.2.1]; exact ih
      | val v => rw [hev] at h2; rw [h2.2.2.1]; exact ih
      | new b n v =>
        rw [hev] at h2
        rw [h2.2.2.2.1]; simp; omega
      | put b c =>
        rw [hev] at h2
        rw [h2.2.2.1]; simpa using ih
    · have : i = j + 1 := by omega
      subst this; exact Nat.le_refl _
theorem tr_len0 {j : Nat} (hj : j ≤ ops.size) : hp0.length ≤ (f j).hp.length := by
  have := tr_len hf0 hs j (Nat.zero_le _) hj
  rw [hf0] at this; exact this
theorem tr_new {k : Nat} (hk : k < ops.size) {b : Blk} {n : Nat} {v : SV} (h : ev k = .new b n v) : n = (f k).hp.length ∧ (f (k + 1)).hp.length = n + 1 := by
  have _ := hf0
  obtain ⟨-, h2⟩ := hs k _ (Array.getElem?_eq_getElem hk)
  rw [h] at h2
  exact ⟨h2.2.2.1, by rw [h2.2.2.2.1, h2.2.2.1]; simp⟩
theorem tr_put {k : Nat} (hk : k < ops.size) {b : Nat} {c : Blk} (h : ev k = .put b c) : b < (f k).hp.length ∧ isStore (ops[k]).op = true := by
  have _ := hf0
  obtain ⟨-, h2⟩ := hs k _ (Array.getElem?_eq_getElem hk)
  rw [h] at h2
  obtain ⟨-, h3, -, -, blk, cs, h4, -⟩ := h2
  rw [nthO_eq] at h4
  exact ⟨(List.getElem?_eq_some_iff.1 h4).1, h3⟩
theorem tr_almono {i b x : Nat} (hb : b < (f i).hp.length) (h : lkN (f i).al b = some x) : ∀ j, i ≤ j → j ≤ ops.size → lkN (f j).al b = some x
  | 0, h1, _ => by
    have : i = 0 := by omega
    subst this; exact h
  | j + 1, h1, hj => by
    have ho : ops[j]? = some ops[j] := Array.getElem?_eq_getElem (by omega)
    obtain ⟨-, h2⟩ := hs j _ ho
    rcases Nat.lt_or_ge i (j + 1) with hij | hij
    · have ih := tr_almono hb h j (by omega) (by omega)
      cases hev : ev j with
      | skip => rw [hev] at h2; rw [h2.2.2]; exact ih
      | val v => rw [hev] at h2; rw [h2.2.2.2.1]; exact ih
      | new b' n' v' =>
        rw [hev] at h2
        rw [h2.2.2.2.2.1, lkN, if_neg]
        · exact ih
        · have h4 := tr_len hf0 hs (i := i) j (by omega) (by omega)
          have h5 := h2.2.2.1
          omega
      | put b' c' => rw [hev] at h2; rw [h2.2.2.2.1]; exact ih
    · have : i = j + 1 := by omega
      subst this; exact h
theorem tr_late {k : Nat} (hk : k < ops.size) {b : Nat} {c : Blk} (h : ev k = .put b c) : ∀ j a, ops[j]? = some a → j < k → reading a.op = true → bf ops k j ∨ (hp0.length ≤ b ∧ ∃ x, lkN (f k).al b = some x ∧ waits a x = false) := by
  have _ := hf0
  obtain ⟨-, h2⟩ := hs k _ (Array.getElem?_eq_getElem hk)
  rw [h] at h2
  obtain ⟨-, -, -, -, blk, cs, -, -, -, -, h3⟩ := h2
  exact h3
theorem tr_al {k : Nat} {b : Blk} {n : Nat} {v : SV} (h : ev k = .new b n v) : ∀ j, k < j → j ≤ ops.size → lkN (f j).al n = some k
  | 0, h1, _ => by omega
  | j + 1, h1, hj => by
    have ho : ops[j]? = some ops[j] := Array.getElem?_eq_getElem (by omega)
    obtain ⟨-, h2⟩ := hs j _ ho
    rcases Nat.lt_or_ge k j with hkj | hkj
    · have ih := tr_al h j hkj (by omega)
      cases hev : ev j with
      | skip => rw [hev] at h2; rw [h2.2.2]; exact ih
      | val v => rw [hev] at h2; rw [h2.2.2.2.1]; exact ih
      | new b' n' v' =>
        rw [hev] at h2
        rw [h2.2.2.2.2.1, lkN, if_neg]
        · exact ih
        · have h3 := (tr_new hf0 hs (k := k) (by omega) h).2
          have h4 := tr_len hf0 hs (i := k + 1) j (by omega) (by omega)
          have h5 := h2.2.2.1
          omega
      | put b' c' => rw [hev] at h2; rw [h2.2.2.2.1]; exact ih
    · have : k = j := by omega
      subst this
      rw [h] at h2
      rw [h2.2.2.2.2.1, lkN, if_pos rfl]

/-- the state when the operations in D have been done -/
def InvD (N : Nat) (w0 : Base) (ops : Array Oper) (ev : Nat → Ev) (tm0 : List SV) (hp0 : List Blk) (D : Nat → Prop) (a : Act) (w : World) : Prop :=
  ∃ ρ0, HRel N w0 (hpL ev (nthO hp0) D ops.size) ρ0 w ∧ (∀ ρ, Agr (hpL ev (nthO hp0) D ops.size) ρ ρ0 → a.tmps.toList = (tmL ops ev tm0 D ops.size).map (SV.den ρ)) ∧ Marks N w0 a.defers
include hok
theorem look_ok {D : Nat → Prop} (hc : Closed ops D) {i : Nat} {o : Oper} (ho : ops[i]? = some o) (hi : ¬ D i) (hr : ∀ e ∈ o.after, Region.binds .any e = true → D e.on) {t : Tmp} (ht : t ∈ o.looksAt ops) :
    nth uv (tmL ops ev tm0 D ops.size) t = nth uv (f i).tm t := by
  have hin : i < ops.size := (Array.getElem?_eq_some_iff.1 ho).1
  rw [tr_tm hf0 hs i (by omega)]
  rw [tmL_same (D2 := fun j => j < i) t ops.size (fun j hj hd => ?_), tmL_past (i := i) ops.size (by omega) (fun j h1 h2 => by omega), tmL_same (D2 := fun _ => True) t i (fun j hj _ => ⟨fun _ => trivial, fun _ => hj⟩)]
  unfold dstOf at hd
  have hoj : ops[j]? = some ops[j] := Array.getElem?_eq_getElem hj
  rw [hoj] at hd
  simp only [Option.bind_some] at hd
  rcases Nat.lt_trichotomy j i with h | h | h
  · have := (draw_pair hok h hoj ho).2.1 t hd ht
    have := (hc.ready ho hr).bf (.inr rfl) this
    exact ⟨fun _ => h, fun _ => this.resolve_right (by omega)⟩
  · subst h
    exact ⟨fun h => absurd h hi, fun h => by omega⟩
  · have := ((draw_pair hok h ho hoj).1 t hd).1 ht
    exact ⟨fun hd => absurd (hc.bf hd this) hi, fun h => by omega⟩
theorem exec_ok {D : Nat → Prop} (hc : Closed ops D) {i : Nat} {o : Oper} (ho : ops[i]? = some o) (hi : ¬ D i) (hr : ∀ e ∈ o.after, Region.binds .any e = true → D e.on) (hsel : ∀ cs b, o.op ≠ .select cs b)
    {a : Act} {ρ : Rho} (ht : a.tmps.toList = (tmL ops ev tm0 D ops.size).map (SV.den ρ)) : execOp a.eval o = execOp (evr (evm (f i).tm) ρ) o := by
  rw [eval_ok ht]
  refine execOp_congr o hsel fun x hx => ?_
  cases x with
  | tmp t =>
    simp only [evr, evm]
    rw [look_ok hok hf0 hs hc ho hi hr (t := t) (List.mem_append_left _ (List.mem_filterMap.2 ⟨.tmp t, by simpa using hx, rfl⟩))]
  | const v => rfl
  | global g => rfl
  | func f => rfl
theorem wanted_ok {D : Nat → Prop} (hc : Closed ops D) {i : Nat} {o : Oper} (ho : ops[i]? = some o) (hi : ¬ D i) (hr : ∀ e ∈ o.after, Region.binds .any e = true → D e.on)
    {a : Act} {ρ : Rho} (ht : a.tmps.toList = (tmL ops ev tm0 D ops.size).map (SV.den ρ)) : (Wanted ops o (f i).tm → Region.wanted o (yielded ops a.tmps) = true) ∧ (Unwanted ops o (f i).tm → Region.wanted o (yielded ops a.tmps) = false) := by
  have look : ∀ j want t, o.guard = some (j, want) → guardS ops j = some t → t ∈ o.looksAt ops := fun j want t hg hgs => by
    unfold Oper.looksAt
    refine List.mem_append_right _ ?_
    rw [hg]
    unfold guardS at hgs
    rw [nthO_eq] at hgs
    have : (ops[j]?).bind (·.dst) = some t := by
      have e : ops[j]? = ops.toList[j]? := by simp
      rw [e]
      cases h : ops.toList[j]? with
      | none => rw [h] at hgs; cases hgs
      | some oj => rw [h] at hgs; exact hgs
    simp [this]
  have key : ∀ j want t b, o.guard = some (j, want) → guardS ops j = some t → nth uv (f i).tm t = .c (.val (.bool b)) → Region.wanted o (yielded ops a.tmps) = (b == want) := fun j want t b hg hgs hb => by
    have hb' := (look_ok hok hf0 hs hc ho hi hr (look j want t hg hgs)).trans hb
    have hy := yielded_ok hgs ht hb'
    unfold Region.wanted
    rw [hg]
    simp only [hy]
    cases b <;> cases want <;> rfl
  refine ⟨fun hw => ?_, fun ⟨j, want, hg, t, hgs, hb⟩ => ?_⟩
  · cases hg : o.guard with
    | none => simp [Region.wanted, hg]
    | some p =>
      obtain ⟨j, want⟩ := p
      obtain ⟨t, hgs, hb⟩ := hw j want hg
      rw [key j want t want hg hgs hb]; simp
  · rcases hb with hb | ⟨l, hb⟩
    · rw [key j want t _ hg hgs hb]; cases want <;> rfl
    · have hy := yielded_no hgs ht ((look_ok hok hf0 hs hc ho hi hr (look j want t hg hgs)).trans hb)
      unfold Region.wanted
      rw [hg]
      simp only [hy]
      cases want <;> rfl
theorem not_put_new {D : Nat → Prop} (hc : Closed ops D) {i : Nat} (hin : i < ops.size) (hi : ¬ D i) {b : Blk} {n : Nat} {v : SV} (hev : ev i = .new b n v) {j : Nat} (hj : j < ops.size) (hji : j ≠ i) {p : Nat × Blk} (hk : (ev j).key = some p) (hp : p.1 = n) : ¬ D j := by
  have _ := hok
  intro hD
  obtain ⟨e1, e2⟩ := tr_new hf0 hs hin hev
  cases hej : ev j with
  | skip => rw [hej] at hk; cases hk
  | val v => rw [hej] at hk; cases hk
  | new b' n' v' =>
    rw [hej] at hk; cases hk
    obtain ⟨e3, e4⟩ := tr_new hf0 hs hj hej
    simp only at hp
    rcases Nat.lt_or_ge i j with h | h
    · have := tr_len hf0 hs (i := i + 1) j h (by omega); omega
    · have := tr_len hf0 hs (i := j + 1) i (by omega) (by omega); omega
  | put b' c' =>
    rw [hej] at hk; cases hk
    simp only at hp
    subst hp
    have h3 := (tr_put hf0 hs hj hej).1
    rcases Nat.lt_or_ge i j with h | h
    · have hoj : ops[j]? = some ops[j] := Array.getElem?_eq_getElem hj
      obtain ⟨-, h2⟩ := hs j _ hoj
      rw [hej] at h2
      obtain ⟨-, -, -, -, blk, cs, -, -, -, h4⟩ := h2
      rcases h4 with h4 | ⟨k, h4, h5⟩
      · have := tr_len0 hf0 hs (j := i) (by omega); omega
      · rw [tr_al hf0 hs hev j h (by omega)] at h4
        cases h4
        unfold waits at h5
        simp only [List.any_eq_true, Bool.and_eq_true, decide_eq_true_eq] at h5
        obtain ⟨e, he, rfl, hb⟩ := h5
        exact hi (hc j _ hoj hD e (by simpa using he) hb)
    · have := tr_len hf0 hs (i := j) i (by omega) (by omega); omega
include hE in
theorem draw_step {N : Nat} {w0 : Base} {D : Nat → Prop} (hc : Closed ops D) {i : Nat} {o : Oper} (ho : ops[i]? = some o) (hi : ¬ D i) (hr : ∀ e ∈ o.after, Region.binds .any e = true → D e.on)
    {a : Act} {w : World} (hinv : InvD N w0 ops ev tm0 hp0 D a w) {K : Act → World → Prop} {Q : Exit → Act → World → Prop} (hn : ∀ a' w', InvD N w0 ops ev tm0 hp0 (fun j => D j ∨ j = i) a' w' → K a' w') : wpOp P ops Q i K a w := by
  have hin : i < ops.size := (Array.getElem?_eq_some_iff.1 ho).1
  obtain ⟨ρ0, hh, ht, hd⟩ := hinv
  obtain ⟨hst, h2⟩ := hs i o ho
  have hw := wanted_ok hok hf0 hs hc ho hi hr (ht ρ0 (Agr.refl _ _))
  have hdst : dstOf ops i = o.dst := by simp [dstOf, ho]
  have htm : tmL ops ev tm0 (fun j => D j ∨ j = i) ops.size = dput o.dst (ev i).v (tmL ops ev tm0 D ops.size) := by
    rw [tmL_insert hi ops.size hin (fun j h1 h2 _ t htj => ?_), hdst]
    have hoj : ops[j]? = some ops[j] := Array.getElem?_eq_getElem h2
    rw [hdst]
    exact ((draw_pair hok h1 ho hoj).1 t (by simpa [dstOf, hoj] using htj)).2
  have fin : ∀ {w' : World} {ρ1 : Rho} {u : Value}, HRel N w0 (hpL ev (nthO hp0) (fun j => D j ∨ j = i) ops.size) ρ1 w' →
      (∀ x, (hpL ev (nthO hp0) D ops.size x).isSome = true → (hpL ev (nthO hp0) (fun j => D j ∨ j = i) ops.size x).isSome = true ∧ ρ1 x = ρ0 x) →
      (∀ ρ, Agr (hpL ev (nthO hp0) (fun j => D j ∨ j = i) ops.size) ρ ρ1 → u = (ev i).v.den ρ) → K (a.put o.dst u) w' := fun h1 h2 h3 =>
    hn _ _ ⟨_, h1, fun ρ hρ => by rw [htm]; exact put_ok (ht ρ (hρ.sub h2)) o.dst _ (h3 ρ hρ), by rw [put_defers]; exact hd⟩
  have same : (ev i).key = none → hpL ev (nthO hp0) (fun j => D j ∨ j = i) ops.size = hpL ev (nthO hp0) D ops.size := fun hk => by
    rw [hpL_insert hi ops.size hin (fun j _ _ _ p q _ h => by rw [hk] at h; cases h)]
    unfold appH; rw [hk]
  unfold wpOp
  rw [ho]
  change if Region.wanted o (yielded ops a.tmps) = true then _ else _
  -- the blocks that the operation may look into
  have old : reading o.op = true → isStore o.op = false → ∀ ρ, Agr (hpL ev (nthO hp0) D ops.size) ρ ρ0 → ∀ b blk, hfR hp0.length o (f i).al (f i).hp b = some blk → Holds ρ blk b w := fun hrd hnst ρ hρ b blk hb => by
    unfold hfR at hb
    split at hb
    · rename_i hput
      refine hh.holds ρ hρ b blk ?_
      have hbl : b < (f i).hp.length := by rw [nthO_eq] at hb; exact (List.getElem?_eq_some_iff.1 hb).1
      rw [hpL_same (D2 := fun j => j < i) b ops.size (fun j p hj hk hp => ?_), hpL_past (i := i) ops.size (by omega) (fun j h1 h2 => by omega), hpL_same (D2 := fun _ => True) b i (fun j p hj _ _ => ⟨fun _ => trivial, fun _ => hj⟩), ← tr_hp hf0 hs i (by omega)]
      · exact hb
      · have hoj : ops[j]? = some ops[j] := Array.getElem?_eq_getElem hj
        rcases Nat.lt_trichotomy j i with h | h | h
        · refine ⟨fun _ => h, fun _ => ?_⟩
          cases hej : ev j with
          | skip => rw [hej] at hk; cases hk
          | val v => rw [hej] at hk; cases hk
          | new b' n' v' =>
            rw [hej] at hk; cases hk
            simp only at hp
            subst hp
            unfold okPut at hput
            simp only [Bool.or_eq_true, decide_eq_true_eq] at hput
            rcases hput with h4 | h4
            · have := (tr_new hf0 hs hj hej).1
              have := tr_len0 hf0 hs (j := j) (by omega)
              omega
            · rw [tr_al hf0 hs hej i h (by omega)] at h4
              simp only at h4
              unfold waits at h4
              simp only [List.any_eq_true, Bool.and_eq_true, decide_eq_true_eq] at h4
              obtain ⟨e, he, rfl, hbd⟩ := h4
              exact hr e (by simpa using he) hbd
          | put b' c' =>
            have hsj := (tr_put hf0 hs hj hej).2
            exact ((draw_pair hok h hoj ho).2.2.2 hsj hrd).elim
        · subst h; exact ⟨fun h => absurd h hi, fun h => by omega⟩
        · refine ⟨fun hD => ?_, fun h => by omega⟩
          exfalso
          cases hej : ev j with
          | skip => rw [hej] at hk; cases hk
          | val v => rw [hej] at hk; cases hk
          | new b' n' v' =>
            rw [hej] at hk; cases hk
            have h5 := (tr_new hf0 hs hj hej).1
            have h6 := tr_len hf0 hs (i := i) j (by omega) (by omega)
            simp only at hp
            omega
          | put b' c' =>
            have hsj := (tr_put hf0 hs hj hej).2
            rcases tr_late hf0 hs hj hej i o ho h hrd with h6 | ⟨h6, x, hx, hw6⟩
            · exact hi (hc.bf hD h6)
            · rw [hej] at hk; cases hk
              simp only at hp
              subst hp
              unfold okPut at hput
              simp only [Bool.or_eq_true, decide_eq_true_eq] at hput
              rcases hput with h7 | h7
              · omega
              · split at h7
                · rename_i y hy
                  have := tr_almono hf0 hs hbl hy j (by omega) (by omega)
                  rw [hx] at this
                  cases this
                  rw [hw6] at h7; cases h7
                · cases h7
    · cases hb
  cases hev : ev i with
  | skip =>
    rw [hev] at h2
    rw [if_neg (by rw [hw.2 h2.1]; simp)]
    have hsm := same (by rw [hev]; rfl)
    exact fin (by rw [hsm]; exact hh) (fun x hx => by rw [hsm]; exact ⟨hx, rfl⟩) (fun ρ _ => by rw [hev]; rfl)
  | val v =>
    rw [hev] at h2
    obtain ⟨hwt, hnst, -, -, h3⟩ := h2
    rw [if_pos (hw.1 hwt)]
    have hsm := same (by rw [hev]; rfl)
    refine .inl ?_
    unfold Oper.wp
    rcases h3 with h3 | ⟨c, fn, args, p, hop, hcal, hD, hp⟩
    · have hsel : ∀ cs b, o.op ≠ .select cs b := fun cs b e => by rw [e] at h3; simp [eff] at h3
      have hrun : ∀ ρ, Agr (hpL ev (nthO hp0) D ops.size) ρ ρ0 → (execOp a.eval o).run P w = .ok (.value (v.den ρ)) w := fun ρ hρ => by
        rw [exec_ok hok hf0 hs hc ho hi hr hsel (ht ρ hρ)]
        by_cases hrd : reading o.op = true
        · exact eff_val hE.T h3 ρ w (old hrd hnst ρ hρ)
        · rw [eff_blind (by simpa using hrd) hnst _ _ (fun _ => none)] at h3
          exact eff_val hE.T h3 ρ w (fun b blk hb => by cases hb)
      have h0 := hrun ρ0 (Agr.refl _ _)
      rw [h0]
      refine fin (ρ1 := ρ0) (by rw [hsm]; exact hh) (fun x hx => by rw [hsm]; exact ⟨hx, rfl⟩) (fun ρ hρ => ?_)
      rw [hsm] at hρ
      have := hrun ρ hρ
      rw [h0] at this
      rw [hev]
      simpa [Ev.v] using this
    · have hsel : ∀ cs b, o.op ≠ .select cs b := fun cs b e => by rw [e] at hop; cases hop
      have hrd : reading o.op = true := by
        rw [hop]
        unfold callee at hcal
        unfold reading
        cases hce : c.callee with
        | value _ => simp [hce]
        | invoke _ _ => simp [hce]
        | builtin _ => rw [hce] at hcal; cases hcal
      obtain ⟨hf, hpure, hspec⟩ := hE.D fn args _ p v hD
      rw [exec_ok hok hf0 hs hc ho hi hr hsel (ht ρ0 (Agr.refl _ _)), run_call_sx hop hcal hf ρ0 w]
      refine (hspec hp ρ0 w (old hrd hnst ρ0 (Agr.refl _ _))).mono ?_
      rintro e w' ⟨rfl, hb⟩
      exact fin (ρ1 := ρ0) (by rw [hsm]; exact hh.below hb) (fun x hx => by rw [hsm]; exact ⟨hx, rfl⟩) (fun ρ hρ => by
        rw [hev]
        rw [hsm] at hρ
        have h2 := congrArg (fun x => x.run P w) ((exec_ok hok hf0 hs hc ho hi hr hsel (ht ρ0 (Agr.refl _ _))).symm.trans (exec_ok hok hf0 hs hc ho hi hr hsel (ht ρ hρ)))
        have h3 := (run_call_sx hop hcal hf ρ0 w).symm.trans (h2.trans (run_call_sx hop hcal hf ρ w))
        exact hpure _ _ (by simpa using h3))
  | new b n v =>
    rw [hev] at h2
    obtain ⟨hwt, hnst, hnl, -, -, g, h3, rfl⟩ := h2
    rw [if_pos (hw.1 hwt)]
    refine .inl ?_
    unfold Oper.wp
    have hsel : ∀ cs b, o.op ≠ .select cs b := fun cs b e => by rw [e] at h3; simp [eff] at h3
    obtain ⟨val, h0, hro, hval⟩ := eff_new hE.T h3 ρ0 w
    rw [← exec_ok hok hf0 hs hc ho hi hr hsel (ht ρ0 (Agr.refl _ _))] at h0
    have hL : ∀ ρ, Agr (hpL ev (nthO hp0) D ops.size) ρ ρ0 → cellsL ρ b.cs = cellsL ρ0 b.cs := fun ρ hρ => by
      obtain ⟨val', h1, -⟩ := eff_new hE.T h3 ρ w
      rw [← exec_ok hok hf0 hs hc ho hi hr hsel (ht ρ hρ), h0] at h1
      simp only [Result.ok.injEq] at h1
      have := congrArg (fun W => W.heap[w.heap.size]?) h1.2
      simp only [heap_alloc_new] at this
      simpa using this.symm
    have hnone : hpL ev (nthO hp0) D ops.size n = none := by
      rw [hpL_same (D2 := fun _ => False) n ops.size (fun j p hj hk hp => ⟨fun hD => ?_, False.elim⟩), hpL_none]
      · have := tr_len0 hf0 hs (j := i) (by omega)
        rw [nthO_eq, List.getElem?_eq_none (by omega)]
      · by_cases hji : j = i
        · subst hji; exact hi hD
        · exact not_put_new hok hf0 hs hc hin hi hev hj hji hk hp hD
    have hins : hpL ev (nthO hp0) (fun j => D j ∨ j = i) ops.size = upF (hpL ev (nthO hp0) D ops.size) n b := by
      rw [hpL_insert hi ops.size hin (fun j h1 h2 hD p q hk hq e => ?_), hev]
      · rfl
      · rw [hev] at hq
        cases hq
        exact not_put_new hok hf0 hs hc hin hi hev h2 (by omega) hk e hD
    rw [h0]
    refine fin (ρ1 := upR ρ0 n (w.heap.size, 0)) (by rw [hins]; exact hh.new hnone hro hL) (fun x hx => by rw [hins]; exact up_agr hnone x hx) (fun ρ hρ => ?_)
    rw [hev]
    refine (hval ρ n ?_).symm
    rw [hins] at hρ
    rw [hρ n (by unfold upF; rw [if_pos rfl]; rfl)]
    unfold upR; rw [if_pos rfl]
  | put b c =>
    rw [hev] at h2
    obtain ⟨hwt, hst2, -, -, blk, cs, hb, rfl, h3, h4⟩ := h2
    rw [if_pos (hw.1 hwt)]
    refine .inl ?_
    unfold Oper.wp
    have hsel : ∀ cs b, o.op ≠ .select cs b := fun cs b e => by rw [e] at h3; simp [eff] at h3
    have hbl : b < (f i).hp.length := by rw [nthO_eq] at hb; exact (List.getElem?_eq_some_iff.1 hb).1
    have hput : ∀ {j : Nat} (hj : j < ops.size) {p : Nat × Blk}, (ev j).key = some p → p.1 = b → i < j → ¬ D j := fun {j} hj {p} hk hp hij hD => by
      have hoj : ops[j]? = some ops[j] := Array.getElem?_eq_getElem hj
      cases hej : ev j with
      | skip => rw [hej] at hk; cases hk
      | val v => rw [hej] at hk; cases hk
      | new b' n' v' =>
        rw [hej] at hk; cases hk
        have h5 := (tr_new hf0 hs hj hej).1
        have h6 := tr_len hf0 hs (i := i) j (by omega) (by omega)
        simp only at hp
        omega
      | put b' c' =>
        have hsj := (tr_put hf0 hs hj hej).2
        exact hi (hc.bf hD ((draw_pair hok hij ho hoj).2.2.1 hsj hst2))
    have hcur : hpL ev (nthO hp0) D ops.size b = some blk := by
      rw [hpL_same (D2 := fun j => j < i) b ops.size (fun j p hj hk hp => ?_), hpL_past (i := i) ops.size (by omega) (fun j h1 h2 => by omega), hpL_same (D2 := fun _ => True) b i (fun j p hj _ _ => ⟨fun _ => trivial, fun _ => hj⟩), ← tr_hp hf0 hs i (by omega)]
      · exact hb
      · have hoj : ops[j]? = some ops[j] := Array.getElem?_eq_getElem hj
        rcases Nat.lt_trichotomy j i with h | h | h
        · refine ⟨fun _ => h, fun _ => ?_⟩
          cases hej : ev j with
          | skip => rw [hej] at hk; cases hk
          | val v => rw [hej] at hk; cases hk
          | new b' n' v' =>
            rw [hej] at hk; cases hk
            simp only at hp
            subst hp
            rcases h4 with h4 | ⟨k, h4, h5⟩
            · have := (tr_new hf0 hs hj hej).1
              have := tr_len0 hf0 hs (j := j) (by omega)
              omega
            · rw [tr_al hf0 hs hej i h (by omega)] at h4
              cases h4
              unfold waits at h5
              simp only [List.any_eq_true, Bool.and_eq_true, decide_eq_true_eq] at h5
              obtain ⟨e, he, rfl, hbd⟩ := h5
              exact hr e (by simpa using he) hbd
          | put b' c' =>
            have hsj := (tr_put hf0 hs hj hej).2
            have := (draw_pair hok h hoj ho).2.2.1 hst2 hsj
            exact ((hc.ready ho hr).bf (.inr rfl) this).resolve_right (by omega)
        · subst h; exact ⟨fun h => absurd h hi, fun h => by omega⟩
        · exact ⟨fun hD => absurd hD (hput hj hk hp h), fun h => by omega⟩
    obtain ⟨blk', off, l, hb', hro, -, hrun⟩ := eff_put hE.T h3
    rw [hb] at hb'
    cases hb'
    have key : ∀ ρ, Agr (hpL ev (nthO hp0) D ops.size) ρ ρ0 → (execOp a.eval o).run P w = .ok .skip (w.setCells (ρ0 b).1 off (cellsL ρ l)) ∧ ∃ t : List Value, t.length = blk.tl ∧ (w.setCells (ρ0 b).1 off (cellsL ρ l)).heap[(ρ0 b).1]? = some (.cells (cellsL ρ cs ++ t).toArray blk.ty (0, 0)) := fun ρ hρ => by
      have := hrun ρ w (hh.holds ρ hρ b blk hcur)
      rw [hρ b (by rw [hcur]; rfl), ← exec_ok hok hf0 hs hc ho hi hr hsel (ht ρ hρ)] at this
      exact this
    obtain ⟨h0, -⟩ := key ρ0 (Agr.refl _ _)
    have hput2 := hh.put (cs := cs) (M := cellsL ρ0 l) (off := off) hcur hro (fun ρ hρ => by
      obtain ⟨h1, hk1⟩ := key ρ hρ
      rw [h0] at h1
      simp only [Result.ok.injEq, true_and] at h1
      rw [h1]; exact hk1)
    have hins : hpL ev (nthO hp0) (fun j => D j ∨ j = i) ops.size = upF (hpL ev (nthO hp0) D ops.size) b { ty := blk.ty, ro := blk.ro, cs := cs, tl := blk.tl } := by
      rw [hpL_insert hi ops.size hin (fun j h1 h2 hD p q hk hq e => ?_), hev]
      · rfl
      · rw [hev] at hq
        cases hq
        exact hput h2 hk e h1 hD
    rw [h0]
    refine fin (ρ1 := ρ0) (by rw [hins]; exact hput2) (fun x hx => ?_) (fun ρ _ => by rw [hev]; rfl)
    rw [hins]
    unfold upF
    split
    · exact ⟨rfl, rfl⟩
    · exact ⟨hx, rfl⟩
end
end Go.Proofs.YthmdmbpecgakkaaDoor

namespace Go.Proofs.YthmdmbpecgakkaaDoor
open Go

section
variable {P : Program} {h : Array Oper} {ol : Oper} {Q : Exit → Act → World → Prop} {md : Region.Mode}

/-- behind the others: the last operation -/
def endQ (P : Program) (ol : Oper) (Q : Exit → Act → World → Prop) : Exit → Act → World → Prop
  | .normal, a, w => ol.wp P a w (Q .normal) Q
  | .panic c, a, w => Q (.panic c) a w
  | .outgrown, a, w => Q .outgrown a w
  | _, _, _ => False

theorem upon_two {o : Oper} {a : Act} {K K' : Act → World → Prop} {Q Q' : Exit → Act → World → Prop} {r : Result Next} (hK : ∀ a w, K a w → K' a w)
    (hQ : ∀ c a w, Q (.panic c) a w → Q' (.panic c) a w) (hO : LetsOut Q → LetsOut Q') (hh : o.upon P a K Q r) : o.upon P a K' Q' r := by
  cases r with
  | ok n w' =>
    cases n <;> simp only [Oper.upon] at hh ⊢ <;>
      first
        | exact hK _ _ hh
        | exact Calls.mono hh (fun e w'' he => by cases e <;> first | exact hK _ _ he | exact hQ _ _ _ he | exact hO he)
        | exact Rows.mono hh (fun _ _ he => hK _ _ he)
  | halt x w' => cases x <;> simp only [Oper.upon] at hh ⊢ <;> first | exact hQ _ _ _ hh | exact hh

theorem getD_push_false (l : Array Bool) (j : Nat) : (l.push false).getD j false = l.getD j false := by
  rcases Nat.lt_trichotomy j l.size with h | h | h
  · simp [Array.getElem?_push, Nat.ne_of_lt h]
  · subst h; simp
  · simp [Array.getElem?_push, Nat.ne_of_gt h]
theorem getD_push_true (l : Array Bool) {j : Nat} (h : j < l.size) : (l.push false).getD j true = l.getD j true := by
  simp [Array.getElem?_push, Nat.ne_of_lt h]

/-- each operation waits for earlier ones alone -/
def downB (ops : Array Oper) : Bool := (List.range ops.size).all fun i => match ops[i]? with | some o => o.after.all fun e => decide (e.on < i) | none => true

theorem downB_spec {ops : Array Oper} (hd : downB ops = true) {i : Nat} {o : Oper} (ho : ops[i]? = some o) : ∀ e ∈ o.after, e.on < i := by
  intro e he
  have h1 := List.all_eq_true.1 hd i (List.mem_range.2 (Array.getElem?_eq_some_iff.1 ho).1)
  rw [ho] at h1
  have h2 := Array.all_eq_true_iff_forall_mem.1 h1 e he
  simpa using h2

/-- guards look at earlier operations alone -/
def guardB (ops : Array Oper) : Bool := ops.all fun o => match o.guard with | some (j, _) => decide (j < ops.size) | none => true

theorem wanted_push (hg : guardB h = true) {o : Oper} (ho : o ∈ h) (tmps : Array Value) : Region.wanted o (yielded (h.push ol) tmps) = Region.wanted o (yielded h tmps) := by
  have h1 := Array.all_eq_true_iff_forall_mem.1 hg o ho
  unfold Region.wanted
  split
  · rfl
  · rename_i j want hgd
    rw [hgd] at h1
    have : j < h.size := by simpa using h1
    unfold yielded
    rw [Array.getElem?_push, if_neg (Nat.ne_of_lt this)]

theorem inv_push {listed : Array Bool} (hs : listed.size = h.size) (hc : ∀ j oj, h[j]? = some oj → listed.getD j false = true → ∀ e ∈ oj.after, Region.binds md e = true → listed.getD e.on false = true) :
    HeadInv md (h.push ol) h.size (listed.push false) := by
  refine ⟨by simp [hs], fun j oj hj hl e he hb => ?_, fun t ht ht' => ?_⟩
  · rw [getD_push_false] at hl ⊢
    rw [Array.getElem?_push] at hj
    split at hj
    · rename_i hjn
      subst hjn
      rw [← hs] at hl
      simp at hl
    · exact hc j oj hj hl e he hb
  · have : t = listed.size := by simp at ht'; omega
    subst this; simp

theorem ready_head {listed : Array Bool} (hs : listed.size = h.size) {i : Nat} (hi : i < h.size) : i ∈ Region.ready md (h.push ol) (listed.push false) ↔ i ∈ Region.ready md h listed := by
  rw [mem_ready, mem_ready, getD_push_true _ (by omega), Array.getElem?_push, if_neg (Nat.ne_of_lt hi)]
  simp only [getD_push_false]

theorem all_listed (hdown : downB (h.push ol) = true) {listed : Array Bool} (hs : listed.size = h.size) (hr : Region.ready md h listed = []) : ∀ i, i < h.size → listed.getD i true = true := by
  intro i
  induction i using Nat.strongRecOn with
  | _ i ih =>
    intro hi
    cases hl : listed.getD i true with
    | true => rfl
    | false =>
      have hhi : h[i]? = some h[i] := Array.getElem?_eq_getElem hi
      have hpi : (h.push ol)[i]? = some h[i] := by rw [Array.getElem?_push, if_neg (Nat.ne_of_lt hi)]; exact hhi
      have : i ∈ Region.ready md h listed := mem_ready.2 ⟨hl, _, hhi, fun e he _ => by
        have hlt := downB_spec hdown hpi e he
        have := ih e.on hlt (by omega)
        have hb : e.on < listed.size := by omega
        simp only [Array.getD_eq_getD_getElem?, Array.getElem?_eq_getElem hb, Option.getD_some] at this ⊢
        exact this⟩
      rw [hr] at this
      cases this

theorem wpAny_sink_last (hdown : downB (h.push ol) = true) (hog : ol.guard = none) {listed : Array Bool} {a : Act} {w : World} (hs : listed.size = h.size)
    (hr : Region.ready md h listed = []) (hq : endQ P ol Q .normal a w) (f : Nat) : wpAny P md (h.push ol) Q (f + 1) (listed.push false) a w := by
  have hall := all_listed hdown hs hr
  have hol : (h.push ol)[h.size]? = some ol := by simp
  have honly : ∀ i ∈ Region.ready md (h.push ol) (listed.push false), i = h.size := by
    intro i hi
    have hlt : i < h.size + 1 := by
      obtain ⟨_, o, ho, _⟩ := mem_ready.1 hi
      have := (Array.getElem?_eq_some_iff.1 ho).1
      simpa using this
    by_cases hin : i < h.size
    · have h1 := (mem_ready.1 ((ready_head hs hin).1 hi)).1
      rw [hall i hin] at h1
      cases h1
    · omega
  have hmem : h.size ∈ Region.ready md (h.push ol) (listed.push false) := mem_ready.2 ⟨by rw [← hs]; simp, ol, hol, fun e he _ => by
    have hlt := downB_spec hdown hol e he
    rw [getD_push_false]
    have := hall e.on hlt
    have hb : e.on < listed.size := by omega
    simp only [Array.getD_eq_getD_getElem?, Array.getElem?_eq_getElem hb, Option.getD_some] at this ⊢
    exact this⟩
  refine ⟨fun h0 => (by rw [h0] at hmem; cases hmem), fun i hi => ?_⟩
  have := honly i hi
  subst this
  unfold wpOp
  rw [hol]
  change if Region.wanted ol (yielded (h.push ol) a.tmps) = true then _ else _
  have hw : Region.wanted ol (yielded (h.push ol) a.tmps) = true := by unfold Region.wanted; rw [hog]
  rw [if_pos hw]
  refine Or.inl (Oper.wp_mono (fun a' w' hq' => wpAny_done (List.eq_nil_iff_forall_not_mem.2 fun j hj => ?_) hq' f) hq)
  obtain ⟨h1, o, ho, _⟩ := mem_ready.1 hj
  by_cases hjn : j = h.size
  · subst hjn
    rw [← hs] at h1
    simp at h1
  · rw [getD_set_ne true (fun e => hjn e.symm)] at h1
    have hlt : j < h.size + 1 := by
      have := (Array.getElem?_eq_some_iff.1 ho).1
      simpa using this
    rw [getD_push_true _ (by omega), hall j (by omega)] at h1
    cases h1

theorem wpAny_sink (hsink : Region.sinkB md (h.push ol) h.size = true) (hdown : downB (h.push ol) = true) (hg : guardB h = true) (hog : ol.guard = none) :
    ∀ (f : Nat) (listed : Array Bool) (a : Act) (w : World), listed.size = h.size →
      (∀ j oj, h[j]? = some oj → listed.getD j false = true → ∀ e ∈ oj.after, Region.binds md e = true → listed.getD e.on false = true) →
      wpAny P md h (endQ P ol Q) f listed a w → wpAny P md (h.push ol) Q (f + 1) (listed.push false) a w := by
  have hchain : Region.chainB md (h.push ol) h.size = true := by
    unfold Region.chainB
    rw [List.all_eq_true]
    intro t ht
    have : t ≤ h.size := by have := List.mem_range.1 ht; simp at this; omega
    simp [this]
  have hol : (h.push ol)[h.size]? = some ol := by simp
  intro f
  induction f with
  | zero =>
    intro listed a w hs hc hw
    exact wpAny_sink_last hdown hog hs hw.1 hw.2 0
  | succ f ih =>
    intro listed a w hs hc hw
    by_cases hr : Region.ready md h listed = []
    · exact wpAny_sink_last hdown hog hs hr (hw.1 hr) _
    · obtain ⟨i0, hi0⟩ := List.exists_mem_of_ne_nil _ hr
      have hi0lt : i0 < h.size := by
        obtain ⟨_, o, ho, _⟩ := mem_ready.1 hi0
        exact (Array.getElem?_eq_some_iff.1 ho).1
      have hinv := inv_push (ol := ol) hs hc
      have hun : (listed.push false).getD i0 true = false := by rw [getD_push_true _ (by omega)]; exact (mem_ready.1 hi0).1
      have hnot := tail_waits hsink hchain (by simp) hinv _ i0 rfl hi0lt hun
      refine ⟨fun h0 => ?_, fun i hi => ?_⟩
      · have := (ready_head (ol := ol) hs hi0lt).2 hi0
        rw [h0] at this
        cases this
      · have hin : i < h.size := Nat.lt_of_not_le fun hle => hnot i hle hi
        have hi' := (ready_head hs hin).1 hi
        have h1 := hw.2 i hi'
        have hset : (listed.push false).setIfInBounds i true = (listed.setIfInBounds i true).push false := by
          apply Array.ext
          · simp
          · intro j h1 h2
            rw [Array.getElem_setIfInBounds (by simpa using h1)]
            simp only [Array.getElem_push, Array.size_setIfInBounds]
            by_cases hij : i = j
            · subst hij
              rw [if_pos rfl, dif_pos (by omega), Array.getElem_setIfInBounds (by omega), if_pos rfl]
            · rw [if_neg hij]
              split
              · rw [Array.getElem_setIfInBounds (by omega), if_neg hij]
              · rfl
        rw [hset]
        have hnext : ∀ a' w', wpAny P md h (endQ P ol Q) f (listed.setIfInBounds i true) a' w' → wpAny P md (h.push ol) Q (f + 1) ((listed.setIfInBounds i true).push false) a' w' := by
          intro a' w' h'
          refine ih _ _ _ (by simp [hs]) (fun j oj hj hl e he hb => ?_) h'
          by_cases hij : i = j
          · subst hij
            obtain ⟨_, oi, hoi, hall⟩ := mem_ready.1 hi'
            have : oj = oi := Option.some.inj (hj.symm.trans hoi)
            subst this
            exact getD_set_true (hall e he hb)
          · rw [getD_set_ne false hij] at hl
            exact getD_set_true (hc j oj hj hl e he hb)
        have hhi : h[i]? = some h[i] := Array.getElem?_eq_getElem hin
        have hpi : (h.push ol)[i]? = some h[i] := by rw [Array.getElem?_push, if_neg (Nat.ne_of_lt hin)]; exact hhi
        unfold wpOp at h1 ⊢
        rw [hpi]
        rw [hhi] at h1
        change if Region.wanted h[i] (yielded (h.push ol) a.tmps) = true then _ else _
        change if Region.wanted h[i] (yielded h a.tmps) = true then _ else _ at h1
        rw [show Region.wanted h[i] (yielded (h.push ol) a.tmps) = Region.wanted h[i] (yielded h a.tmps) from wanted_push hg (Array.getElem_mem hin) _]
        revert h1
        split
        · rintro (h1 | h1)
          · exact .inl (upon_two hnext (fun _ _ _ h => h) (fun h => h) h1)
          · exact .inr h1
        · exact hnext _ _

/-- the region's walk begins with the others alone -/
theorem wp_region_sink {ops : Array Oper} {S : World → Prop} {id n : Nat} {a : Act} {w : World} (hm : P.follows .mixedOrders = true) (hops : ops = h.push ol) (hn : n = h.size)
    (hb : (Region.sinkB .any (h.push ol) h.size && downB (h.push ol) && guardB h) = true) (hog : ol.guard = none) (hS : S w.drew)
    (hw : S w.drew → wpAnyH P .any h (endQ P ol Q) S n (Array.replicate n false) a w.drew) : (Code.region id ops true).wp P Q a w := by
  subst hops; subst hn
  simp only [Bool.and_eq_true] at hb
  refine wp_region_any hm ?_
  rw [Array.size_push, Array.replicate_succ]
  exact wpAny_sink hb.1.1 hb.1.2 hb.2 hog _ _ _ _ (by simp) (fun j oj _ hl => by rw [getD_replicate_false] at hl; cases hl) (wpAny_of_held _ _ _ _ (hw hS))
theorem pop_push {ops : Array Oper} {n : Nat} (hn : ops.size = n + 1) (ho : ops[n]? = some ol) : ops = ops.pop.push ol := by
  have h1 : ops[n]'(by omega) = ol := by rw [Array.getElem?_eq_getElem (by omega)] at ho; exact Option.some.inj ho
  apply Array.ext
  · simp; omega
  · intro j h2 h3
    rw [Array.getElem_push]
    split
    · simp
    · rename_i hj
      simp at hj h3
      have : j = n := by omega
      subst this
      exact h1
/-- the region, its last operation apart -/
theorem wp_region_last {ops : Array Oper} {S : World → Prop} {id : Nat} (n : Nat) {a : Act} {w : World} (hm : P.follows .mixedOrders = true) (hn : ops.size = n + 1) (ho : ops[n]? = some ol)
    (hb : (Region.sinkB .any (ops.pop.push ol) n && downB (ops.pop.push ol) && guardB ops.pop) = true) (hog : ol.guard = none) (hS : S w.drew)
    (hw : S w.drew → wpAnyH P .any ops.pop (endQ P ol Q) S n (Array.replicate n false) a w.drew) : (Code.region id ops true).wp P Q a w := by
  have hsz : n = ops.pop.size := by simp; omega
  refine wp_region_sink hm (pop_push hn ho) hsz ?_ hog hS hw
  rw [← hsz]; exact hb
/-- the steps, at a region's operations as a list -/
theorem take_l {l : List Oper} {S : World → Prop} (i : Nat) {oi : Oper} {v : Value} {fuel : Nat} {listed : Array Bool} {a : Act} {w : World} (hi : l[i]? = some oi)
    (hs : Region.noSelect l.toArray = true) (hf : Region.free md l.toArray listed i = true) (hr : (Region.ready md l.toArray listed).contains i = true)
    (hQ : ∀ c a w, Q (.panic c) (a.put oi.dst v) w → Q (.panic c) a w) (hw : Region.wanted oi (yielded l.toArray a.tmps) = true) (hy : ∀ w, S w → (execOp a.eval oi).run P w = .ok (.value v) w) (hS : S w)
    (hh : wpAnyH P md l.toArray Q S fuel (listed.setIfInBounds i true) (a.put oi.dst v) w) : wpAnyH P md l.toArray Q S (fuel + 1) listed a w :=
  wpAnyH_take (by simpa using hi) hs hf hr hQ (.inl ⟨hw, hy⟩) hS hh
theorem call_l {l : List Oper} {S : World → Prop} (i : Nat) {o : Oper} {fuel : Nat} {listed : Array Bool} {a : Act} {w : World} (ho : l[i]? = some o)
    (hr : Region.ready md l.toArray listed = [i])
    (hh : ∀ K' : Act → World → Prop, Shut (∀ a w, S w → (S w → wpAnyH P md l.toArray Q S fuel (listed.setIfInBounds i true) a w) → K' a w) → if Region.wanted o (yielded l.toArray a.tmps) = true then Oper.wp P o a w K' Q else K' (a.put o.dst undef) w) :
    wpAnyH P md l.toArray Q S (fuel + 1) listed a w :=
  wpAnyH_ready hr (by simp) (AllReadyH.cons (by simpa using ho) hh AllReadyH.nil)
theorem fork_l {l : List Oper} {S : World → Prop} (i j : Nat) {oi oj : Oper} {fuel : Nat} {listed : Array Bool} {a : Act} {w : World} (hi : l[i]? = some oi) (hj : l[j]? = some oj)
    (hr : Region.ready md l.toArray listed = [i, j])
    (h1 : ∀ K' : Act → World → Prop, Shut (∀ a w, S w → (S w → wpAnyH P md l.toArray Q S fuel (listed.setIfInBounds i true) a w) → K' a w) → if Region.wanted oi (yielded l.toArray a.tmps) = true then Oper.wp P oi a w K' Q else K' (a.put oi.dst undef) w)
    (h2 : ∀ K' : Act → World → Prop, Shut (∀ a w, S w → (S w → wpAnyH P md l.toArray Q S fuel (listed.setIfInBounds j true) a w) → K' a w) → if Region.wanted oj (yielded l.toArray a.tmps) = true then Oper.wp P oj a w K' Q else K' (a.put oj.dst undef) w) :
    wpAnyH P md l.toArray Q S (fuel + 1) listed a w :=
  wpAnyH_ready hr (by simp) (AllReadyH.cons (by simpa using hi) h1 (AllReadyH.cons (by simpa using hj) h2 AllReadyH.nil))
theorem last_l {l : List Oper} {S : World → Prop} {id : Nat} (n : Nat) {a : Act} {w : World} (hm : P.follows .mixedOrders = true) (hn : l.toArray.size = n + 1) (ho : l[n]? = some ol)
    (hb : (Region.sinkB .any (l.dropLast.toArray.push ol) n && downB (l.dropLast.toArray.push ol) && guardB l.dropLast.toArray) = true) (hog : ol.guard = none) (hS : S w.drew)
    (hw : S w.drew → wpAnyH P .any l.dropLast.toArray (endQ P ol Q) S n (Array.replicate n false) a w.drew) : (Code.region id l.toArray true).wp P Q a w :=
  wp_region_last n hm hn (by simpa using ho) (by simpa using hb) hog hS (fun h => by simpa using hw h)
/-- the last operation, as the walk's steps take it -/
theorem endQ_of {a : Act} {w : World} (hh : ol.wp P a w (Q .normal) Q) : endQ P ol Q .normal a w := hh
end
end Go.Proofs.YthmdmbpecgakkaaDoor

namespace Go.Proofs.YthmdmbpecgakkaaDoor
open Go.RowKit

def nF : List Bool → Nat
  | [] => 0
  | b :: l => (if b = true then 0 else 1) + nF l
theorem nF_set : ∀ (l : List Bool) (i : Nat), l[i]? = some false → nF (l.set i true) + 1 = nF l
  | [], i, h => by simp at h
  | b :: l, 0, h => by simp at h; subst h; simp [nF]; omega
  | b :: l, i + 1, h => by
    have := nF_set l i (by simpa using h)
    simp only [List.set_cons_succ, nF]
    omega
theorem nF_zero : ∀ {l : List Bool}, nF l = 0 → ∀ i : Nat, l[i]? ≠ some false
  | [], _, i => by simp
  | b :: l, h, i => by
    simp only [nF] at h
    cases i with
    | zero => cases b <;> simp at h ⊢
    | succ i => simpa using nF_zero (by omega : nF l = 0) i
theorem tmL_congr {ops : Array Oper} {ev : Nat → Ev} {tm0 : List SV} {D D2 : Nat → Prop} : ∀ k, (∀ j, j < k → (D j ↔ D2 j)) → tmL ops ev tm0 D k = tmL ops ev tm0 D2 k
  | 0, _ => rfl
  | k + 1, h => by
    have ih := tmL_congr (ops := ops) (ev := ev) (tm0 := tm0) k (fun j hj => h j (by omega))
    have hk := h k (by omega)
    unfold tmL
    by_cases h1 : D k
    · rw [if_pos h1, if_pos (hk.1 h1), ih]
    · rw [if_neg h1, if_neg (fun h => h1 (hk.2 h)), ih]
theorem hpL_congr {ev : Nat → Ev} {h0 : Nat → Option Blk} {D D2 : Nat → Prop} : ∀ k, (∀ j, j < k → (D j ↔ D2 j)) → hpL ev h0 D k = hpL ev h0 D2 k
  | 0, _ => rfl
  | k + 1, h => by
    have ih := hpL_congr (ev := ev) (h0 := h0) k (fun j hj => h j (by omega))
    have hk := h k (by omega)
    unfold hpL
    by_cases h1 : D k
    · rw [if_pos h1, if_pos (hk.1 h1), ih]
    · rw [if_neg h1, if_neg (fun h => h1 (hk.2 h)), ih]
section
variable {P : Program} {E : Env} (hE : EOk P E)
include hE
theorem draw_any {ops : Array Oper} (hok : okDraw ops = true) {hp0 : List Blk} {tm0 : List SV} {f : Nat → S} {ev : Nat → Ev} (hf0 : f 0 = ⟨[], tm0, hp0⟩)
    (hs : ∀ k o, ops[k]? = some o → StepR E ops hp0 o k (f k) (ev k) (f (k + 1))) {N : Nat} {w0 : Base} {Q : Exit → Act → World → Prop}
    (hQ : ∀ a w, RelS N w0 (f ops.size).tm (f ops.size).hp a w → Q .normal a w) :
    ∀ (fuel : Nat) (listed : Array Bool) (a : Act) (w : World), listed.size = ops.size → Closed ops (fun k => listed.getD k false = true) → nF listed.toList ≤ fuel →
      InvD N w0 ops ev tm0 hp0 (fun k => listed.getD k false = true) a w → wpAny P .any ops Q fuel listed a w := by
  have fin : ∀ (listed : Array Bool) (a : Act) (w : World), listed.size = ops.size → Region.ready .any ops listed = [] → InvD N w0 ops ev tm0 hp0 (fun k => listed.getD k false = true) a w → Q .normal a w := by
    intro listed a w hsz hr hinv
    have hall : ∀ i, i < ops.size → listed.getD i false = true := by
      intro i
      induction i using Nat.strongRecOn with
      | _ i ih =>
        intro hi
        have hoi : ops[i]? = some ops[i] := Array.getElem?_eq_getElem hi
        cases hl : listed.getD i true with
        | true =>
          have : i < listed.size := by omega
          simp only [Array.getD_eq_getD_getElem?, Array.getElem?_eq_getElem this, Option.getD_some] at hl ⊢
          exact hl
        | false =>
          have : i ∈ Region.ready .any ops listed := mem_ready.2 ⟨hl, _, hoi, fun e he hb => ih e.on (draw_edges hok hoi he hb) (by have := draw_edges hok hoi he hb; omega)⟩
          rw [hr] at this
          cases this
    obtain ⟨ρ0, hh, ht, hd⟩ := hinv
    have e1 : hpL ev (nthO hp0) (fun k => listed.getD k false = true) ops.size = nthO (f ops.size).hp := by
      rw [hpL_congr (D2 := fun _ => True) ops.size (fun j hj => ⟨fun _ => trivial, fun _ => hall j hj⟩), tr_hp hf0 hs _ (Nat.le_refl _)]
    have e2 : tmL ops ev tm0 (fun k => listed.getD k false = true) ops.size = (f ops.size).tm := by
      rw [tmL_congr (D2 := fun _ => True) ops.size (fun j hj => ⟨fun _ => trivial, fun _ => hall j hj⟩), tr_tm hf0 hs _ (Nat.le_refl _)]
    rw [e1] at hh ht
    rw [e2] at ht
    exact hQ a w ⟨ρ0, hh, ht, hd⟩
  intro fuel
  induction fuel with
  | zero =>
    intro listed a w hsz hc hn hinv
    have hr : Region.ready .any ops listed = [] := by
      refine List.eq_nil_iff_forall_not_mem.2 fun i hi => ?_
      obtain ⟨h1, o, ho, -⟩ := mem_ready.1 hi
      have hin : i < listed.size := by have := (Array.getElem?_eq_some_iff.1 ho).1; omega
      simp only [Array.getD_eq_getD_getElem?, Array.getElem?_eq_getElem hin, Option.getD_some] at h1
      exact nF_zero (Nat.le_zero.1 hn) i (by simp [Array.getElem?_eq_getElem hin, h1])
    exact ⟨hr, fin listed a w hsz hr hinv⟩
  | succ fuel ih =>
    intro listed a w hsz hc hn hinv
    refine ⟨fun hr => fin listed a w hsz hr hinv, fun i hi => ?_⟩
    obtain ⟨h1, o, ho, hall⟩ := mem_ready.1 hi
    have hin : i < listed.size := by have := (Array.getElem?_eq_some_iff.1 ho).1; omega
    have h1' : listed[i] = false := by simpa only [Array.getD_eq_getD_getElem?, Array.getElem?_eq_getElem hin, Option.getD_some] using h1
    have hnD : ¬ (listed.getD i false = true) := by simp only [Array.getD_eq_getD_getElem?, Array.getElem?_eq_getElem hin, Option.getD_some, h1']; simp
    have hD' : (fun k => (listed.setIfInBounds i true).getD k false = true) = (fun k => listed.getD k false = true ∨ k = i) := by
      funext k
      apply propext
      by_cases hk : k = i
      · subst hk
        simp [Array.getD_eq_getD_getElem?, hin]
      · simp only [Array.getD_eq_getD_getElem?, Array.getElem?_setIfInBounds, hk, or_false]
        rw [if_neg (fun e => hk e.symm)]
    refine draw_step hE hok hf0 hs hc ho hnD hall hinv fun a' w' hinv' => ?_
    refine ih _ a' w' (by simpa using hsz) ?_ ?_ ?_
    · rw [hD']; exact hc.ready ho hall
    · have := nF_set listed.toList i (by simp [Array.getElem?_eq_getElem hin, h1'])
      simp only [Array.toList_setIfInBounds]
      omega
    · rw [hD']; exact hinv'
theorem vcDs_any {ops : Array Oper} (hok : okDraw ops = true) {tm : List SV} {hp : List Blk} {K : List SV → List Blk → Prop} (h : vcDs E ops hp ops.toList 0 [] tm hp K)
    {N : Nat} {w0 : Base} {a : Act} {w : World} (hr : RelS N w0 tm hp a w) {Q : Exit → Act → World → Prop} (hQ : ∀ tm' hp' a' w', K tm' hp' → RelS N w0 tm' hp' a' w' → Q .normal a' w') :
    wpAny P .any ops Q ops.size (Array.replicate ops.size false) a w := by
  obtain ⟨f, ev, hf0, hs, hK⟩ := vcDs_trace ops.toList 0 ⟨[], tm, hp⟩ h
  have hs' : ∀ k o, ops[k]? = some o → StepR E ops hp o k (f k) (ev k) (f (k + 1)) := fun k o ho => by
    have := hs k o (by simpa using ho)
    rw [Nat.zero_add] at this
    exact this
  have hl : ops.toList.length = ops.size := by simp
  rw [hl] at hK
  have hD : (fun k => (Array.replicate ops.size false).getD k false = true) = (fun _ => False) := by
    funext k
    apply propext
    simp [Array.getD_eq_getD_getElem?, Array.getElem?_replicate]
    split <;> simp
  have hn : ∀ n, nF (List.replicate n false) = n := fun n => by
    induction n with
    | zero => rfl
    | succ n ih => simp only [List.replicate_succ, nF, ih]; simp; omega
  refine draw_any hE hok hf0 hs' (fun a' w' hr' => hQ _ _ _ _ hK hr') ops.size _ _ _ (by simp) ?_ (by simp [hn]) ?_
  · rw [hD]; exact fun k o _ hk => hk.elim
  · rw [hD]
    obtain ⟨ρ0, hh, ht, hd⟩ := hr
    refine ⟨ρ0, ?_, fun ρ hρ => ?_, hd⟩
    · rw [hpL_none]
      exact hh
    · rw [hpL_none] at hρ
      rw [tmL_past (i := 0) ops.size (Nat.zero_le _) (fun _ _ h => h)]
      exact ht ρ hρ
end
/-- behind the operations that draw: the others, one after the other -/
def chainQ (P : Program) : List Oper → (Exit → Act → World → Prop) → Exit → Act → World → Prop
  | [], Q => Q
  | o :: l, Q => endQ P o (chainQ P l Q)
def sufB : List Oper → List Oper → Bool
  | _, [] => true
  | pre, o :: l => (Region.sinkB .any (pre.toArray.push o) pre.toArray.size && downB (pre.toArray.push o) && guardB pre.toArray && o.guard.isNone) && sufB (pre ++ [o]) l
theorem replicate_push (n : Nat) : (Array.replicate n false).push false = Array.replicate (n + 1) false := by
  rw [Array.replicate_succ]
theorem wp_suf {P : Program} : ∀ (suf pre : List Oper), sufB pre suf = true → ∀ {Q : Exit → Act → World → Prop} {a : Act} {w : World},
    wpAny P .any pre.toArray (chainQ P suf Q) pre.toArray.size (Array.replicate pre.toArray.size false) a w → wpAny P .any (pre ++ suf).toArray Q (pre ++ suf).toArray.size (Array.replicate (pre ++ suf).toArray.size false) a w
  | [], pre, _, Q, a, w, h => by rw [List.append_nil]; exact h
  | o :: l, pre, hs, Q, a, w, h => by
    simp only [sufB, Bool.and_eq_true] at hs
    obtain ⟨⟨⟨⟨h1, h2⟩, h3⟩, h4⟩, h5⟩ := hs
    have hog : o.guard = none := by cases hg : o.guard <;> simp [hg] at h4 ⊢
    have key := wpAny_sink (Q := chainQ P l Q) h1 h2 h3 hog _ _ a w (by simp) (fun j oj _ hl => by rw [getD_replicate_false] at hl; cases hl) h
    rw [replicate_push] at key
    have e1 : pre.toArray.push o = (pre ++ [o]).toArray := by simp
    have e2 : pre.toArray.size + 1 = (pre ++ [o]).toArray.size := by simp
    rw [e1, e2] at key
    have := wp_suf l (pre ++ [o]) h5 key
    rw [List.append_assoc] at this
    exact this
section
variable {P : Program} {E : Env} (hE : EOk P E) {H : FuncId → List SV → List Blk → (SV → List Blk → Prop) → Prop} (hH : HOk P H)
include hE hH
theorem vcOps_suf {N : Nat} {w0 : Base} {all : Array Oper} {K : List SV → List Blk → Prop} {Q : Exit → Act → World → Prop} (hQ : ∀ tm' hp' a' w', K tm' hp' → RelS N w0 tm' hp' a' w' → Q .normal a' w') :
    ∀ (os pre : List Oper), sufB pre os = true → ∀ (tm : List SV) (hp : List Blk), vcOps E H all os tm hp K → ∀ a w, RelS N w0 tm hp a w → chainQ P os Q .normal a w
  | [], _, _, tm, hp, h, a, w, hr => hQ _ _ _ _ h hr
  | o :: os, pre, hs, tm, hp, h, a, w, hr => by
    simp only [sufB, Bool.and_eq_true] at hs
    have hog : o.guard = none := by cases hg : o.guard <;> simp [hg] at hs ⊢
    unfold vcOps at h
    rw [hog] at h
    exact vcOp_ok hE hH h hr fun tm' hp' a' w' hK hr' => vcOps_suf hQ os (pre ++ [o]) hs.2 tm' hp' hK a' w' hr'
end
section
variable {P : Program} {E : Env} (hE : EOk P E) {H : FuncId → List SV → List Blk → (SV → List Blk → Prop) → Prop} (hH : HOk P H)
theorem allL_mem : ∀ {l : List Nat} {p : Nat → Prop}, allL l p → ∀ i ∈ l, p i
  | [], _, _, i, hi => by cases hi
  | _ :: _, _, h, i, hi => by
    rcases List.mem_cons.1 hi with rfl | hi
    · exact h.1
    · exact allL_mem h.2 i hi
theorem RelS.drew {N : Nat} {w0 : Base} {tm : List SV} {hp : List Blk} {a : Act} {w : World} (h : RelS N w0 tm hp a w) : RelS N w0 tm hp a w.drew := by
  obtain ⟨ρ0, hh, ht, hd⟩ := h
  exact ⟨ρ0, hh.below ((Below.refl _ _).drew), ht, hd⟩
theorem rdyE_iff {L : List Bool} : ∀ {l : List Edge}, rdyE L l = true ↔ ∀ e ∈ l, Region.binds .any e = true → nth false L e.on = true
  | [] => by simp [rdyE]
  | e :: l => by
    simp only [rdyE, Bool.and_eq_true, Bool.or_eq_true, Bool.not_eq_true', rdyE_iff (l := l), List.mem_cons, forall_eq_or_imp]
    constructor
    · rintro ⟨h1, h2⟩
      exact ⟨fun hb => h1.elim (fun h => by rw [hb] at h; cases h) id, h2⟩
    · rintro ⟨h1, h2⟩
      refine ⟨?_, h2⟩
      cases hb : Region.binds .any e with
      | true => exact .inr (h1 hb)
      | false => exact .inl rfl
theorem rdyG_cons (L : List Bool) (k : Nat) (o : Oper) (l : List Oper) : rdyG L k (o :: l) = (match !nth true L k && rdyE L o.after.toList with | true => k :: rdyG L (k + 1) l | false => rdyG L (k + 1) l) := rfl
theorem rdyG_iff {L : List Bool} : ∀ {l : List Oper} {k i : Nat}, i ∈ rdyG L k l ↔ ∃ j o, i = k + j ∧ l[j]? = some o ∧ nth true L i = false ∧ rdyE L o.after.toList = true
  | [], k, i => by simp [rdyG]
  | o :: l, k, i => by
    have ih := @rdyG_iff L l (k + 1) i
    have key : (∃ j o', i = k + j ∧ (o :: l)[j]? = some o' ∧ nth true L i = false ∧ rdyE L o'.after.toList = true) ↔ (i = k ∧ nth true L i = false ∧ rdyE L o.after.toList = true) ∨ ∃ j o', i = k + 1 + j ∧ l[j]? = some o' ∧ nth true L i = false ∧ rdyE L o'.after.toList = true := by
      constructor
      · rintro ⟨j, o', h1, h2, h3, h4⟩
        cases j with
        | zero => simp at h2; subst h2; exact .inl ⟨h1, h3, h4⟩
        | succ j => exact .inr ⟨j, o', by omega, by simpa using h2, h3, h4⟩
      · rintro (⟨h1, h2, h3⟩ | ⟨j, o', h1, h2, h3, h4⟩)
        · exact ⟨0, o, h1, rfl, h2, h3⟩
        · exact ⟨j + 1, o', by omega, by simpa using h2, h3, h4⟩
    rw [key, ← ih, rdyG_cons]
    split
    · rename_i h
      simp only [Bool.and_eq_true, Bool.not_eq_true'] at h
      simp only [List.mem_cons]
      constructor
      · rintro (rfl | h')
        · exact .inl ⟨rfl, h⟩
        · exact .inr h'
      · rintro (⟨rfl, _⟩ | h')
        · exact .inl rfl
        · exact .inr h'
    · rename_i h
      constructor
      · exact .inr
      · rintro (⟨rfl, h1, h2⟩ | h')
        · rw [h1, h2] at h; cases h
        · exact h'
theorem rdy_mem {ops : List Oper} {L : List Bool} {i : Nat} : i ∈ Region.ready .any ops.toArray L.toArray ↔ i ∈ rdyG L 0 ops := by
  rw [mem_ready, rdyG_iff]
  have e1 : ∀ n, L.toArray.getD n true = nth true L n := fun n => by rw [nth_eq]; simp [Array.getD_eq_getD_getElem?]
  have e2 : ∀ n, L.toArray.getD n false = nth false L n := fun n => by rw [nth_eq]; simp [Array.getD_eq_getD_getElem?]
  constructor
  · rintro ⟨h1, o, h2, h3⟩
    exact ⟨i, o, by omega, by simpa using h2, by rw [← e1]; exact h1, rdyE_iff.2 fun e he hb => by rw [← e2]; exact h3 e (by simpa using he) hb⟩
  · rintro ⟨j, o, h1, h2, h3, h4⟩
    rw [Nat.zero_add] at h1
    subst h1
    exact ⟨by rw [e1]; exact h3, o, by simpa using h2, fun e he hb => by rw [e2]; exact rdyE_iff.1 h4 e (by simpa using he) hb⟩
theorem setB_eq : ∀ (l : List Bool) (i : Nat), setB l i = l.set i true
  | [], _ => by simp [setB]
  | _ :: _, 0 => rfl
  | x :: l, n + 1 => by simp [setB, setB_eq l n]
theorem falses_eq : ∀ l : List Oper, falses l = List.replicate l.length false
  | [] => rfl
  | _ :: l => by simp [falses, falses_eq l, List.replicate_succ]
omit hE hH in
theorem takeB_spec {T : TypeId → Option TI} {ops : List Oper} {tm : List SV} {K : Nat → Oper → SV → Prop} {Z : Prop} : ∀ {l : List Nat}, takeB T ops tm l K Z → Z ∨ ∃ i ∈ l, ∃ o v, ops[i]? = some o ∧ o.guard = none ∧ eff T o.op (evm tm) (fun _ => none) = some (.val v) ∧ K i o v
  | [], h => .inl h
  | i :: l, h => by
    have up : takeB T ops tm l K Z → Z ∨ ∃ j ∈ i :: l, ∃ o v, ops[j]? = some o ∧ o.guard = none ∧ eff T o.op (evm tm) (fun _ => none) = some (.val v) ∧ K j o v := fun h => (takeB_spec h).imp id fun ⟨i, h1, h2⟩ => ⟨i, List.mem_cons_of_mem _ h1, h2⟩
    unfold takeB at h
    split at h
    · rename_i o ho
      rw [nthO_eq] at ho
      split at h
      · rename_i hg
        split at h
        · rename_i v hv
          exact .inr ⟨i, List.mem_cons_self, o, v, ho, hg, hv, h⟩
        · exact up h
      · exact up h
    · exact up h
omit hE hH in
theorem noSel_spec : ∀ {l : List Oper}, noSel l = true → ∀ (j : Nat) (o : Oper) cs b, l[j]? = some o → o.op ≠ .select cs b
  | [], _, j, o, cs, b, h => by simp at h
  | x :: l, hs, j, o, cs, b, h => by
    unfold noSel at hs
    split at hs
    · cases hs
    · rename_i hx
      cases j with
      | zero => simp at h; subst h; exact fun e => hx cs b e
      | succ j => exact noSel_spec hs j o cs b (by simpa using h)
/-- the end of a panic asks nothing of the frame -/
def PanS (Q : Exit → Act → World → Prop) : Prop := ∀ c a a' w, Q (.panic c) a w → Q (.panic c) a' w
omit hE hH in
theorem PanS.chain {P : Program} {Q : Exit → Act → World → Prop} (h : PanS Q) : ∀ l, PanS (chainQ P l Q)
  | [] => h
  | _ :: l => fun c a a' w h' => PanS.chain (P := P) h l c a a' w h'
def lisD (L : List Bool) : Nat → Prop := fun k => L.toArray.getD k false = true
omit hE hH in
theorem lisD_none {l : List Oper} {k : Nat} (h : lisD (falses l) k) : False := by
  unfold lisD at h
  rw [falses_eq, Array.getD_eq_getD_getElem?, List.getElem?_toArray, List.getElem?_replicate] at h
  split at h <;> cases h
omit hE hH in
theorem lisD_set {L : List Bool} {i : Nat} (h : L.toArray.getD i true = false) : lisD (L.set i true) = fun k => lisD L k ∨ k = i := by
  have hin : i < L.length := by
    rcases Nat.lt_or_ge i L.length with h' | h'
    · exact h'
    · simp [Array.getD_eq_getD_getElem?, List.getElem?_eq_none h'] at h
  funext k
  apply propext
  unfold lisD
  by_cases hk : k = i
  · subst hk
    simp [Array.getD_eq_getD_getElem?, hin]
  · simp only [Array.getD_eq_getD_getElem?, List.getElem?_toArray, List.getElem?_set, hk, or_false]
    rw [if_neg (fun e => hk e.symm)]
omit hE hH in
theorem first_draw {ops : List Oper} (hok : okDraw ops.toArray = true) (hsel : noSel ops = true) {Q : Exit → Act → World → Prop} (hP : PanS Q) {i : Nat} {oi : Oper} {v : Value} (hi : ops.toArray[i]? = some oi) :
    ∀ (fuel : Nat) (L : List Bool) (a : Act) (w : World), Closed ops.toArray (lisD L) → i ∈ Region.ready .any ops.toArray L.toArray → Yields P ops.toArray oi v a →
      wpAny P .any ops.toArray Q fuel (L.set i true).toArray (a.put oi.dst v) w → wpAny P .any ops.toArray Q (fuel + 1) L.toArray a w := by
  have hns : ∀ (j : Nat) (o : Oper) cs b, ops.toArray[j]? = some o → o.op ≠ .select cs b := fun j o cs b h => noSel_spec hsel j o cs b (by simpa using h)
  intro fuel
  induction fuel with
  | zero =>
    intro L a w _ hr hy H
    rw [← List.setIfInBounds_toArray] at H
    refine ⟨fun h => (by rw [h] at hr; cases hr), fun j hj => ?_⟩
    by_cases hji : j = i
    · subst hji; exact hy.wpOp hi H
    · have := ready_mono hj hji
      rw [H.1] at this
      cases this
  | succ fuel ih =>
    intro L a w hc hr hy H
    have H' := H
    rw [← List.setIfInBounds_toArray] at H
    refine ⟨fun h => (by rw [h] at hr; cases hr), fun j hj => ?_⟩
    by_cases hji : j = i
    · subst hji; exact hy.wpOp hi H
    · have h1 := H.2 j (ready_mono hj hji)
      obtain ⟨hjun, oj, hoj, hallj⟩ := mem_ready.1 hj
      obtain ⟨hiun, oi', hoi, halli⟩ := mem_ready.1 hr
      rw [hi] at hoi; cases hoi
      have nD : ∀ k, L.toArray.getD k true = false → ¬ lisD L k := fun k hk hd => by
        unfold lisD at hd
        rw [Array.getD_eq_getD_getElem?] at hk hd
        cases he : L.toArray[k]? with
        | none => rw [he] at hk; cases hk
        | some b => rw [he] at hk hd; simp only [Option.getD_some] at hk hd; rw [hk] at hd; cases hd
      have nij : ¬ bf ops.toArray j i := fun hb => by
        rcases (hc.ready hoj fun e he hb => hallj e he hb).bf (.inr rfl) hb with h | h
        · exact nD i hiun h
        · exact hji h.symm
      have nji : ¬ bf ops.toArray i j := fun hb => by
        rcases (hc.ready hi fun e he hb => halli e he hb).bf (.inr rfl) hb with h | h
        · exact nD j hjun h
        · exact hji h
      have hap : oi.apart ops.toArray oj = true := by
        have key : (∀ d, oi.dst = some d → d ∉ oj.looksAt ops.toArray ∧ oj.dst ≠ some d) ∧ ∀ d, oj.dst = some d → d ∉ oi.looksAt ops.toArray := by
          rcases Nat.lt_or_gt_of_ne hji with h | h
          · have hp := draw_pair hok h hoj hi
            exact ⟨fun d hd => ⟨fun hl => nji ((hp.1 d hd).1 hl), (hp.1 d hd).2⟩, fun d hd hl => nji (hp.2.1 d hd hl)⟩
          · have hp := draw_pair hok h hi hoj
            refine ⟨fun d hd => ⟨fun hl => nij (hp.2.1 d hd hl), fun e => (hp.1 d e).2 hd⟩, fun d hd hl => nij ((hp.1 d hd).1 hl)⟩
        unfold Oper.apart
        rw [Bool.and_eq_true]
        constructor
        · split
          · rename_i d hd
            have := key.1 d hd
            simp only [Bool.and_eq_true, Bool.not_eq_true', bne_iff_ne, ne_eq]
            refine ⟨?_, this.2⟩
            cases hx : (oj.looksAt ops.toArray).contains d with
            | false => rfl
            | true => exact absurd (List.contains_iff_mem.1 hx) this.1
          · rfl
        · split
          · rename_i d hd
            have := key.2 d hd
            simp only [Bool.not_eq_true']
            cases hx : (oi.looksAt ops.toArray).contains d with
            | false => rfl
            | true => exact absurd (List.contains_iff_mem.1 hx) this
          · rfl
      have h2 := wpOp_put hoj hap (fun cs b => hns i oi cs b hi) (fun cs b => hns j oj cs b hoj) (fun c a w h => hP c _ _ w h) hy h1
      rw [List.setIfInBounds_toArray]
      refine wpOp_mono (fun a' w' h3 => ih (L.set j true) a' w' ?_ ?_ h3.1 ?_) h2
      · rw [lisD_set hjun]; exact hc.ready hoj fun e he hb => hallj e he hb
      · rw [← List.setIfInBounds_toArray]; exact ready_mono hr (Ne.symm hji)
      · rw [← List.setIfInBounds_toArray, ← List.setIfInBounds_toArray, Array.setIfInBounds_comm _ _ hji]
        exact h3.2
include hE hH in
theorem vcOrd_ok {N : Nat} {w0 : Base} {ops : List Oper} (hok : okDraw ops.toArray = true) {K : List SV → List Blk → Prop} {Q : Exit → Act → World → Prop} (hP : PanS Q) (hQ : ∀ tm' hp' a' w', K tm' hp' → RelS N w0 tm' hp' a' w' → Q .normal a' w') :
    ∀ (fuel : List Oper) (L : List Bool) (_ : Closed ops.toArray (lisD L)) (tm : List SV) (hp : List Blk), vcOrd E H ops fuel L tm hp K → ∀ a w, RelS N w0 tm hp a w → wpAny P .any ops.toArray Q fuel.length L.toArray a w
  | [], L, _, tm, hp, h, a, w, hr => by
    unfold vcOrd at h
    unfold wpAny
    split at h
    · rename_i he
      exact ⟨List.eq_nil_iff_forall_not_mem.2 fun i hi => (by have := rdy_mem.1 hi; rw [he] at this; cases this), hQ _ _ _ _ h hr⟩
    · exact h.elim
  | _ :: fuel, L, hc, tm, hp, h, a, w, hr => by
    unfold vcOrd at h
    rw [List.length_cons]
    split at h
    · rename_i he
      unfold wpAny
      exact ⟨fun _ => hQ _ _ _ _ h hr, fun i hi => by have := rdy_mem.1 hi; rw [he] at this; cases this⟩
    · rename_i i0 l he
      rcases takeB_spec h with h | ⟨i, hil, o, v, ho, hg, hv, h⟩
      · unfold wpAny
        refine ⟨fun h0 => ?_, fun i hi => ?_⟩
        · have : i0 ∈ Region.ready .any ops.toArray L.toArray := rdy_mem.2 (by rw [he]; exact List.mem_cons_self)
          rw [h0] at this; cases this
        · have hi' := rdy_mem.1 hi
          rw [he] at hi'
          have hj := allL_mem h i hi'
          unfold wpOp
          split at hj
          · rename_i o ho
            rw [nthO_eq] at ho
            have ho : ops.toArray[i]? = some o := by simpa using ho
            obtain ⟨hun, o', ho', hall⟩ := mem_ready.1 hi
            rw [ho] at ho'; cases ho'
            rw [ho]
            split at hj
            · rename_i hg
              simp only
              rw [if_pos (by simp [Region.wanted, hg])]
              refine .inl (vcOp_ok hE hH hj hr fun tm' hp' a' w' hK hr' => ?_)
              rw [setB_eq] at hK
              have := vcOrd_ok hok hP hQ fuel _ (by rw [lisD_set hun]; exact hc.ready ho fun e he hb => hall e he hb) tm' hp' hK a' w' hr'
              rwa [← List.setIfInBounds_toArray] at this
            · exact hj.elim
          · exact hj.elim
      · split at hil
        · rename_i hsel
          rw [← he] at hil
          have hi := rdy_mem.2 hil
          obtain ⟨hun, o', ho', hall⟩ := mem_ready.1 hi
          have ho : ops.toArray[i]? = some o := by simpa using ho
          rw [ho] at ho'; cases ho'
          rw [SV.force_eq, putK_eq, setB_eq] at h
          obtain ⟨ρ0, hh, ht, hd⟩ := hr
          have hrun : ∀ ρ, Agr (nthO hp) ρ ρ0 → ∀ w, (execOp a.eval o).run P w = .ok (.value (v.den ρ)) w := fun ρ hρ w => by
            rw [eval_ok (ht ρ hρ)]; exact eff_val hE.T hv ρ w fun b blk hb => by cases hb
          have h0 := hrun ρ0 (Agr.refl _ _)
          refine first_draw hok hsel hP ho fuel.length L a w hc hi (.inl ⟨by simp [Region.wanted, hg], h0⟩) (vcOrd_ok hok hP hQ fuel _ (by rw [lisD_set hun]; exact hc.ready ho fun e he hb => hall e he hb) _ hp h _ _ (RelS.put ht hd hh (fun i hi => ⟨hi, rfl⟩) o.dst fun ρ hρ => ?_))
          have := hrun ρ hρ w
          rw [h0 w] at this
          simpa using this
        · cases hil
end
/-- a region that draws: its end apart -/
def okReg (ops : Array Oper) : Bool :=
  match ops.toList.length - sufN ops.toList with
  | m => okDraw (ops.toList.take m).toArray && sufB (ops.toList.take m) (ops.toList.drop m)
def okR : List Oper → List Oper → Bool
  | [], ops => okReg ops.toArray
  | _ :: f, ops => (match cutN ops with
    | none => okReg ops.toArray
    | some p => okReg (ops.take p).toArray && okR f (shL p ops))
theorem SameTm.den {l : List SV} : ∀ {m : List SV}, SameTm l m → ∀ ρ, l.map (SV.den ρ) = m.map (SV.den ρ) := by
  induction l with
  | nil =>
    intro m h ρ
    cases m with
    | nil => rfl
    | cons y m => exact h.elim
  | cons x l ih =>
    intro m h ρ
    cases m with
    | nil => exact h.elim
    | cons y m =>
      obtain ⟨h1, h2⟩ := h
      rw [List.map_cons, List.map_cons, h1 ρ, ih h2 ρ]
def SameB (b c : Blk) : Prop := b.ty = c.ty ∧ b.ro = c.ro ∧ b.tl = c.tl ∧ (∀ ρ, cellsL ρ b.cs = cellsL ρ c.cs) ∧ b.mapOf = c.mapOf
theorem sameB_of {b c : Blk} (h : b.ty = c.ty ∧ b.ro = c.ro ∧ b.tl = c.tl ∧ ∀ ρ, cellsL ρ b.cs = cellsL ρ c.cs) : SameB b c := by
  obtain ⟨bt, br, bc, bl⟩ := b
  obtain ⟨ct, cr, cc, cl⟩ := c
  obtain ⟨h1, h2, h3, h4⟩ := h
  simp only at h1 h2 h3 h4
  subst h1 h2 h3
  refine ⟨rfl, rfl, rfl, h4, ?_⟩
  have hs : sizeC bc = sizeC cc := by rw [sizeC_eq (fun _ => (0, 0)), h4, ← sizeC_eq]
  have e : ∀ (t : TyX) (r : Bool) (x : C) (l : List C) (n : Nat), mapC t r (x :: l) n = none := fun t r x l n => by cases t <;> cases r <;> rfl
  show mapC _ _ _ _ = mapC _ _ _ _
  cases bc with
  | nil =>
    cases cc with
    | nil => rfl
    | cons y m => cases y <;> simp [sizeC, C.n] at hs <;> omega
  | cons x l =>
    cases cc with
    | nil => cases x <;> simp [sizeC, C.n] at hs
    | cons y m => rw [e, e]
theorem SameB.symm {b c : Blk} (h : SameB b c) : SameB c b := ⟨h.1.symm, h.2.1.symm, h.2.2.1.symm, fun ρ => (h.2.2.2.1 ρ).symm, h.2.2.2.2.symm⟩
theorem SameHp.get {l : List Blk} : ∀ {m : List Blk}, SameHp l m → ∀ i c, nthO m i = some c → ∃ b, nthO l i = some b ∧ SameB b c := by
  induction l with
  | nil =>
    intro m h i c hc
    cases m with
    | nil => simp [nthO] at hc
    | cons y m => exact h.elim
  | cons b l ih =>
    intro m h i c hc
    cases m with
    | nil => exact h.elim
    | cons d m =>
      obtain ⟨h1, h2⟩ := h
      cases i with
      | zero => simp [nthO] at hc; subst hc; exact ⟨b, rfl, sameB_of h1⟩
      | succ i => exact ih h2 i c (by simpa [nthO] using hc)
theorem SameHp.some' {l : List Blk} : ∀ {m : List Blk}, SameHp l m → ∀ i b, nthO l i = some b → ∃ c, nthO m i = some c := by
  induction l with
  | nil => intro m _ i b hb; simp [nthO] at hb
  | cons x l ih =>
    intro m h i b hb
    cases m with
    | nil => exact h.elim
    | cons d m =>
      cases i with
      | zero => exact ⟨d, rfl⟩
      | succ i => exact ih h.2 i b (by simpa [nthO] using hb)
theorem RelS.same {N : Nat} {w0 : Base} {tm tm2 : List SV} {hp hp2 : List Blk} {a : Act} {w : World} (h : RelS N w0 tm hp a w) (e1 : SameTm tm tm2) (e2 : SameHp hp hp2) : RelS N w0 tm2 hp2 a w := by
  obtain ⟨ρ0, hh, ht, hd⟩ := h
  have hagr : ∀ ρ, Agr (nthO hp2) ρ ρ0 → Agr (nthO hp) ρ ρ0 := fun ρ hρ i hi => by
    obtain ⟨b, hb⟩ := Option.isSome_iff_exists.1 hi
    obtain ⟨c, hc⟩ := e2.some' i b hb
    exact hρ i (by rw [hc]; rfl)
  have hvoid : ∀ i b c, nthO hp i = some b → nthO hp2 i = some c → b.ro = c.ro → (∀ ρ, cellsL ρ b.cs = cellsL ρ c.cs) → c.void = false → b.void = false := fun i b c _ _ h2 h3 hv => by
    rcases void_or b with h | h
    · obtain ⟨h4, h5⟩ := void_spec h
      have h6 := h3 ρ0
      rw [h5] at h6
      have h7 : sizeC c.cs = 0 := by rw [sizeC_eq ρ0, ← h6]; rfl
      have h8 : c.cs = [] := by
        cases hc : c.cs with
        | nil => rfl
        | cons x l => rw [hc] at h7; cases x <;> simp [sizeC, C.n] at h7
      unfold Blk.void at hv
      rw [h8, ← h2, h4] at hv
      cases hv
    · exact h
  refine ⟨ρ0, ⟨fun i c hc hv => ?_, fun i c hc ho => ?_, fun i j c d hc ho hd hdv => ?_, fun ρ hρ i c hc => ?_, hh.bel, hh.big, fun i hi => ?_, fun i c e hc he => ?_, fun i j c d hc hd' h1 h2 hji => ?_, hh.fam.up (fun i c hc hm => ?_) fun j c hc ho => ?_⟩, fun ρ hρ => (ht ρ (hagr ρ hρ)).trans (e1.den ρ), hd⟩
  · obtain ⟨b, hb, -, h2, -, h3, -⟩ := e2.get i c hc; exact hh.old i b hb (hvoid i b c hb hc h2 h3 hv)
  · obtain ⟨b, hb, -, h2, -⟩ := e2.get i c hc; exact hh.own i b hb (h2.trans ho)
  · obtain ⟨b, hb, -, h2, -⟩ := e2.get i c hc
    obtain ⟨b', hb', -, h2', -, h3', -⟩ := e2.get j d hd
    exact hh.apart i j b b' hb (h2.trans ho) hb' (hvoid j b' d hb' hd h2' h3' hdv)
  · obtain ⟨b, hb, h1, h2, h5, h3, -⟩ := e2.get i c hc
    have := hh.holds ρ (hagr ρ hρ) i b hb
    unfold Holds at this ⊢
    rw [← h3 ρ, ← h1, ← h2, ← h5]
    exact this
  · have := hh.ext i hi
    refine ⟨?_, this.2⟩
    obtain ⟨b, hb⟩ := Option.isSome_iff_exists.1 this.1
    obtain ⟨c, hc⟩ := e2.some' i b hb
    rw [hc]; rfl
  · obtain ⟨b, hb, -, -, -, -, h6⟩ := e2.get i c hc
    exact hh.maps i b e hb (h6.trans he)
  · obtain ⟨b, hb, -, -, -, -, h6⟩ := e2.get i c hc
    obtain ⟨b', hb', -, -, -, -, h6'⟩ := e2.get j d hd'
    exact hh.mapA i j b b' hb hb' (by rw [h6]; exact h1) (by rw [h6']; exact h2) hji
  · obtain ⟨b, hb, h1, h2, h5, -⟩ := e2.get i c hc
    exact ⟨i, b, hb, by unfold Blk.famOf; rw [h1, h2, h5]⟩
  · obtain ⟨b, hb, -, h2, -⟩ := e2.get j c hc
    exact .inl ⟨j, b, hb, h2.trans ho, rfl⟩
theorem posL_spec : ∀ {l : List Nat} {i k p : Nat}, posL l i k = some p → ∃ j, p = k + j ∧ l[j]? = some i
  | [], _, _, _, h => by simp [posL] at h
  | a :: l, i, k, p, h => by
    unfold posL at h
    split at h
    · rename_i e; cases h; exact ⟨0, rfl, by simp [e]⟩
    · obtain ⟨j, h1, h2⟩ := posL_spec h; exact ⟨j + 1, by omega, by simpa using h2⟩
theorem inB_iff : ∀ {l : List Nat} {a : Nat}, inB l a = true ↔ a ∈ l
  | [], a => by simp [inB]
  | b :: l, a => by simp only [inB, Bool.or_eq_true, beq_iff_eq, List.mem_cons, inB_iff (l := l)]; exact ⟨fun h => h.imp (fun e => e.symm) id, fun h => h.imp (fun e => e.symm) id⟩
theorem ndL_iff : ∀ {l : List Nat}, ndL l = true → ∀ i j a : Nat, l[i]? = some a → l[j]? = some a → i = j
  | [], _, i, j, a, h, _ => by simp at h
  | b :: l, hn, i, j, a, h1, h2 => by
    simp only [ndL, Bool.and_eq_true, Bool.not_eq_true'] at hn
    have hb : b ∉ l := fun h => by rw [inB_iff.2 h] at hn; cases hn.1
    cases i with
    | zero =>
      cases j with
      | zero => rfl
      | succ j => simp at h1 h2; subst h1; exact (hb (List.mem_of_getElem? h2)).elim
    | succ i =>
      cases j with
      | zero => simp at h1 h2; subst h2; exact (hb (List.mem_of_getElem? h1)).elim
      | succ j => simp at h1 h2; rw [ndL_iff hn.2 i j a h1 h2]
theorem posL_get : ∀ {l : List Nat} {k i : Nat} (j : Nat), ndL l = true → l[j]? = some i → posL l i k = some (k + j)
  | [], _, _, _, _, h => by simp at h
  | a :: l, k, i, 0, _, h => by simp at h; subst h; simp [posL]
  | a :: l, k, i, j + 1, hn, h => by
    have h' : l[j]? = some i := by simpa using h
    have hne : a ≠ i := fun e => by
      subst e
      have := ndL_iff hn 0 (j + 1) a (by simp) h
      omega
    have hn2 : ndL l = true := by simp only [ndL, Bool.and_eq_true] at hn; exact hn.2
    rw [posL, if_neg hne, posL_get j hn2 h']
    congr 1; omega
theorem preOk_spec : ∀ {n i : Nat} {l : List Nat}, preOk n i l = true → ∀ j, j < n → l[j]? = some (i + j)
  | 0, _, _, _, j, h => by omega
  | n + 1, i, [], h, _, _ => by simp [preOk] at h
  | n + 1, i, a :: l, h, j, hj => by
    simp only [preOk, Bool.and_eq_true, beq_iff_eq] at h
    cases j with
    | zero => simp [h.1]
    | succ j =>
      have := preOk_spec h.2 j (by omega)
      simp only [List.getElem?_cons_succ, this]
      congr 1; omega
/-- the same places under other numbers -/
def Link (sel : List Nat) (ρ ρ' : Rho) : Prop := ∀ i p, posL sel i 0 = some p → ρ i = ρ' p
theorem renP_den {sel : List Nat} {ρ ρ' : Rho} (h : Link sel ρ ρ') : ∀ {l m : List (Nat × Nat)}, renP sel l = some m → (l.map fun p => adr ρ p.1 p.2) = m.map fun p => adr ρ' p.1 p.2
  | [], m, hl => by simp [renP] at hl; subst hl; rfl
  | p :: l, m, hl => by
    unfold renP at hl
    split at hl
    · rename_i b l' hb hl'
      cases hl
      rw [List.map_cons, List.map_cons, renP_den h hl']
      simp only [adr, h _ _ hb]
    · cases hl
theorem ren_cells {sel : List Nat} {ρ ρ' : Rho} (h : Link sel ρ ρ') {x y : C} (hx : x.ren sel = some y) : x.cells ρ = y.cells ρ' := by
  cases x <;> simp only [C.ren] at hx <;> try (cases hx; rfl)
  case ptr b off => split at hx; (rename_i b' hb; cases hx; simp only [C.cells, adr, h _ _ hb]); cases hx
  case sli nl b off len cap hl => split at hx; (rename_i b' hb; cases hx; simp only [C.cells, h _ _ hb]); cases hx
  case fn f bd caps => split at hx; (rename_i c' hc; cases hx; simp only [C.cells, renP_den h hc]); cases hx
  case mp b => split at hx; (rename_i b' hb; cases hx; simp only [C.cells, h _ _ hb]); cases hx
theorem renL_cells {sel : List Nat} {ρ ρ' : Rho} (h : Link sel ρ ρ') : ∀ {l m : List C}, renL sel l = some m → cellsL ρ l = cellsL ρ' m
  | [], m, hl => by simp [renL] at hl; subst hl; rfl
  | x :: l, m, hl => by
    unfold renL at hl
    split at hl
    · rename_i y l' hy hl'
      cases hl
      rw [cellsL_cons, cellsL_cons, ren_cells h hy, renL_cells h hl']
    · cases hl
theorem ren_t1 {sel : List Nat} {ρ ρ' : Rho} (h : Link sel ρ ρ') {x y : T1} (hx : x.ren sel = some y) : x.den ρ = y.den ρ' := by
  cases x with
  | c x =>
    simp only [T1.ren] at hx
    split at hx
    · rename_i z hz; cases hx; simp only [T1.den, C.den, ren_cells h hz]
    · cases hx
  | agg l =>
    simp only [T1.ren] at hx
    split at hx
    · rename_i z hz; cases hx; simp only [T1.den, renL_cells h hz]
    · cases hx
theorem renT_den {sel : List Nat} {ρ ρ' : Rho} (h : Link sel ρ ρ') : ∀ {l m : List T1}, renT sel l = some m → l.map (T1.den ρ) = m.map (T1.den ρ')
  | [], m, hl => by simp [renT] at hl; subst hl; rfl
  | x :: l, m, hl => by
    unfold renT at hl
    split at hl
    · rename_i y l' hy hl'
      cases hl
      rw [List.map_cons, List.map_cons, ren_t1 h hy, renT_den h hl']
    · cases hl
theorem ren_den {sel : List Nat} {ρ ρ' : Rho} (h : Link sel ρ ρ') {x y : SV} (hx : x.ren sel = some y) : x.den ρ = y.den ρ' := by
  cases x with
  | c x =>
    simp only [SV.ren] at hx
    split at hx
    · rename_i z hz; cases hx; simp only [SV.den, C.den, ren_cells h hz]
    · cases hx
  | agg l =>
    simp only [SV.ren] at hx
    split at hx
    · rename_i z hz; cases hx; simp only [SV.den, renL_cells h hz]
    · cases hx
  | tup l =>
    simp only [SV.ren] at hx
    split at hx
    · rename_i z hz; cases hx; simp only [SV.den, renT_den h hz]
    · cases hx
theorem renK_spec {sel keep : List Nat} {vs : Nat → Value} : ∀ {l : List SV} {i : Nat} {K : List SV → Prop}, renK sel keep vs i l K → ∃ m, K m ∧ ∀ ρ ρ', Link sel ρ ρ' → (∀ j x, l[j]? = some x → vs (i + j) = x.den ρ) → l.map (SV.den ρ) = m.map (SV.den ρ')
  | [], _, _, h => ⟨[], h, fun _ _ _ _ => rfl⟩
  | x :: l, i, K, h => by
    have tail : ∀ {ρ : Rho}, (∀ j y, (x :: l)[j]? = some y → vs (i + j) = y.den ρ) → ∀ j y, l[j]? = some y → vs (i + 1 + j) = y.den ρ := fun hv j y hy => by
      have := hv (j + 1) y (by simpa using hy)
      rw [show i + 1 + j = i + (j + 1) by omega]; exact this
    unfold renK at h
    split at h
    · obtain ⟨m, hm, hd⟩ := renK_spec h
      refine ⟨_, hm, fun ρ ρ' hl hv => ?_⟩
      rw [List.map_cons, List.map_cons, hd ρ ρ' hl (tail hv)]
      have := hv 0 x rfl
      rw [← this]; rfl
    · split at h
      · rename_i y hy
        obtain ⟨m, hm, hd⟩ := renK_spec h
        exact ⟨_, hm, fun ρ ρ' hl hv => by rw [List.map_cons, List.map_cons, hd ρ ρ' hl (tail hv), ren_den hl hy]⟩
      · obtain ⟨m, hm, hd⟩ := renK_spec h
        refine ⟨_, hm, fun ρ ρ' hl hv => ?_⟩
        rw [List.map_cons, List.map_cons, hd ρ ρ' hl (tail hv)]
        have := hv 0 x rfl
        rw [← this]; rfl
def SelB (sel : List Nat) (b c : Blk) : Prop := c.ty = b.ty ∧ c.ro = b.ro ∧ c.tl = b.tl ∧ (c.cs = b.cs ∧ PureL b.cs ∨ renL sel b.cs = some c.cs)
def SelOut (hp : List Blk) (sel l : List Nat) (K : List Blk → Prop) : Prop := ∃ m, K m ∧ m.length = l.length ∧ ∀ j a, l[j]? = some a → ∃ c, nthO m j = some c ∧ ((∃ b, nthO hp a = some b ∧ SelB sel b c) ∨ (nthO hp a = none ∧ c.void = true ∧ c.mapOf = none ∧ (c.famOf = none ∨ c.famOf = some (true, []))))
theorem selK_spec {hp : List Blk} {sel pf : List Nat} : ∀ {l : List Nat} {k : Nat} {K : List Blk → Prop}, selK hp sel pf k l K → SelOut hp sel l K
  | [], _, _, h => ⟨[], h, rfl, fun j a hj => by simp at hj⟩
  | a :: l, k, K, h => by
    have fin : ∀ c : Blk, ((∃ b, nthO hp a = some b ∧ SelB sel b c) ∨ (nthO hp a = none ∧ c.void = true ∧ c.mapOf = none ∧ (c.famOf = none ∨ c.famOf = some (true, [])))) → selK hp sel pf (k + 1) l (fun l => K (c :: l)) → SelOut hp sel (a :: l) K := fun c e h => by
      obtain ⟨m, hm, hlen, hj⟩ := selK_spec h
      refine ⟨c :: m, hm, by simp [hlen], fun j x hx => ?_⟩
      cases j with
      | zero => simp at hx; subst hx; exact ⟨c, rfl, e⟩
      | succ j => exact hj j x (by simpa using hx)
    unfold selK at h
    split at h
    · rename_i ty ro cs tl hb
      split at h
      · exact fin _ (.inl ⟨_, hb, rfl, rfl, rfl, .inl ⟨rfl, h.1⟩⟩) h.2
      · split at h
        · rename_i cs' hcs; exact fin ⟨ty, ro, cs', tl⟩ (.inl ⟨_, hb, rfl, rfl, rfl, .inr hcs⟩) h
        · exact h.elim
    · rename_i hb
      split at h
      · exact fin _ (.inr ⟨hb, rfl, rfl, .inr rfl⟩) h
      · exact fin _ (.inr ⟨hb, rfl, map_tl rfl, .inl (fam_tl rfl)⟩) h
theorem selB_map {sel : List Nat} {b c : Blk} (h : SelB sel b c) : b.mapOf = c.mapOf := by
  obtain ⟨bt, br, bc, bl⟩ := b
  obtain ⟨ct, cr, cc, cl⟩ := c
  obtain ⟨h1, h2, h3, h4⟩ := h
  simp only at h1 h2 h3 h4
  subst h1 h2 h3
  rcases h4 with ⟨rfl, -⟩ | h4
  · rfl
  · cases bc with
    | nil => simp [renL] at h4; subst h4; rfl
    | cons x l =>
      have : ∃ y m, cc = y :: m := by
        unfold renL at h4
        split at h4
        · exact ⟨_, _, (Option.some.inj h4).symm⟩
        · cases h4
      obtain ⟨y, m, rfl⟩ := this
      have e : ∀ (t : TyX) (r : Bool) (x : C) (l : List C) (n : Nat), mapC t r (x :: l) n = none := fun t r x l n => by cases t <;> cases r <;> rfl
      show mapC _ _ _ _ = mapC _ _ _ _
      rw [e, e]
/-- blocks chosen anew, slots forgotten -/
theorem endK_ok {N : Nat} {w0 : Base} {n0 : Nat} (hB : ∀ i, w0.B i → i < n0) {sel keep pf : List Nat} {tm : List SV} {hp : List Blk} {K : List SV → List Blk → Prop} {a : Act} {w : World} (hr : RelS N w0 tm hp a w)
    (h : endK n0 sel keep pf (fun t => a.tmps.toList.getD t undef) tm hp K) : ∃ tm2 hp2, K tm2 hp2 ∧ RelS N w0 tm2 hp2 a w := by
  unfold endK at h
  split at h
  · rename_i hok
    simp only [Bool.and_eq_true] at hok
    obtain ⟨hp2, h, hlen, hsel⟩ := selK_spec h
    obtain ⟨tm2, h, htm⟩ := renK_spec h
    refine ⟨tm2, hp2, h, ?_⟩
    obtain ⟨ρ0, hh, ht, hd⟩ := hr
    let σ : Rho := fun j => ρ0 (sel[j]?.getD 0)
    let back : Rho → Rho := fun ρ i => match posL sel i 0 with | some p => ρ p | none => ρ0 i
    have hlink : ∀ ρ, Link sel (back ρ) ρ := fun ρ i p hp => by show (match posL sel i 0 with | some p => ρ p | none => ρ0 i) = ρ p; rw [hp]
    have hget : ∀ j c, nthO hp2 j = some c → ∃ i, sel[j]? = some i ∧ ((∃ b, nthO hp i = some b ∧ SelB sel b c) ∨ (nthO hp i = none ∧ c.void = true ∧ c.mapOf = none ∧ (c.famOf = none ∨ c.famOf = some (true, [])))) := fun j c hc => by
      have hj : j < hp2.length := by rw [nthO_eq] at hc; exact (List.getElem?_eq_some_iff.1 hc).1
      obtain ⟨i, hi⟩ : ∃ i, sel[j]? = some i := ⟨_, List.getElem?_eq_getElem (by omega)⟩
      obtain ⟨c', h2, h3⟩ := hsel j i hi
      rw [hc] at h2; cases h2
      exact ⟨i, hi, h3⟩
    have hlive : ∀ j c, nthO hp2 j = some c → c.void = false → ∃ i b, sel[j]? = some i ∧ nthO hp i = some b ∧ SelB sel b c := fun j c hc hv => by
      obtain ⟨i, hi, h⟩ := hget j c hc
      rcases h with ⟨b, h1, h2⟩ | ⟨-, h2, -⟩
      · exact ⟨i, b, hi, h1, h2⟩
      · rw [h2] at hv; cases hv
    have hagr : ∀ ρ, Agr (nthO hp2) ρ σ → Agr (nthO hp) (back ρ) ρ0 := fun ρ hρ i hi => by
      show (match posL sel i 0 with | some p => ρ p | none => ρ0 i) = ρ0 i
      split
      · rename_i p hp'
        obtain ⟨j, e, hj⟩ := posL_spec hp'
        rw [Nat.zero_add] at e
        subst e
        obtain ⟨c, h2, -⟩ := hsel p i hj
        rw [hρ p (by rw [h2]; rfl)]
        show ρ0 (sel[p]?.getD 0) = ρ0 i
        rw [hj]; rfl
      · rfl
    have hback : ∀ ρ j i, sel[j]? = some i → back ρ i = ρ j := fun ρ j i hj => by
      show (match posL sel i 0 with | some p => ρ p | none => ρ0 i) = ρ j
      rw [posL_get j hok.2 hj, Nat.zero_add]
    have hσ : ∀ j i, sel[j]? = some i → σ j = ρ0 i := fun j i hj => by show ρ0 (sel[j]?.getD 0) = ρ0 i; rw [hj]; rfl
    have hcell : ∀ ρ (b c : Blk), SelB sel b c → cellsL (back ρ) b.cs = cellsL ρ c.cs := fun ρ b c hbc => by
      rcases hbc.2.2.2 with ⟨h1, h2⟩ | h1
      · rw [h1]; exact h2 _ _
      · exact renL_cells (hlink ρ) h1
    have hvoid : ∀ (b c : Blk), SelB sel b c → c.void = false → b.void = false := fun b c h hv => by
      obtain ⟨-, h2, -, h3⟩ := h
      rcases void_or b with h | h
      · obtain ⟨h4, h5⟩ := void_spec h
        have h6 : c.cs = [] := by
          rcases h3 with ⟨h7, -⟩ | h7
          · rw [h7, h5]
          · rw [h5] at h7; simp [renL] at h7; exact h7
        unfold Blk.void at hv
        rw [h6, h2, h4] at hv
        cases hv
      · exact h
    have hmap : ∀ j c, nthO hp2 j = some c → c.mapOf.isSome = true → ∃ i b, sel[j]? = some i ∧ nthO hp i = some b ∧ b.mapOf = c.mapOf := fun j c hc hm => by
      obtain ⟨i, hi, h⟩ := hget j c hc
      rcases h with ⟨b, h1, h2⟩ | ⟨-, -, h2, -⟩
      · exact ⟨i, b, hi, h1, selB_map h2⟩
      · rw [h2] at hm; cases hm
    refine ⟨σ, ⟨fun j c hc hv => ?_, fun j c hc hro => ?_, fun j k c d hc hro hdk hdv hne => ?_, fun ρ hρ j c hc => ?_, hh.bel, hh.big, fun i hi => ?_, fun j c e hc he => ?_, fun j k c d hc hdk h1 h2 hne => ?_, hh.fam.up2 (fun j c hc hm => ?_) fun j c hc ho => ?_⟩, fun ρ hρ => ?_, hd⟩
    · obtain ⟨i, b, h1, h2, h3⟩ := hlive j c hc hv
      rw [hσ j i h1]; exact hh.old i b h2 (hvoid b c h3 hv)
    · obtain ⟨i, b, h1, h2, h3⟩ := hlive j c hc (own_live hro)
      rw [hσ j i h1]; exact hh.own i b h2 (h3.2.1.symm.trans hro)
    · obtain ⟨i, b, h1, h2, h3⟩ := hlive j c hc (own_live hro)
      obtain ⟨i', b', h1', h2', h3'⟩ := hlive k d hdk hdv
      rw [hσ j i h1, hσ k i' h1']
      exact hh.apart i i' b b' h2 (h3.2.1.symm.trans hro) h2' (hvoid b' d h3' hdv) (fun e => hne (by subst e; exact ndL_iff hok.2 _ _ _ h1' h1))
    · rcases void_or c with hv | hv
      · exact Holds.void hv ρ j w
      · obtain ⟨i, b, h1, h2, h6⟩ := hlive j c hc hv
        have := hh.holds (back ρ) (hagr ρ hρ) i b h2
        unfold Holds at this ⊢
        rw [hcell ρ b c h6, hback ρ j i h1, ← h6.1, ← h6.2.1, ← h6.2.2.1] at this
        exact this
    · have h1 := preOk_spec hok.1 i (hB i hi)
      rw [Nat.zero_add] at h1
      have h2 := hh.ext i hi
      obtain ⟨c, h3, -⟩ := hsel i i h1
      exact ⟨by rw [h3]; rfl, (hσ i i h1).trans h2.2⟩
    · obtain ⟨i, b, h1, h2, h3⟩ := hmap j c hc (by rw [he]; rfl)
      rw [hσ j i h1]; exact hh.maps i b e h2 (h3.trans he)
    · obtain ⟨i, b, h1', h2', h3⟩ := hmap j c hc h1
      obtain ⟨i', b', h1'', h2'', h3'⟩ := hmap k d hdk h2
      rw [hσ j i h1', hσ k i' h1'']
      exact hh.mapA i i' b b' h2' h2'' (by rw [h3]; exact h1) (by rw [h3']; exact h2) (fun e => hne (by subst e; exact ndL_iff hok.2 _ _ _ h1'' h1'))
    · obtain ⟨i, hi, h⟩ := hget j c hc
      rcases h with ⟨b, h1, h2⟩ | ⟨-, -, -, h3⟩
      · exact .inl ⟨i, b, h1, by unfold Blk.famOf; rw [h2.1, h2.2.1, h2.2.2.1]⟩
      · rcases h3 with h3 | h3
        · rw [h3] at hm; cases hm
        · exact .inr h3
    · obtain ⟨i, b, h1, h2, h3⟩ := hlive j c hc (own_live ho)
      exact .inl ⟨i, b, h2, h3.2.1.symm.trans ho, by rw [hσ j i h1]⟩
    · have e := ht (back ρ) (hagr ρ hρ)
      rw [← htm (back ρ) ρ (hlink ρ) (fun j x hx => ?_)]
      · exact e
      · rw [Nat.zero_add, e]
        simp [hx]
  · exact h.elim
end Go.Proofs.YthmdmbpecgakkaaDoor

namespace Go.Proofs.YthmdmbpecgakkaaDoor
open Go.RowKit

/-- a fence about nothing, in a round or outside -/
def FR (r : Option Nat) : Fence := { Fence.wide with round := r }
/-- no operation is a 'defer' -/
def nodef (o : Oper) : Bool := match o.op with | .defer _ => false | _ => true
section
variable {P : Program} (r : Option Nat) {n : Nat}
theorem calls_round {f : FuncId} {args : Array Value} {w : World} {R : Ending → World → Prop} (h : Calls P f args w R) : CallsIn (FR r) n P f args w R :=
  callsIn_wide.2 h
theorem rows_round {s : String} {args : Array Value} {w : World} {R : Value → World → Prop} (h : Rows P s args w R) : RowsIn (FR r) n P s args w R := fun c cs _ => by
  obtain ⟨v, w', hr, hs⟩ := h c cs
  exact ⟨v, w', hr, stepsIn_wide.2 hs⟩
theorem oper_round {o : Oper} (ho : nodef o = true) {a : Act} {w : World} {next : Act → World → Prop} {Q : Exit → Act → World → Prop} (h : o.wp P a w next Q) : o.wpIn (FR r) n P a w next Q := by
  refine ⟨fun _ _ => trivial, ?_⟩
  have he : o.semAt (FR r).round a.eval = execOp a.eval o := by
    unfold nodef at ho
    unfold Oper.semAt
    split
    · rename_i h1 h2; rw [h2] at ho; cases ho
    · rfl
  rw [he]
  unfold Oper.wp at h
  generalize (execOp a.eval o).run P w = x at h ⊢
  have hd : (FR r).depth.isSome = true → 1 ≤ n := fun h => by cases h
  cases x with
  | ok x w' =>
    cases x <;> simp only [Oper.upon, Oper.uponIn] at h ⊢
    all_goals first
      | exact h
      | exact ⟨hd, calls_round r h⟩
      | exact ⟨hd, rows_round r h⟩
  | halt x w' => cases x <;> simp only [Oper.upon, Oper.uponIn] at h ⊢ <;> exact h
theorem list_round {ops : Array Oper} {Q : Exit → Act → World → Prop} (hQ : ¬ LetsOut Q) : ∀ {os : List Oper} (_ : os.all nodef = true) {a : Act} {w : World}, wpList P ops Q os a w → wpListIn (FR r) n P ops Q os a w
  | [], _, a, w, h => h
  | o :: os, ho, a, w, h => by
    simp only [List.all_cons, Bool.and_eq_true] at ho
    unfold wpList at h
    unfold wpListIn
    split
    · rename_i hw
      rw [if_pos hw] at h
      refine oper_round r ho.1 (Oper.wp_mono (fun a w h => list_round hQ ho.2 h) (h.resolve_right fun h => hQ h.2))
    · rename_i hw
      rw [if_neg hw] at h
      exact ⟨fun _ _ => trivial, list_round hQ ho.2 h⟩
theorem any_round {ops : Array Oper} {Q : Exit → Act → World → Prop} (hQ : ¬ LetsOut Q) (ho : ops.toList.all nodef = true) : ∀ {fuel : Nat} {listed : Array Bool} {a : Act} {w : World}, wpAny P .any ops Q fuel listed a w → wpAnyIn (FR r) n P .any ops Q fuel listed a w
  | 0, listed, a, w, h => h
  | fuel + 1, listed, a, w, h => by
    unfold wpAny at h
    unfold wpAnyIn
    refine ⟨h.1, fun i hi => ?_⟩
    have h := h.2 i hi
    unfold wpOp at h
    unfold wpOpIn
    cases hoi : ops[i]? with
    | none => rw [hoi] at h; exact any_round hQ ho h
    | some o =>
      rw [hoi] at h
      simp only at h ⊢
      have hn : nodef o = true := List.all_eq_true.1 ho o (by obtain ⟨hlt, e⟩ := Array.getElem?_eq_some_iff.1 hoi; rw [← e]; simp)
      split
      · rename_i hw
        rw [if_pos hw] at h
        exact oper_round r hn (Oper.wp_mono (fun a w h => any_round hQ ho h) (h.resolve_right fun h => hQ h.2))
      · rename_i hw
        rw [if_neg hw] at h
        exact ⟨fun _ _ => trivial, any_round hQ ho h⟩
end
end Go.Proofs.YthmdmbpecgakkaaDoor

namespace Go.Proofs.YthmdmbpecgakkaaDoor
open Go.RowKit

def StabF (B : Nat) (J : World → Prop) : Prop := ∀ (X Y : World) (row : Option Nat), J X → X.grownBy Y row → (∀ r, row = some r → B ≤ r ∧ ∃ o : Obj, X.heap[r]? = some o ∧ softO o = false) → J Y
theorem StabF.put {B : Nat} {J : World → Prop} (h : StabF B J) {X : World} {l : Nat} {o : Obj} (o' : Obj) (hs : J X) (hB : B ≤ l) (hl : X.heap[l]? = some o) (ho : softO o = false) : J (X.putObj l o') :=
  h X _ (some l) hs (grownBy_putObj' X l o') fun r e => by cases e; exact ⟨hB, o, hl, ho⟩
theorem StabF.new {B : Nat} {J : World → Prop} (h : StabF B J) {X : World} (o : Obj) (hs : J X) : J (X.alloc o) := h X _ none hs (World.grownBy_alloc X o none) fun r e => by cases e
/-- how a round may end -/
def postR (_B : Nat) (I : Nat → World → Prop) (Ix : Code → World → Prop) (k : Nat) (X : World) : Exit → Act → World → Prop
  | .normal, _, Y => KeepsO2 X Y ∧ I (k + 1) Y
  | .ret, _, Y => KeepsO2 X Y ∧ Ix .ret Y
  | .exit id, _, Y => KeepsO2 X Y ∧ Ix (.exit id) Y
  | _, _, _ => False
theorem wp_rangeList {P : Program} {m : Nat} {g : Operand} {ps : Array Tmp} {asg body : Code} {Q : Exit → Act → World → Prop} {a : Act} {w : World} {f : FuncId} {lb : Array Value} (hg : a.eval g = .func (.func f) #[] lb) (hcal : Callable P f)
    {encs : Nat → Array Value} {n : Nat} {G : World → Prop} (hit : IterOk P f lb encs n G) {I : Nat → World → Prop} {Ix : Code → World → Prop} (hI : ∀ k, StabF w.heap.size (I k)) (hIx : ∀ c, StabF w.heap.size (Ix c)) (hG : ∀ k X, I k X → G X) (h0 : I 0 w)
    (hround : ∀ l k X, I k X → k < n → (encs k).size = ps.size ∧ asg.wpIn (FR (some l)) 0 P (Exit.then (fun a₁ X₁ => KeepsO2 X X₁ ∧ ∀ r o o', w.heap.size ≤ r → X₁.heap[r]? = some (.loop o) →
      body.wpIn (FR (some l)) 0 P (postR w.heap.size I Ix k (X₁.putObj r (.loop o'))) a₁ (X₁.putObj r (.loop o'))) (fun _ _ _ => False)) { tmps := (ps.zip (encs k)).foldl (fun t (p, v) => t.setIfInBounds p v) a.tmps, defers := [] } X)
    (hdone : ∀ X, I n X → X.heap[w.heap.size]? = some (.deferred (some [])) → Q .normal { a with defers := markD w.heap.size :: a.defers } X)
    (hstop : ∀ c X, Ix c X → X.heap[w.heap.size]? = some (.deferred (some [])) → c.wpIn (FR none) m P Q { a with defers := markD w.heap.size :: a.defers } X) :
    (Code.rangeFunc g ps asg body).wpIn (FR none) m P Q a w := by
  refine wpIn_rangeFunc ?_
  intro fn _
  obtain ⟨rec, hrec⟩ : ∃ rec : LoopState → Option Code → Loop, rec = fun st pe => { state := st, pending := pe, fn, tmps := a.tmps, params := ps, assign := asg, body, defers := w.heap.size } := ⟨_, rfl⟩
  obtain ⟨X1, hX1⟩ : ∃ X1, (w.alloc (.deferred (some []))).alloc (.loop (rec .ready none)) = X1 := ⟨_, rfl⟩
  have hL1 : X1.heap[w.heap.size + 1]? = some (.loop (rec .ready none)) := by
    rw [← hX1]; have := World.alloc_heap_new (w.alloc (.deferred (some []))) (.loop (rec .ready none)); rwa [World.size_alloc] at this
  have hK1 : X1.heap[w.heap.size]? = some (.deferred (some [])) := by
    rw [← hX1]; exact (Below.heap_alloc _ _ _ (by simp)).trans (World.alloc_heap_new w _)
  have hI1 : I 0 X1 := by rw [← hX1]; exact (hI 0).new _ ((hI 0).new _ h0)
  obtain ⟨fn', c1, c2, c3⟩ := hcal
  refine ⟨w.heap.size + 1, [markD w.heap.size], X1, { target := .fn (.func f) lb, args := #[.func (.yield (w.heap.size + 1)) #[] #[]] }, X1, f, #[.func (.yield (w.heap.size + 1)) #[] #[]] ++ lb, X1, ?_, ?_, fun _ _ => trivial, ?_, (fun h => by cases h), ?_⟩
  · rw [← hX1, hrec]; exact run_enterLoop_outer _ _ _ _ _
  · simp only [resolve, hg]
    simp [go_sem]
  · simp only [invoke, callFunc, Sem.run_bind, run_program, Result.andThen_ok, c1, c2, c3]
    simp
  · refine (CallsIn.mono (CallsIn.more (hit (w.heap.size + 1)
      (fun k X => I k X ∧ X.heap[w.heap.size + 1]? = some (.loop (rec .ready none)) ∧ X.heap[w.heap.size]? = some (.deferred (some [])))
      (fun X => ∃ c, Ix c X ∧ X.heap[w.heap.size + 1]? = some (.loop (rec .done (some c))) ∧ X.heap[w.heap.size]? = some (.deferred (some [])))
      X1 ?_ ?_ (fun k A h => hG k A h.1) ?_ ⟨hI1, hL1, hK1⟩) (Nat.zero_le (m - 1))) ?_ : CallsIn Fence.wide _ P f _ X1 _)
    · rintro k A B ⟨h1, h2, h3⟩ hgr
      refine ⟨hI k A B none h1 hgr (fun r e => by cases e), ?_, ?_⟩
      · rw [hgr.block _ (Array.getElem?_eq_some_iff.1 h2).1 (by simp)]; exact h2
      · rw [hgr.block _ (Array.getElem?_eq_some_iff.1 h3).1 (by simp)]; exact h3
    · rintro A B ⟨c, h1, h2, h3⟩ hgr
      refine ⟨c, hIx c A B none h1 hgr (fun r e => by cases e), ?_, ?_⟩
      · rw [hgr.block _ (Array.getElem?_eq_some_iff.1 h2).1 (by simp)]; exact h2
      · rw [hgr.block _ (Array.getElem?_eq_some_iff.1 h3).1 (by simp)]; exact h3
    · rintro k X ⟨hi, hl, hk⟩ hlen
      obtain ⟨hsz, hb⟩ := hround (w.heap.size + 1) k X hi hlen
      have hy := run_yield (P := P) (args := encs k) hl (by rw [hrec]; exact hsz)
      rw [hrec] at hy
      refine ⟨fn, _, _, _, hy, roundIn_of_wpIn trivial (wpIn_mono (F := FR (some (w.heap.size + 1))) hb ?_)⟩
      rintro e a₁ X₁ hq
      cases e with
      | exit id => exact hq.elim
      | goto t => exact hq.elim
      | ret => exact hq.elim
      | panic ch => exact hq.elim
      | outgrown => exact hq.elim
      | normal =>
      obtain ⟨hko, hb⟩ := hq
      have hl := hko.same _ _ hl rfl
      have hk := hko.same _ _ hk rfl
      have hlt : w.heap.size + 1 < X₁.heap.size := (Array.getElem?_eq_some_iff.1 hl).1
      have hl2 : (X₁.putObj (w.heap.size + 1) (.loop { rec .ready none with state := .busy })).heap[w.heap.size + 1]? = some (.loop { rec .ready none with state := .busy }) := World.putObj_heap_same hlt
      have hk2 : (X₁.putObj (w.heap.size + 1) (.loop { rec .ready none with state := .busy })).heap[w.heap.size]? = some (.deferred (some [])) := (World.putObj_heap_other (by omega)).trans hk
      refine ⟨_, run_beginRound hl (by rw [hrec]), ?_⟩
      have fin : ∀ (jump : Option Code) (Y : World), KeepsO2 (X₁.putObj (w.heap.size + 1) (.loop { rec .ready none with state := .busy })) Y →
          (Instr.endRound (w.heap.size + 1) jump).run P Y = .ok (.bool jump.isNone) (Y.putObj (w.heap.size + 1) (.loop (rec (if jump.isNone then .ready else .done) jump))) ∧
          Y.heap[w.heap.size + 1]? = some (.loop { rec .ready none with state := .busy }) ∧
          (Y.putObj (w.heap.size + 1) (.loop (rec (if jump.isNone then .ready else .done) jump))).heap[w.heap.size + 1]? = some (.loop (rec (if jump.isNone then .ready else .done) jump)) ∧
          (Y.putObj (w.heap.size + 1) (.loop (rec (if jump.isNone then .ready else .done) jump))).heap[w.heap.size]? = some (.deferred (some [])) := fun jump Y hk3 => by
        have hl3 := hk3.same _ _ hl2 rfl
        have := run_endRound (P := P) jump hl3
        rw [hrec] at this ⊢
        exact ⟨this, by rw [hrec] at hl3; exact hl3, World.putObj_heap_same (Array.getElem?_eq_some_iff.1 hl3).1, (World.putObj_heap_other (by omega)).trans (hk3.same _ _ hk2 rfl)⟩
      refine wpIn_mono (F := FR (some (w.heap.size + 1))) (hb (w.heap.size + 1) _ { rec .ready none with state := .busy } (by omega) hl) ?_
      rintro e a3 Y hp
      cases e with
      | normal =>
        obtain ⟨hk3, hi3⟩ := hp
        obtain ⟨hr, hl3, hl4, hk4⟩ := fin none Y hk3
        exact ⟨_, _, hr, .inl ⟨rfl, (hI _).put _ hi3 (by omega) hl3 rfl, hl4, hk4⟩⟩
      | ret =>
        obtain ⟨hk3, hi3⟩ := hp
        obtain ⟨hr, hl3, hl4, hk4⟩ := fin (some .ret) Y hk3
        exact ⟨_, _, hr, .inr ⟨rfl, .ret, (hIx _).put _ hi3 (by omega) hl3 rfl, hl4, hk4⟩⟩
      | exit id =>
        obtain ⟨hk3, hi3⟩ := hp
        obtain ⟨hr, hl3, hl4, hk4⟩ := fin (some (.exit id)) Y hk3
        exact ⟨_, _, hr, .inr ⟨rfl, .exit id, (hIx _).put _ hi3 (by omega) hl3 rfl, hl4, hk4⟩⟩
      | goto t => exact hp.elim
      | panic ch => exact hp.elim
      | outgrown => exact hp.elim
    · rintro e Y ⟨⟨v, rfl⟩, (⟨hi, hl, hk⟩ | ⟨c, hi, hl, hk⟩)⟩
      · exact ⟨none, _, by have := run_endLoop (P := P) hl (by rw [hrec]; simp); rw [hrec] at this; exact this, hdone _ ((hI _).put _ hi (by omega) hl rfl) ((World.putObj_heap_other (by omega)).trans hk)⟩
      · exact ⟨some c, _, by have := run_endLoop (P := P) hl (by rw [hrec]; simp); rw [hrec] at this; exact this, hstop c _ ((hIx c).put _ hi (by omega) hl rfl) ((World.putObj_heap_other (by omega)).trans hk)⟩
/-- a frame's marks are taken in -/
theorem leave_ok {P : Program} {fn : Func} {tmps : Array Value} {R : Ending → World → Prop} {N : Nat} {w0 : Base} {hf : Nat → Option Blk} {ρ : Rho} : ∀ (M : List Nat) (W : World), HRel N w0 hf ρ W → M.Nodup →
    (∀ D ∈ M, N ≤ D ∧ w0.w.heap.size ≤ D ∧ W.heap[D]? = some (.deferred (some []))) → (∀ W', HRel N w0 hf ρ W' → ∃ v, (results fn tmps).run P W' = .ok v W' ∧ R (.returned v) W') →
    LeavesInM Fence.wide 0 P fn tmps R (M.map markD) .returning W
  | [], W, hh, _, _, h => h W hh
  | D :: M, W, hh, hn, hM, h => by
    obtain ⟨h1, h2, h3⟩ := hM D List.mem_cons_self
    obtain ⟨hD, hn⟩ := List.nodup_cons.1 hn
    refine ⟨by simp, .inl ⟨D, W.putObj D (.deferred none), rfl, run_takeDeferred h3, leave_ok M _ (hh.grownBy (grownBy_putObj' W D _) fun r e => by cases e; exact ⟨h2, h1, _, h3, rfl⟩) hn (fun D' hD' => ?_) h⟩⟩
    obtain ⟨g1, g2, g3⟩ := hM D' (List.mem_cons_of_mem _ hD')
    exact ⟨g1, g2, (World.putObj_heap_other (fun e => hD (by rw [← e]; exact hD'))).trans g3⟩
end Go.Proofs.YthmdmbpecgakkaaDoor

namespace Go.Proofs.YthmdmbpecgakkaaDoor
open Go.RowKit

theorem bleq (a b : Nat) : Nat.ble a b = true ↔ a ≤ b := by rw [Nat.ble_eq]
theorem blteq (a b : Nat) : Nat.blt a b = true ↔ a < b := by rw [Nat.blt_eq]
theorem mask_bits {m p j : Nat} (h : (m &&& (2 ^ p - 1)) = 2 ^ p - 1) (hj : j < p) : m.testBit j = true := by
  have := congrArg (fun x => x.testBit j) h
  simpa [Nat.testBit_and, Nat.testBit_two_pow_sub_one, hj] using this
theorem mem_shE {p : Nat} : ∀ {l : List Edge} {x : Edge}, x ∈ shE p l ↔ ∃ e ∈ l, p ≤ e.on ∧ x = { e with on := e.on - p }
  | [], x => by simp [shE]
  | e :: l, x => by
    unfold shE
    have ih := @mem_shE p l x
    split
    · rename_i h
      have h := (bleq _ _).1 h
      rw [List.mem_cons, ih]
      constructor
      · rintro (rfl | ⟨e', h1, h2⟩)
        · exact ⟨e, List.mem_cons_self, h, rfl⟩
        · exact ⟨e', List.mem_cons_of_mem _ h1, h2⟩
      · rintro ⟨e', h1, h2, h3⟩
        rcases List.mem_cons.1 h1 with rfl | h1
        · exact .inl h3
        · exact .inr ⟨e', h1, h2, h3⟩
    · rename_i h
      have h : ¬ p ≤ e.on := fun h' => by rw [(bleq _ _).2 h'] at h; cases h
      rw [ih]
      constructor
      · rintro ⟨e', h1, h2⟩; exact ⟨e', List.mem_cons_of_mem _ h1, h2⟩
      · rintro ⟨e', h1, h2, h3⟩
        rcases List.mem_cons.1 h1 with rfl | h1
        · exact absurd h2 h
        · exact ⟨e', h1, h2, h3⟩
structure CutOk (ops : List Oper) (p : Nat) : Prop where
  hp : p < ops.length
  edges : ∀ i o, i < p → ops[i]? = some o → ∀ e ∈ o.after, Region.binds .any e = true → e.on < i
  wait : ∀ i o, p ≤ i → ops[i]? = some o → ∀ j, j < p → bf ops.toArray i j
  g1 : ∀ i o j w, i < p → ops[i]? = some o → o.guard = some (j, w) → j < p
  g2 : ∀ i o j w, p ≤ i → ops[i]? = some o → o.guard = some (j, w) → p ≤ j
theorem cutP_spec {ms : List Nat} {p : Nat} : ∀ {l : List Oper} {i : Nat}, cutP ms p i l = true → ∀ k o, l[k]? = some o →
    (p ≤ i + k → (nth 0 ms (i + k) &&& (2 ^ p - 1)) = 2 ^ p - 1 ∧ ∀ j w, o.guard = some (j, w) → p ≤ j) ∧ (i + k < p → ∀ j w, o.guard = some (j, w) → j < p)
  | [], _, _, k, o, ho => by simp at ho
  | x :: l, i, h, k, o, ho => by
    simp only [cutP, Bool.and_eq_true] at h
    obtain ⟨h1, h2⟩ := h
    cases k with
    | succ k =>
      have := cutP_spec h2 k o (by simpa using ho)
      rw [show i + 1 + k = i + (k + 1) by omega] at this
      exact this
    | zero =>
      simp at ho; subst ho
      rw [Nat.add_zero]
      split at h1
      · rename_i hb
        have hb := (bleq _ _).1 hb
        simp only [Bool.and_eq_true] at h1
        refine ⟨fun _ => ⟨Nat.eq_of_beq_eq_true h1.2, fun j w hg => ?_⟩, fun h => by omega⟩
        have h1 := h1.1
        rw [hg] at h1
        exact (bleq _ _).1 h1
      · rename_i hb
        have hb : ¬ p ≤ i := fun h' => by rw [(bleq _ _).2 h'] at hb; cases hb
        refine ⟨fun h => absurd h hb, fun _ j w hg => ?_⟩
        rw [hg] at h1
        exact (blteq _ _).1 h1
theorem edgesB_eq : ∀ (l : List Oper) (i : Nat), edgesB i l = edgesOk i l
  | [], _ => rfl
  | o :: l, i => by unfold edgesB edgesOk; rw [edgesB_eq l (i + 1)]
theorem cutF_spec {ops : List Oper} {ms : List Nat} : ∀ {n p q : Nat}, cutF ops ms n p = some q → p ≤ q ∧ q < p + n ∧ edgesB 0 (ops.take q) = true ∧ cutP ms q 0 ops = true
  | 0, p, q, h => by simp [cutF] at h
  | n + 1, p, q, h => by
    unfold cutF at h
    split at h
    · rename_i hc
      cases h
      rw [Bool.and_eq_true] at hc
      exact ⟨Nat.le_refl _, by omega, hc.1, hc.2⟩
    · obtain ⟨h1, h2, h3⟩ := cutF_spec h
      exact ⟨by omega, by omega, h3⟩
theorem cutN_ok {ops : List Oper} {p : Nat} (h : cutN ops = some p) : CutOk ops p := by
  unfold cutN at h
  split at h
  · cases h
  · split at h
    · cases h
    · rename_i o l _
      obtain ⟨h1, h2, h3, h4⟩ := cutF_spec h
      have hp : p < (o :: l).length := by rw [List.length_cons]; omega
      have sp := cutP_spec h4
      refine ⟨hp, fun i o' hi ho e he hb => ?_, fun i o' hi ho j hj => ?_, fun i o' j w hi ho hg => ?_, fun i o' j w hi ho hg => ?_⟩
      · have := edgesOk_spec (edgesB_eq _ 0 ▸ h3) i o' (by rw [List.getElem?_take, if_pos hi]; exact ho) e he hb
        omega
      · have := (sp i o' ho).1 (by omega)
        rw [Nat.zero_add] at this
        exact mask_bits this.1 hj
      · exact (sp i o' ho).2 (by omega) j w hg
      · exact ((sp i o' ho).1 (by omega)).2 j w hg
theorem shL_get (p : Nat) (ops : List Oper) (j : Nat) : (shL p ops)[j]? = (ops[p + j]?).map (shO p) := by
  unfold shL
  rw [List.getElem?_map, List.getElem?_drop]
theorem shL_length (p : Nat) (ops : List Oper) : (shL p ops).length = ops.length - p := by unfold shL; rw [List.length_map, List.length_drop]
theorem exec_sh (ev : Operand → Value) (p : Nat) (o : Oper) : execOp ev (shO p o) = execOp ev o := by cases o; rfl
theorem upon_sh {P : Program} {a : Act} {next : Act → World → Prop} {Q : Exit → Act → World → Prop} {r : Result Next} (p : Nat) (o : Oper) : (shO p o).upon P a next Q r ↔ o.upon P a next Q r := by cases o; exact Iff.rfl
theorem wp_sh {P : Program} {a : Act} {w : World} {next : Act → World → Prop} {Q : Exit → Act → World → Prop} (p : Nat) (o : Oper) : (shO p o).wp P a w next Q ↔ o.wp P a w next Q := by
  unfold Oper.wp
  rw [exec_sh]
  exact upon_sh p o
theorem asks_sh {P : Program} {a : Act} {w : World} (p : Nat) (o : Oper) : (shO p o).asks P a w ↔ o.asks P a w := by cases o; exact Iff.rfl
section
variable {ops : List Oper} {p : Nat} (hc : CutOk ops p)
include hc
theorem wanted_sh {i : Nat} {o : Oper} (hi : p ≤ i) (ho : ops[i]? = some o) (tmps : Array Value) : Region.wanted (shO p o) (yielded (shL p ops).toArray tmps) = Region.wanted o (yielded ops.toArray tmps) := by
  have hg := hc.g2 i o
  unfold Region.wanted shO
  cases hgd : o.guard with
  | none => rfl
  | some x =>
    obtain ⟨j, w⟩ := x
    have hj := hg j w hi ho hgd
    have e : ((shL p ops).toArray[j - p]?).bind (·.dst) = (ops.toArray[j]?).bind (·.dst) := by
      have h1 := shL_get p ops (j - p)
      rw [show p + (j - p) = j by omega] at h1
      simp only [List.getElem?_toArray, h1]
      cases ops[j]? <;> rfl
    simp only [yielded, e]
theorem wanted_tk {i : Nat} {o : Oper} (hi : i < p) (ho : ops[i]? = some o) (tmps : Array Value) : Region.wanted o (yielded (ops.take p).toArray tmps) = Region.wanted o (yielded ops.toArray tmps) := by
  unfold Region.wanted
  cases hgd : o.guard with
  | none => rfl
  | some x =>
    obtain ⟨j, w⟩ := x
    have hj := hc.g1 i o j w hi ho hgd
    have e : ((ops.take p).toArray[j]?).bind (·.dst) = (ops.toArray[j]?).bind (·.dst) := by
      simp only [List.getElem?_toArray, List.getElem?_take, if_pos hj]
    simp only [yielded, e]
theorem cut_getD_lt {L1 L2 : List Bool} (h1 : L1.length = p) {i : Nat} (hi : i < p) (d : Bool) : (L1 ++ L2).toArray.getD i d = L1.toArray.getD i d := by
  have _ := hc
  simp [Array.getD_eq_getD_getElem?, List.getElem?_append, h1, hi]
theorem getD_ge {L1 L2 : List Bool} (h1 : L1.length = p) (i : Nat) (d : Bool) : (L1 ++ L2).toArray.getD (p + i) d = L2.toArray.getD i d := by
  have _ := hc
  simp only [Array.getD_eq_getD_getElem?, List.getElem?_toArray, List.getElem?_append, h1]
  rw [if_neg (by omega), show p + i - p = i by omega]
theorem ready_sh {L2 : List Bool} {i : Nat} : i ∈ Region.ready .any ops.toArray (List.replicate p true ++ L2).toArray ↔ ∃ j, i = p + j ∧ j ∈ Region.ready .any (shL p ops).toArray L2.toArray := by
  have hl : (List.replicate p true).length = p := List.length_replicate
  rw [mem_ready]
  constructor
  · rintro ⟨h1, o, h2, h3⟩
    have hi : p ≤ i := by
      rcases Nat.lt_or_ge i p with h | h
      · rw [cut_getD_lt hc hl h] at h1; simp [Array.getD_eq_getD_getElem?, h] at h1
      · exact h
    obtain ⟨j, rfl⟩ : ∃ j, i = p + j := ⟨i - p, by omega⟩
    refine ⟨j, rfl, mem_ready.2 ⟨by rw [← getD_ge hc hl (L2 := L2)]; exact h1, shO p o, ?_, fun e he hb => ?_⟩⟩
    · have := shL_get p ops j
      simp only [List.getElem?_toArray] at h2 ⊢
      rw [this, h2]; rfl
    · obtain ⟨e', h4, h5, rfl⟩ := mem_shE.1 (by simpa [shO] using he)
      have := h3 e' (by simpa using h4) hb
      rw [← getD_ge hc hl (L2 := L2)]
      show (List.replicate p true ++ L2).toArray.getD (p + (e'.on - p)) false = true
      rw [show p + (e'.on - p) = e'.on by omega]; exact this
  · rintro ⟨j, rfl, hj⟩
    obtain ⟨h1, o, h2, h3⟩ := mem_ready.1 hj
    have := shL_get p ops j
    simp only [List.getElem?_toArray] at h2
    rw [this] at h2
    cases ho : ops[p + j]? with
    | none => rw [ho] at h2; cases h2
    | some o' =>
      rw [ho] at h2
      cases h2
      refine ⟨by rw [getD_ge hc hl]; exact h1, o', by simpa using ho, fun e he hb => ?_⟩
      rcases Nat.lt_or_ge e.on p with h | h
      · rw [cut_getD_lt hc hl h]; simp [Array.getD_eq_getD_getElem?, h]
      · have := h3 { e with on := e.on - p } (by simpa [shO] using mem_shE.2 ⟨e, by simpa using he, h, rfl⟩) hb
        rw [show e.on = p + (e.on - p) by omega, getD_ge hc hl]
        exact this
theorem set_ge {L1 L2 : List Bool} (h1 : L1.length = p) (j : Nat) : (L1 ++ L2).toArray.setIfInBounds (p + j) true = (L1 ++ L2.set j true).toArray := by
  have _ := hc
  rw [List.setIfInBounds_toArray, List.set_append_right _ _ (by omega), h1, show p + j - p = j by omega]
theorem set_lt {L1 L2 : List Bool} (h1 : L1.length = p) {j : Nat} (hj : j < p) : (L1 ++ L2).toArray.setIfInBounds j true = (L1.set j true ++ L2).toArray := by
  have _ := hc
  rw [List.setIfInBounds_toArray, List.set_append_left _ _ (by omega)]
/-- behind the cut -/
theorem cut_behind {P : Program} {Q : Exit → Act → World → Prop} : ∀ (f : Nat) (L2 : List Bool) (a : Act) (w : World), wpAny P .any (shL p ops).toArray Q f L2.toArray a w →
    wpAny P .any ops.toArray Q f (List.replicate p true ++ L2).toArray a w
  | 0, L2, a, w, h => ⟨List.eq_nil_iff_forall_not_mem.2 fun i hi => (by
      obtain ⟨j, -, hj⟩ := (ready_sh hc).1 hi
      rw [h.1] at hj; cases hj), h.2⟩
  | f + 1, L2, a, w, h => by
    refine ⟨fun h0 => h.1 (List.eq_nil_iff_forall_not_mem.2 fun j hj => ?_), fun i hi => ?_⟩
    · have : p + j ∈ Region.ready .any ops.toArray (List.replicate p true ++ L2).toArray := (ready_sh hc).2 ⟨j, rfl, hj⟩
      rw [h0] at this; cases this
    · obtain ⟨j, rfl, hj⟩ := (ready_sh hc).1 hi
      have h1 := h.2 j hj
      obtain ⟨-, o, ho, -⟩ := mem_ready.1 hi
      have ho' : ops[p + j]? = some o := by simpa using ho
      have hso : (shL p ops).toArray[j]? = some (shO p o) := by
        simp only [List.getElem?_toArray, shL_get, ho']; rfl
      rw [set_ge hc List.length_replicate]
      unfold wpOp at h1 ⊢
      rw [hso] at h1
      rw [ho]
      simp only [wanted_sh hc (Nat.le_add_right _ _) ho'] at h1 ⊢
      have step : ∀ a' w', wpAny P .any (shL p ops).toArray Q f (L2.toArray.setIfInBounds j true) a' w' → wpAny P .any ops.toArray Q f (List.replicate p true ++ L2.set j true).toArray a' w' := fun a' w' h' => by
        rw [List.setIfInBounds_toArray] at h'
        exact cut_behind f _ a' w' h'
      split
      · rename_i hw
        rw [if_pos hw] at h1
        rcases h1 with h1 | ⟨h1, h2⟩
        · exact .inl (Oper.wp_mono step ((wp_sh p o).1 h1))
        · exact .inr ⟨(asks_sh p o).1 h1, h2⟩
      · rename_i hw
        rw [if_neg hw] at h1
        exact step _ _ h1
end
/-- ahead of the cut; then behind it -/
def cutQ (P : Program) (p : Nat) (ops : List Oper) (Q : Exit → Act → World → Prop) : Exit → Act → World → Prop
  | .normal, a, w => wpAny P .any (shL p ops).toArray Q (ops.length - p) (Array.replicate (ops.length - p) false) a w
  | .panic c, a, w => Q (.panic c) a w
  | .outgrown, a, w => Q .outgrown a w
  | _, _, _ => False
section
variable {ops : List Oper} {p : Nat} (hc : CutOk ops p)
include hc
theorem ready_tk {L1 L2 : List Bool} (h1 : L1.length = p) {i : Nat} (hi : i < p) : i ∈ Region.ready .any ops.toArray (L1 ++ L2).toArray ↔ i ∈ Region.ready .any (ops.take p).toArray L1.toArray := by
  rw [mem_ready, mem_ready, cut_getD_lt hc h1 hi]
  simp only [List.getElem?_toArray, List.getElem?_take, if_pos hi]
  constructor
  · rintro ⟨h2, o, ho, h3⟩
    exact ⟨h2, o, ho, fun e he hb => by rw [← cut_getD_lt hc h1 (L2 := L2) (Nat.lt_trans (hc.edges i o hi ho e he hb) hi)]; exact h3 e he hb⟩
  · rintro ⟨h2, o, ho, h3⟩
    exact ⟨h2, o, ho, fun e he hb => by rw [cut_getD_lt hc h1 (Nat.lt_trans (hc.edges i o hi ho e he hb) hi)]; exact h3 e he hb⟩
theorem all_tk {L1 : List Bool} (h1 : L1.length = p) (hr : Region.ready .any (ops.take p).toArray L1.toArray = []) : L1 = List.replicate p true := by
  have key : ∀ i, i < p → L1.toArray.getD i true = true := by
    intro i
    induction i using Nat.strongRecOn with
    | _ i ih =>
      intro hi
      cases hl : L1.toArray.getD i true with
      | true => rfl
      | false =>
        have hio : i < ops.length := Nat.lt_trans hi hc.hp
        have ho : ops[i]? = some ops[i] := List.getElem?_eq_getElem hio
        have : i ∈ Region.ready .any (ops.take p).toArray L1.toArray := mem_ready.2 ⟨hl, ops[i], by simp only [List.getElem?_toArray, List.getElem?_take, if_pos hi]; exact ho, fun e he hb => by
          have hlt := hc.edges i _ hi ho e he hb
          have := ih e.on hlt (by omega)
          have hb : e.on < L1.length := by omega
          simp only [Array.getD_eq_getD_getElem?, List.getElem?_toArray, List.getElem?_eq_getElem hb, Option.getD_some] at this ⊢
          exact this⟩
        rw [hr] at this
        cases this
  refine List.ext_getElem (by simp [h1]) fun i h2 h3 => ?_
  have := key i (by omega)
  simpa [Array.getD_eq_getD_getElem?, List.getElem?_eq_getElem h2] using this
omit hc in
theorem nF_rep : ∀ n, nF (List.replicate n true) = 0
  | 0 => rfl
  | n + 1 => by rw [List.replicate_succ, nF]; simp [nF_rep n]
theorem cut_any {P : Program} {Q : Exit → Act → World → Prop} : ∀ (f : Nat) (L1 : List Bool) (a : Act) (w : World), L1.length = p → nF L1 = f →
    Closed ops.toArray (fun k => (L1 ++ List.replicate (ops.length - p) false).toArray.getD k false = true) → wpAny P .any (ops.take p).toArray (cutQ P p ops Q) f L1.toArray a w →
    wpAny P .any ops.toArray Q (f + (ops.length - p)) (L1 ++ List.replicate (ops.length - p) false).toArray a w
  | 0, L1, a, w, h1, hn, hcl, h => by
    have hL := all_tk hc h1 h.1
    rw [Nat.zero_add, hL]
    refine cut_behind hc _ _ _ _ ?_
    have := h.2
    unfold cutQ at this
    simpa using this
  | f + 1, L1, a, w, h1, hn, hcl, h => by
    have hne : Region.ready .any (ops.take p).toArray L1.toArray ≠ [] := fun e => by
      have := all_tk hc h1 e
      rw [this, nF_rep] at hn
      cases hn
    obtain ⟨i0, hi0⟩ := List.exists_mem_of_ne_nil _ hne
    have hi0p : i0 < p := by
      obtain ⟨-, o, ho, -⟩ := mem_ready.1 hi0
      have := (Array.getElem?_eq_some_iff.1 ho).1
      simp at this; omega
    have hun : L1.toArray.getD i0 true = false := (mem_ready.1 hi0).1
    -- nothing behind the cut is ready
    have hlow : ∀ i, i ∈ Region.ready .any ops.toArray (L1 ++ List.replicate (ops.length - p) false).toArray → i < p := fun i hi => by
      rcases Nat.lt_or_ge i p with h' | h'
      · exact h'
      · exfalso
        obtain ⟨-, o, ho, hall⟩ := mem_ready.1 hi
        have hc2 := hcl.ready ho hall
        have hb := hc.wait i o h' (by simpa using ho) i0 hi0p
        rcases hc2.bf (.inr rfl) hb with h2 | h2
        · rw [cut_getD_lt hc h1 hi0p] at h2
          have hb : i0 < L1.length := by omega
          simp only [Array.getD_eq_getD_getElem?, List.getElem?_toArray, List.getElem?_eq_getElem hb, Option.getD_some] at h2 hun
          rw [h2] at hun; cases hun
        · omega
    rw [show f + 1 + (ops.length - p) = (f + (ops.length - p)) + 1 by omega]
    refine ⟨fun h0 => ?_, fun i hi => ?_⟩
    · have := (ready_tk hc h1 (L2 := List.replicate (ops.length - p) false) hi0p).2 hi0
      rw [h0] at this; cases this
    · have hip := hlow i hi
      have hi' := (ready_tk hc h1 hip).1 hi
      have h2 := h.2 i hi'
      obtain ⟨hli, o, ho, hall⟩ := mem_ready.1 hi
      have ho' : ops[i]? = some o := by simpa using ho
      have hto : (ops.take p).toArray[i]? = some o := by simp only [List.getElem?_toArray, List.getElem?_take, if_pos hip]; exact ho'
      rw [set_lt hc h1 hip]
      have hcl2 : Closed ops.toArray (fun k => (L1.set i true ++ List.replicate (ops.length - p) false).toArray.getD k false = true) := by
        have e : (fun k => (L1.set i true ++ List.replicate (ops.length - p) false).toArray.getD k false = true) = (fun k => (L1 ++ List.replicate (ops.length - p) false).toArray.getD k false = true ∨ k = i) := by
          funext k
          apply propext
          rw [← set_lt hc h1 hip]
          have hsz : i < (L1 ++ List.replicate (ops.length - p) false).toArray.size := by simp; omega
          by_cases hk : k = i
          · subst hk
            rw [set_lt hc h1 hip, cut_getD_lt hc (by rw [List.length_set]; exact h1) hip]
            simp [Array.getD_eq_getD_getElem?, h1, hip]
          · simp only [hk, or_false]
            rw [Array.getD_eq_getD_getElem?, Array.getD_eq_getD_getElem?, Array.getElem?_setIfInBounds, if_neg (fun e => hk e.symm)]
        rw [e]
        exact hcl.ready ho hall
      have hnf : nF (L1.set i true) = f := by
        have hb : i < L1.length := by omega
        have hli : L1[i]? = some false := by
          rw [cut_getD_lt hc h1 hip] at hli
          simp only [Array.getD_eq_getD_getElem?, List.getElem?_toArray, List.getElem?_eq_getElem hb, Option.getD_some] at hli
          rw [List.getElem?_eq_getElem hb, hli]
        have := nF_set L1 i hli
        omega
      have step : ∀ a' w', wpAny P .any (ops.take p).toArray (cutQ P p ops Q) f (L1.toArray.setIfInBounds i true) a' w' → wpAny P .any ops.toArray Q (f + (ops.length - p)) (L1.set i true ++ List.replicate (ops.length - p) false).toArray a' w' := fun a' w' h' => by
        rw [List.setIfInBounds_toArray] at h'
        exact cut_any f _ a' w' (by rw [List.length_set]; exact h1) hnf hcl2 h'
      have hout : LetsOut (cutQ P p ops Q) → LetsOut Q := fun ⟨a', w', h'⟩ => ⟨a', w', h'⟩
      unfold wpOp at h2 ⊢
      rw [hto] at h2
      rw [ho]
      simp only [wanted_tk hc hip ho'] at h2 ⊢
      split
      · rename_i hw
        rw [if_pos hw] at h2
        rcases h2 with h2 | ⟨h2, h3⟩
        · refine .inl ?_
          unfold Oper.wp at h2 ⊢
          exact upon_two step (fun _ _ _ h => h) hout h2
        · exact .inr ⟨h2, hout h3⟩
      · rename_i hw
        rw [if_neg hw] at h2
        exact step _ _ h2
theorem cut_all {P : Program} {Q : Exit → Act → World → Prop} {a : Act} {w : World} (h : wpAny P .any (ops.take p).toArray (cutQ P p ops Q) (ops.take p).length (Array.replicate (ops.take p).length false) a w) :
    wpAny P .any ops.toArray Q ops.length (Array.replicate ops.length false) a w := by
  have hp := hc.hp
  have hl : (ops.take p).length = p := by rw [List.length_take]; omega
  rw [hl] at h
  have hn : ∀ n, nF (List.replicate n false) = n := fun n => by
    induction n with
    | zero => rfl
    | succ n ih => simp only [List.replicate_succ, nF, ih]; simp; omega
  have e : List.replicate p false ++ List.replicate (ops.length - p) false = List.replicate ops.length false := by
    rw [List.replicate_append_replicate]; congr 1; omega
  have := cut_any hc (P := P) (Q := Q) p (List.replicate p false) a w List.length_replicate (hn p) (by
    rw [e]
    intro k o _ hk
    exfalso
    have : ∀ (n : Nat), (List.replicate n false)[k]?.getD false = false := fun n => by
      rw [List.getElem?_replicate]; split <;> rfl
    simp only [Array.getD_eq_getD_getElem?, List.getElem?_toArray, this] at hk
    cases hk) (by simpa using h)
  rw [e, show p + (ops.length - p) = ops.length by omega] at this
  simpa using this
end
/-! the rule for a region that draws -/
section
variable {P : Program} {E : Env} (hE : EOk P E) {H : FuncId → List SV → List Blk → (SV → List Blk → Prop) → Prop} (hH : HOk P H)
include hE hH
theorem regb_ok {N : Nat} {w0 : Base} {id : Nat} {ops : List Oper} (hk : okReg ops.toArray = true) {tm : List SV} {hp : List Blk} {K : List SV → List Blk → Prop} (h : vcBase E H id ops tm hp K) {a : Act} {w : World} (hr : RelS N w0 tm hp a w)
    {Q : Exit → Act → World → Prop} (hP : PanS Q) (hQ : ∀ tm' hp' a' w', K tm' hp' → RelS N w0 tm' hp' a' w' → Q .normal a' w') : wpAny P .any ops.toArray Q ops.length (Array.replicate ops.length false) a w := by
  unfold okReg at hk
  simp only [Bool.and_eq_true] at hk
  have hsplit : (ops.take (ops.length - sufN ops) ++ ops.drop (ops.length - sufN ops)) = ops := by rw [List.take_append_drop]
  have fin : ∀ tm' hp', vcOps E H ops.toArray (ops.drop (ops.length - sufN ops)) tm' hp' K → ∀ a' w', RelS N w0 tm' hp' a' w' → chainQ P (ops.drop (ops.length - sufN ops)) Q .normal a' w' := fun tm' hp' h1 a' w' h2 =>
    vcOps_suf hE hH hQ _ _ hk.2 tm' hp' h1 a' w' h2
  have key : wpAny P .any (ops.take (ops.length - sufN ops)).toArray (chainQ P (ops.drop (ops.length - sufN ops)) Q) (ops.take (ops.length - sufN ops)).toArray.size (Array.replicate (ops.take (ops.length - sufN ops)).toArray.size false) a w := by
    unfold vcBase at h
    simp only at h
    split at h
    · exact vcDs_any hE hk.1 h hr fun tm' hp' a' w' h1 h2 => fin tm' hp' h1 a' w' h2
    · have := vcOrd_ok hE hH hk.1 (hP.chain _) (fun tm' hp' a' w' h1 h2 => fin tm' hp' h1 a' w' h2) _ _ (fun k o _ hk => (lisD_none hk).elim) _ _ h _ _ hr
      rw [falses_eq] at this
      simpa using this
  have key := wp_suf _ _ hk.2 key
  rw [hsplit] at key
  simpa using key
theorem vcR_ok {N : Nat} {w0 : Base} {id : Nat} {Q : Exit → Act → World → Prop} {K : List SV → List Blk → Prop} (hP : PanS Q) (hQ : ∀ tm' hp' a' w', K tm' hp' → RelS N w0 tm' hp' a' w' → Q .normal a' w') :
    ∀ (f ops : List Oper), okR f ops = true → ∀ {tm : List SV} {hp : List Blk}, vcR E H id f ops tm hp K → ∀ {a : Act} {w : World}, RelS N w0 tm hp a w → wpAny P .any ops.toArray Q ops.length (Array.replicate ops.length false) a w
  | [], ops, hk, tm, hp, h, a, w, hr => regb_ok hE hH hk h hr hP hQ
  | _ :: f, ops, hk, tm, hp, h, a, w, hr => by
    unfold vcR at h
    unfold okR at hk
    split at h
    · rename_i hcut
      rw [hcut] at hk
      exact regb_ok hE hH hk h hr hP hQ
    · rename_i p hcut
      rw [hcut] at hk
      simp only [Bool.and_eq_true] at hk
      refine cut_all (cutN_ok hcut) (regb_ok hE hH hk.1 h hr (fun c a a' w h => hP c a a' w h) fun tm' hp' a' w' h1 h2 => ?_)
      have := vcR_ok hP hQ f (shL p ops) hk.2 h1 h2
      rw [shL_length] at this
      exact this
end
end Go.Proofs.YthmdmbpecgakkaaDoor

namespace Go.Proofs.YthmdmbpecgakkaaDoor
open Go.RowKit

/-- the regions of a piece of code are such as the reckoner takes; a loop over a function stands outside such loops -/
def okK (top : Bool) : Code → Bool
  | .region _ ops true => okR ops.toList ops.toList && ops.toList.all nodef
  | .region _ ops false => ops.toList.all nodef
  | .seq a b => okK top a && okK top b
  | .cond _ a b => okK top a && okK top b
  | .block _ c => okK top c
  | .loop c => okK top c
  | .rangeFunc _ _ a c => top && (okK false a && okK false c)
  | _ => true
def okC (c : Code) : Bool := okK true c
theorem roundsIn_mono {P : Program} {F : Fence} {j : Nat} {c : Code} {Q : Exit → Act → World → Prop} : ∀ {n m : Nat}, n ≤ m → ∀ {a : Act} {w : World}, Code.roundsIn F j P c Q n a w → Code.roundsIn F j P c Q m a w
  | 0, _, _, _, _, h => h.elim
  | n + 1, 0, h, _, _, _ => by omega
  | n + 1, m + 1, h, a, w, hr => by
    rw [roundsIn_succ] at hr ⊢
    refine wpIn_mono hr fun e a' w' hq => ?_
    cases e with
    | normal => exact roundsIn_mono (by omega) hq
    | exit id => exact hq
    | ret => exact hq
    | goto l => exact hq
    | panic c => exact hq
    | outgrown => exact hq
/-- the world in which the walk began may be taken anew -/
structure Ext (N : Nat) (w0 w1 : Base) : Prop where
  bel : BelO N w0.w w1.w
  B : w1.B = w0.B
  ρ : w1.ρ = w0.ρ
  lo : w1.lo = w0.lo
theorem Ext.refl (N : Nat) (w0 : Base) : Ext N w0 w0 := ⟨BelO.refl _ _, rfl, rfl, rfl⟩
def RelM (N : Nat) (w0 : Base) (tm : List SV) (hp : List Blk) (a : Act) (w : World) : Prop := ∃ w1, Ext N w0 w1 ∧ RelS N w1 tm hp a w
def QL (N : Nat) (w0 : Base) (Q : SE → List SV → List Blk → Prop) : Exit → Act → World → Prop
  | .normal, a, w => ∃ tm hp, Q .normal tm hp ∧ RelM N w0 tm hp a w
  | .exit id, a, w => ∃ tm hp, Q (.exit id) tm hp ∧ RelM N w0 tm hp a w
  | .ret, a, w => ∃ tm hp, Q .ret tm hp ∧ RelM N w0 tm hp a w
  | _, _, _ => False
theorem QL_out {N : Nat} {w0 : Base} {Q : SE → List SV → List Blk → Prop} : ¬ LetsOut (QL N w0 Q) := fun ⟨_, _, h⟩ => h
theorem setPs_ok : ∀ {ps : List Tmp} {xs tm : List SV} {K : List SV → Prop}, setPs ps xs tm K → ps.length = xs.length ∧ ∃ tm1, K tm1 ∧ ∀ (ρ : Rho) (t : Array Value), t.toList = tm.map (SV.den ρ) →
    ((ps.zip (xs.map (SV.den ρ))).foldl (fun (t : Array Value) (p : Tmp × Value) => t.setIfInBounds p.1 p.2) t).toList = tm1.map (SV.den ρ)
  | [], [], tm, K, h => ⟨rfl, tm, h, fun ρ t ht => ht⟩
  | p :: ps, x :: xs, tm, K, h => by
    unfold setPs at h
    rw [updK_eq] at h
    obtain ⟨h1, tm1, hK, h2⟩ := setPs_ok h
    refine ⟨by simp [h1], tm1, hK, fun ρ t ht => ?_⟩
    exact h2 ρ (t.setIfInBounds p (x.den ρ)) (by simp [ht])
  | [], _ :: _, _, _, h => h.elim
  | _ :: _, [], _, _, h => h.elim
theorem size_cons {c : C} {x : List C} (h : sizeC (c :: x) = 0) : False := by
  have h : c.n + sizeC x = 0 := h
  cases c <;> simp only [C.n] at h <;> omega
theorem EOk.at {P : Program} {E : Env} (hE : EOk P E) (n : Nat) : EOk P (E.at n) := ⟨hE.T, hE.D, hE.O, hE.R⟩
theorem keepR_ok {hp hp' : List Blk} : ∀ {ds : List Nat}, keepR ds hp hp' → ∀ b ∈ ds, ∀ blk, nthO hp b = some blk → ∃ blk', nthO hp' b = some blk' ∧ blk'.void = blk.void ∧ (∀ ρ w, Holds ρ blk' b w → Holds ρ blk b w) ∧ ∀ o l, blk.famOf = some (o, l) → ∃ m, blk'.famOf = some (o, l ++ m)
  | [], _, b, hb => by cases hb
  | d :: l, h, b, hb => by
    unfold keepR at h
    split at h
    · rename_i ty ro cs tl ty' ro' cs' tl' h1 h2
      obtain ⟨⟨rfl, rfl, rfl⟩, hc, h⟩ := h
      rcases List.mem_cons.1 hb with rfl | hb
      · intro blk hblk
        rw [h1] at hblk; cases hblk
        refine ⟨_, h2, ?_, fun ρ w hh => ?_, fun o l hl => by cases hl⟩
        · have e : cs = [] ↔ cs' = [] := by
            have s : sizeC cs = sizeC cs' := by
              rw [sizeC_eq fun _ => (0, 0), sizeC_eq fun _ => (0, 0)]
              exact congrArg List.length (hc _)
            have z : ∀ x : List C, sizeC x = 0 → x = [] := fun x hx => by
              cases x with
              | nil => rfl
              | cons c x => exfalso; exact size_cons hx
            constructor
            · intro e; subst e; exact z _ s.symm
            · intro e; subst e; exact z _ s
          unfold Blk.void
          cases ro' with
          | false => rfl
          | true =>
            cases cs with
            | nil => rw [e.1 rfl]
            | cons c cs => cases cs' with
              | nil => cases e.2 rfl
              | cons c' cs' => rfl
        · unfold Holds at hh ⊢
          simp only at hh ⊢
          rw [hc ρ]; exact hh
      · exact keepR_ok h b hb
    · rename_i l1 k l2 k' h1 h2
      obtain ⟨rfl, ⟨m, rfl⟩, h⟩ := h
      rcases List.mem_cons.1 hb with rfl | hb
      · intro blk hblk
        rw [h1] at hblk; cases hblk
        refine ⟨_, h2, rfl, fun ρ w hh => ⟨hh.1, fun h => by cases h⟩, fun o l hl => ⟨m, ?_⟩⟩
        unfold Blk.famOf famC at hl ⊢
        split at hl
        · rename_i e1 _ e3
          cases e1; cases hl
          simp only at e3
          subst e3; rfl
        · rename_i e1 _ e3
          cases e1; cases hl
          simp only at e3
          subst e3; rfl
        · cases hl
      · exact keepR_ok h b hb
    · exact h.elim
theorem nthO_lt {α : Type} {l : List α} {i : Nat} (h : (nthO l i).isSome = true) : i < l.length := by
  rw [nthO_eq] at h
  obtain ⟨x, hx⟩ := Option.isSome_iff_exists.1 h
  exact (List.getElem?_eq_some_iff.1 hx).1
theorem againR_ok {N n0 : Nat} {w0 : Base} {hp : List Blk} {ρ : Rho} {w : World} {J : List Blk → Prop} (hB : ∀ i, w0.B i → i < n0) (hlo : w0.lo ≤ w0.w.heap.size) (hh : HRel N w0 (nthO hp) ρ w) (h : againR n0 hp J) : ∃ hp2 ρ2, HRel N w0 (nthO hp2) ρ2 w ∧ J hp2 := by
  rcases h with h | h
  · exact ⟨hp, ρ, hh, h⟩
  · obtain ⟨sel, keep, pf, h⟩ := h
    have hr : RelS N w0 [] hp { tmps := #[], defers := [] } w := ⟨ρ, hh, fun _ _ => rfl, Marks.nil _ _ hlo⟩
    obtain ⟨tm1, hp1, ⟨tm2, hp2, e1, e2, hJ⟩, hr1⟩ := endK_ok hB hr (h _)
    obtain ⟨ρ2, hh2, -⟩ := hr1.same e1 e2
    exact ⟨hp2, ρ2, hh2, hJ⟩
theorem keepR_trans {A B C : List Blk} : ∀ {ds : List Nat}, keepR ds A B → keepR ds B C → keepR ds A C
  | [], _, _ => trivial
  | b :: l, h, k => by
    unfold keepR at h k ⊢
    split at h
    · rename_i ty ro cs tl ty' ro' cs' tl' h1 h2
      obtain ⟨⟨rfl, rfl, rfl⟩, hc, h⟩ := h
      rw [h2] at k
      split at k
      · rename_i k1 k2
        cases k1
        obtain ⟨⟨rfl, rfl, rfl⟩, kc, k⟩ := k
        rw [h1, k2]
        exact ⟨⟨rfl, rfl, rfl⟩, fun ρ => (hc ρ).trans (kc ρ), keepR_trans h k⟩
      · rename_i k1 k2; cases k1
      · exact k.elim
    · rename_i l1 q l2 q' h1 h2
      obtain ⟨rfl, ⟨m, rfl⟩, h⟩ := h
      rw [h2] at k
      split at k
      · rename_i k1 k2; cases k1
      · rename_i k1 k2
        cases k1
        obtain ⟨rfl, ⟨m', rfl⟩, k⟩ := k
        rw [h1, k2]
        exact ⟨rfl, ⟨m ++ m', List.append_assoc _ _ _⟩, keepR_trans h k⟩
      · exact k.elim
    · exact h.elim
section
variable {P : Program} (hm : P.follows .mixedOrders = true) {H : FuncId → List SV → List Blk → (SV → List Blk → Prop) → Prop} (hH : HOk P H)
include hm hH
theorem vcC_ok {E : Env} (hE : EOk P E) {N : Nat} {r : Option Nat} {n : Nat} {w0 : Base} (hB : ∀ i, w0.B i → i < E.n0) : ∀ (c : Code) (_ : okK r.isNone c = true) (tm : List SV) (hp : List Blk) (Q : SE → List SV → List Blk → Prop), vcC E H c tm hp Q → ∀ a w, RelM N w0 tm hp a w → c.wpIn (FR r) n P (QL N w0 Q) a w
  | .skip, _, tm, hp, Q, h, a, w, hr => wpIn_skip ⟨tm, hp, h, hr⟩
  | .ret, _, tm, hp, Q, h, a, w, hr => wpIn_ret ⟨tm, hp, h, hr⟩
  | .exit id, _, tm, hp, Q, h, a, w, hr => wpIn_exit ⟨tm, hp, h, hr⟩
  | .seq x y, hk, tm, hp, Q, h, a, w, hr => by
    simp only [okK, Bool.and_eq_true] at hk
    refine wpIn_seq (wpIn_mono (vcC_ok hE hB x hk.1 tm hp _ h a w hr) fun e a' w' hq => ?_)
    cases e with
    | normal => obtain ⟨tm', hp', h1, h2⟩ := hq; exact vcC_ok hE hB y hk.2 tm' hp' Q h1 a' w' h2
    | exit id => exact hq
    | ret => exact hq
    | goto l => exact hq.elim
    | panic c => exact hq.elim
    | outgrown => exact hq.elim
  | .cond c x y, hk, tm, hp, Q, h, a, w, hr => by
    simp only [okK, Bool.and_eq_true] at hk
    unfold vcC at h
    split at h
    · rename_i b hb
      have he : a.eval c = .bool b := by
        obtain ⟨w1, -, ρ0, -, ht, -⟩ := hr
        rw [eval_ok (ht ρ0 (Agr.refl _ _)), evr, hb]; rfl
      obtain ⟨h1, h2⟩ := bcase_of h
      exact wpIn_cond_split he (fun hb => vcC_ok hE hB x hk.1 tm hp Q (h1 hb) a w hr) (fun hb => vcC_ok hE hB y hk.2 tm hp Q (h2 hb) a w hr)
    · cases h
  | .block id c, hk, tm, hp, Q, h, a, w, hr => by
    refine wpIn_block (wpIn_mono (vcC_ok hE hB c hk tm hp _ h a w hr) fun e a' w' hq => ?_)
    cases e with
    | normal => exact hq
    | exit id' =>
      obtain ⟨tm', hp', h1, h2⟩ := hq
      simp only at h1
      show if id' = id then _ else _
      split
      · rename_i e; rw [if_pos e] at h1; exact ⟨tm', hp', h1, h2⟩
      · rename_i e; rw [if_neg e] at h1; exact ⟨tm', hp', h1, h2⟩
    | ret => exact hq
    | goto l => exact hq.elim
    | panic c => exact hq.elim
    | outgrown => exact hq.elim
  | .loop c, hk, tm, hp, Q, h, a, w, hr => by
    have hk : okK r.isNone c = true := hk
    have ih : ∀ tm hp Q, vcC E H c tm hp Q → ∀ a w, RelM N w0 tm hp a w → c.wpIn (FR r) n P (QL N w0 Q) a w := fun tm hp Q h a w hr => vcC_ok hE hB c hk tm hp Q h a w hr
    have unroll : ∀ j tm hp, rounds (fun tm hp Q => vcC E H c tm hp Q) Q j tm hp → ∀ a w, RelM N w0 tm hp a w → Code.roundsIn (FR r) n P c (QL N w0 Q) j a w := by
      intro j
      induction j with
      | zero => intro tm hp h; exact h.elim
      | succ j ihn =>
        intro tm hp h a w hr
        rw [roundsIn_succ]
        refine wpIn_mono (ih tm hp _ h a w hr) fun e a' w' hq => ?_
        cases e with
        | normal => obtain ⟨tm', hp', h1, h2⟩ := hq; exact ihn tm' hp' h1 a' w' h2
        | exit id => exact hq
        | ret => exact hq
        | goto l => exact hq.elim
        | panic c => exact hq.elim
        | outgrown => exact hq.elim
    unfold vcC at h
    unfold loopQ at h
    split at h
    · rename_i j hn
      exact wpIn_loop_rounds (j + 1) (unroll _ tm hp h a w hr)
    · rcases h with ⟨j, h⟩ | ⟨I, hent, hround⟩
      · exact wpIn_loop_rounds j (unroll j tm hp h a w hr)
      · have enter : ∀ {tm hp} {J : List SV → List Blk → Prop} {a : Act} {w : World}, entK E.n0 tm hp J → RelM N w0 tm hp a w → ∃ tm2 hp2, J tm2 hp2 ∧ RelM N w0 tm2 hp2 a w := fun h hr => by
          obtain ⟨sel, keep, pf, h⟩ := h
          obtain ⟨w1, hx, hr⟩ := hr
          obtain ⟨tm1, hp1, ⟨tm2, hp2, e1, e2, hJ⟩, hr1⟩ := endK_ok (by rw [hx.B]; exact hB) hr (h _)
          exact ⟨tm2, hp2, hJ, w1, hx, hr1.same e1 e2⟩
        have lex : ∀ m tm hp', I m tm hp' → ∀ a w, RelM N w0 tm hp' a w → Code.roundsIn (FR r) n P c (QL N w0 Q) (m + 1) a w := by
          intro m
          induction m using Nat.strongRecOn with
          | _ m ihm =>
            intro tm hp' hI a w hr
            rw [roundsIn_succ]
            refine wpIn_mono (ih tm hp' _ (hround m tm hp' hI) a w hr) fun e a' w' hq => ?_
            cases e with
            | normal =>
              obtain ⟨tm', hp', h2, h3⟩ := hq
              obtain ⟨tm2, hp2, ⟨n', h1, hI2⟩, h4⟩ := enter h2 h3
              exact roundsIn_mono (by omega) (ihm n' h1 tm2 hp2 hI2 a' w' h4)
            | exit id => exact hq
            | ret => exact hq
            | goto l => exact hq.elim
            | panic c => exact hq.elim
            | outgrown => exact hq.elim
        obtain ⟨tm2, hp2, ⟨m, h0⟩, hr2⟩ := enter hent hr
        exact wpIn_loop_rounds _ (lex m tm2 hp2 h0 a w hr2)
  | .region id ops draw, hk, tm, hp, Q, h, a, w, hr => by
    unfold vcC at h
    obtain ⟨w1, hx, hr⟩ := hr
    cases draw with
    | true =>
      have hk : (okR ops.toList ops.toList && ops.toList.all nodef) = true := hk
      obtain ⟨hk, hnd⟩ := Bool.and_eq_true_iff.1 hk
      have key := vcR_ok hE hH (Q := QL N w0 Q) (fun _ _ _ _ h => h) (fun tm' hp' a' w' h1 h2 => ⟨tm', hp', h1, w1, hx, h2⟩) ops.toList ops.toList hk h hr.drew
      simp only [Array.toArray_toList, Array.length_toList] at key
      exact wpIn_region_any hm (any_round r QL_out hnd key)
    | false => exact wpIn_region_list (list_round r QL_out hk (vcOps_ok hE hH (fun tm' hp' a' w' h1 h2 => ⟨tm', hp', h1, w1, hx, h2⟩) ops.toList tm hp h a w hr))
  | .rangeFunc g ps asg body, hk, tm, hp, Q, h, a, w, hr => by
    simp only [okK, Bool.and_eq_true] at hk
    obtain ⟨hr0, hka, hk⟩ := hk
    have hrn : r = none := by cases r <;> simp_all
    subst hrn
    unfold vcC at h
    split at h
    · rename_i f caps hg
      · obtain ⟨ds, xs, ⟨hcap0, h⟩, hcal, hpure, hit⟩ := hE.R f caps _ _ h
        obtain ⟨w1, hx, ρ0, hh, ht, M, hMd, hMn, hMlo, hM⟩ := hr
        have hev : a.eval g = .func (.func f) #[] (caps.map fun p => adr ρ0 p.1 p.2).toArray := by
          rw [eval_ok (ht ρ0 (Agr.refl _ _)), evr, hg]; rfl
        -- the base of the rounds
        let wb : Base := ⟨w, fun i => w1.B i ∨ (nthO hp i).isSome = true, ρ0, 0⟩
        have hin : ∀ i, w1.B i ∨ (nthO hp i).isSome = true → (nthO hp i).isSome = true := fun i hi => hi.elim (fun hi => (hh.ext i hi).1) id
        have hhb : HRel N wb (nthO hp) ρ0 w := ⟨hh.old, hh.own, hh.apart, hh.holds, BelO.refl _ _, hh.big, fun i hi => ⟨hin i hi, rfl⟩, hh.maps, hh.mapA, hh.fam⟩
        have back : ∀ {hf : Nat → Option Blk} {ρ : Rho} {X : World}, HRel N wb hf ρ X → HRel N w1 hf ρ X := fun h => h.rebase hh.bel fun i hi => ⟨.inl hi, (hh.ext i hi).2⟩
        have agr : ∀ {hp' : List Blk} {ρ' : Rho} {X : World}, HRel N wb (nthO hp') ρ' X → ∀ ρ, Agr (nthO hp') ρ ρ' → Agr (nthO hp) ρ ρ0 := fun h ρ hρ i hi => (hρ i (h.ext i (.inr hi)).1).trans (h.ext i (.inr hi)).2
        let I : Nat → World → Prop := fun k X => ∃ hp' ρ', HRel N wb (nthO hp') ρ' X ∧ keepR ds hp hp' ∧ rangeK hp.length ps.toList ds (fun tm hp Q => vcC (E.at hp.length) H asg tm hp fun e tm hp => (match e with | .normal => vcC (E.at hp.length) H body tm hp Q | _ => False)) tm Q (xs.drop k) hp'
        let Ix : Code → World → Prop := fun c X => (c = .ret ∧ ∃ hp' ρ', HRel N wb (nthO hp') ρ' X ∧ Q .ret tm hp') ∨ ∃ id, c = .exit id ∧ ∃ hp' ρ', HRel N wb (nthO hp') ρ' X ∧ Q (.exit id) tm hp'
        have grow : ∀ {hp' : List Blk} {ρ' : Rho} {X Y : World} {row : Option Nat}, HRel N wb (nthO hp') ρ' X → X.grownBy Y row → (∀ r, row = some r → w.heap.size ≤ r ∧ ∃ o : Obj, X.heap[r]? = some o ∧ softO o = false) → HRel N wb (nthO hp') ρ' Y := fun h hg hr =>
          h.grownBy hg fun r e => ⟨(hr r e).1, Nat.le_trans hh.big (hr r e).1, (hr r e).2⟩
        have hlow : w1.w.heap.size ≤ w.heap.size := hh.bel.below.size
        -- behind the loop
        have fin : ∀ {hp' : List Blk} {ρ' : Rho} {X : World}, HRel N wb (nthO hp') ρ' X → X.heap[w.heap.size]? = some (.deferred (some [])) → RelM N w0 tm hp' { a with defers := markD w.heap.size :: a.defers } X := fun {hp' ρ' X} h hD => by
          refine ⟨⟨X, w1.B, w1.ρ, w1.lo⟩, ⟨hx.bel.trans (back h).bel, hx.B, hx.ρ, hx.lo⟩, ρ', ⟨h.old, h.own, h.apart, h.holds, BelO.refl _ _, h.big, (back h).ext, h.maps, h.mapA, h.fam⟩, fun ρ hρ => ht ρ (agr h ρ hρ), w.heap.size :: M, by rw [hMd]; rfl, ?_, ?_, ?_⟩
          · refine List.nodup_cons.2 ⟨fun hD' => ?_, hMn⟩
            have := (Array.getElem?_eq_some_iff.1 (hM _ hD').2.2).1
            omega
          · have := h.bel.below.size
            show w1.lo ≤ X.heap.size
            have e : wb.w.heap.size = w.heap.size := rfl
            omega
          · intro D hD'
            rcases List.mem_cons.1 hD' with rfl | hD'
            · exact ⟨hh.big, by show w1.lo ≤ _; omega, hD⟩
            · obtain ⟨g1, g2, g3⟩ := hM D hD'
              exact ⟨g1, g2, (back h).bel.oth.same D _ g3 rfl⟩
        refine wp_rangeList hev hcal (hit ρ0) (I := I) (Ix := Ix) (fun k X Y row h hg hr => ?_) (fun c X Y row h hg hr => ?_) (fun k X h => ?_) ⟨hp, ρ0, hhb, hcap0, by rw [List.drop_zero]; exact h⟩ (fun l k X h hk' => ?_) (fun X h hD => ?_) (fun c X h hD => ?_)
        · obtain ⟨hp', ρ', h1, h2⟩ := h
          exact ⟨hp', ρ', grow h1 hg hr, h2⟩
        · rcases h with ⟨e, hp', ρ', h1, h2⟩ | ⟨id, e, hp', ρ', h1, h2⟩
          · exact .inl ⟨e, hp', ρ', grow h1 hg hr, h2⟩
          · exact .inr ⟨id, e, hp', ρ', grow h1 hg hr, h2⟩
        · obtain ⟨hp', ρ', h1, h2, -⟩ := h
          refine ⟨ρ', fun i hi => (h1.ext i (.inr hi)).2, fun b hb blk hblk => ?_⟩
          obtain ⟨blk', e1, e2, e3, e4⟩ := keepR_ok h2 b hb blk hblk
          refine ⟨e3 _ _ (h1.holds ρ' (Agr.refl _ _) b _ e1), fun hv => h1.old b blk' e1 (by rw [e2]; exact hv), fun o l hl e he => ?_⟩
          obtain ⟨m, e5⟩ := e4 o l hl
          have f := (h1.fam b blk' o _ e e1 e5 (List.mem_append_left _ he)).1
          exact ⟨f.pure, f.row, fun h => (by cases h), f.holds, fun _ => f.lt⟩
        · obtain ⟨hp', ρ', h1, h2, h3⟩ := h
          obtain ⟨x, rest, hdr⟩ : ∃ x rest, xs.drop k = x :: rest := ⟨_, _, List.drop_eq_getElem_cons hk'⟩
          have hrest : xs.drop (k + 1) = rest := by
            rw [← List.drop_drop, hdr]; rfl
          have hxk : nth [] xs k = x := by
            have : xs[k]? = some x := by
              have := congrArg (fun l => l[0]?) hdr
              simpa using this
            rw [nth_eq, this]; rfl
          have hxm : x ∈ xs := by
            have : x ∈ xs.drop k := by rw [hdr]; exact List.mem_cons_self
            exact List.mem_of_mem_drop this
          rw [hdr] at h3
          unfold rangeK at h3
          obtain ⟨hlen, tm1, h3, hset⟩ := setPs_ok h3
          rw [hxk]
          refine ⟨by simp [← hlen], ?_⟩
          let wr : Base := ⟨X, fun i => wb.B i ∨ (nthO hp' i).isSome = true, ρ', 0⟩
          have hhr : HRel N wr (nthO hp') ρ' X := ⟨h1.old, h1.own, h1.apart, h1.holds, BelO.refl _ _, h1.big, fun i hi => ⟨hi.elim (fun hi => (h1.ext i hi).1) id, rfl⟩, h1.maps, h1.mapA, h1.fam⟩
          have hrel : RelM N wr tm1 hp' { tmps := (ps.zip (x.map (SV.den ρ0)).toArray).foldl (fun t (p, v) => t.setIfInBounds p v) a.tmps, defers := [] } X := by
            refine ⟨wr, Ext.refl _ _, ρ', hhr, fun ρ hρ => ?_, Marks.nil _ _ (Nat.zero_le _)⟩
            have h6 := hset ρ a.tmps (ht ρ (agr h1 ρ hρ))
            have h7 : x.map (SV.den ρ0) = x.map (SV.den ρ) := List.map_congr_left fun y hy => hpure x hxm y hy ρ0 ρ
            rw [h7]
            rw [← Array.foldl_toList, Array.toList_zip]
            exact h6
          have wb1 : ∀ {hf : Nat → Option Blk} {ρ : Rho} {Y : World} {w2 : Base}, Ext N wr w2 → HRel N w2 hf ρ Y → HRel N wb hf ρ Y := fun hx2 h => h.rebase (h1.bel.trans hx2.bel) fun i hi => by
            rw [hx2.B, hx2.ρ]; exact ⟨.inl hi, (h1.ext i hi).2⟩
          refine wpIn_mono (vcC_ok (r := some l) (n := 0) (w0 := wr) (hE.at _) (fun i hi => nthO_lt (hi.elim (fun hi => (h1.ext i hi).1) id)) asg hka tm1 hp' _ h3 _ X hrel) fun e a1 X1 hq => ?_
          cases e with
          | ret => obtain ⟨_, _, h, _⟩ := hq; exact h.elim
          | exit id => obtain ⟨_, _, h, _⟩ := hq; exact h.elim
          | goto l => exact hq.elim
          | panic c => exact hq.elim
          | outgrown => exact hq.elim
          | normal =>
          obtain ⟨tm2, hp2, h9, w2, hx2, ρ2, hh2, ht2, M2, g1, g2, g3, g4⟩ := hq
          refine ⟨(hx2.bel.trans hh2.bel).oth, fun rr o o' hr1 hr2 => ?_⟩
          have hgr : X1.grownBy (X1.putObj rr (.loop o')) (some rr) := grownBy_putObj' _ _ _
          have hwb2 : HRel N wb (nthO hp2) ρ2 (X1.putObj rr (.loop o')) := grow (wb1 hx2 hh2) hgr fun r e => by cases e; exact ⟨hr1, _, hr2, rfl⟩
          let w3 : Base := ⟨X1.putObj rr (.loop o'), fun i => (nthO hp2 i).isSome = true, ρ2, w2.lo⟩
          have hh3 : HRel N w3 (nthO hp2) ρ2 (X1.putObj rr (.loop o')) := hh2.anew hgr (fun r e => by cases e; exact ⟨_, hr2, rfl⟩) w2.lo
          have hrel3 : RelM N w3 tm2 hp2 a1 (X1.putObj rr (.loop o')) := by
            refine ⟨w3, Ext.refl _ _, ρ2, hh3, ht2, M2, g1, g2, ?_, fun D hD => ?_⟩
            · have q1 := hh2.bel.below.size
              have q2 := hgr.size
              show w2.lo ≤ (X1.putObj rr (.loop o')).heap.size
              omega
            · obtain ⟨d1, d2, d3⟩ := g4 D hD
              refine ⟨d1, d2, ?_⟩
              have d4 := hh2.bel.oth.same D _ d3 rfl
              exact (World.putObj_heap_other (fun e => by rw [e, hr2] at d4; cases d4)).trans d4
          have wb3 : ∀ {hf : Nat → Option Blk} {ρ : Rho} {Y : World} {w4 : Base}, Ext N w3 w4 → HRel N w4 hf ρ Y → HRel N wb hf ρ Y := fun hx4 h => h.rebase (hwb2.bel.trans hx4.bel) fun i hi => by
            rw [hx4.B, hx4.ρ]; exact hwb2.ext i hi
          refine wpIn_mono (vcC_ok (r := some l) (n := 0) (w0 := w3) (hE.at _) (fun i hi => nthO_lt hi) body hk tm2 hp2 _ h9 _ _ hrel3) fun e a' Y hq => ?_
          have oth : ∀ {tm' : List SV} {hp'' : List Blk}, RelM N w3 tm' hp'' a' Y → KeepsO2 (X1.putObj rr (.loop o')) Y ∧ ∃ ρ'', HRel N wb (nthO hp'') ρ'' Y := fun h => by
            obtain ⟨w4, hx4, ρ'', h4, -⟩ := h
            exact ⟨(hx4.bel.trans h4.bel).oth, ρ'', wb3 hx4 h4⟩
          cases e with
          | normal =>
            obtain ⟨tm', hp'', h5, h6⟩ := hq
            obtain ⟨h7, ρ'', h8⟩ := oth h6
            obtain ⟨hp3, ρ3, h8, h4, h5⟩ := againR_ok (fun i hi => nthO_lt (hin i hi)) (Nat.zero_le _) h8 h5
            exact ⟨h7, hp3, ρ3, h8, keepR_trans h2 h4, by rw [hrest]; exact h5⟩
          | ret =>
            obtain ⟨tm', hp'', h5, h6⟩ := hq
            obtain ⟨h7, ρ'', h8⟩ := oth h6
            exact ⟨h7, .inl ⟨rfl, hp'', ρ'', h8, h5⟩⟩
          | exit id =>
            obtain ⟨tm', hp'', h5, h6⟩ := hq
            obtain ⟨h7, ρ'', h8⟩ := oth h6
            exact ⟨h7, .inr ⟨id, rfl, hp'', ρ'', h8, h5⟩⟩
          | goto l => exact hq.elim
          | panic c => exact hq.elim
          | outgrown => exact hq.elim
        · obtain ⟨hp', ρ', h1, h2, h3⟩ := h
          rw [List.drop_length] at h3
          exact ⟨tm, hp', h3, fin h1 hD⟩
        · rcases h with ⟨rfl, hp', ρ', h1, h2⟩ | ⟨id, rfl, hp', ρ', h1, h2⟩
          · exact wpIn_ret ⟨tm, hp', h2, fin h1 hD⟩
          · exact wpIn_exit ⟨tm, hp', h2, fin h1 hD⟩
    · exact h.elim
  | .scope _, _, tm, hp, Q, h, a, w, hr => h.elim
  | .label _, _, tm, hp, Q, h, a, w, hr => h.elim
  | .goto _, _, tm, hp, Q, h, a, w, hr => h.elim
  | .refuse _, _, tm, hp, Q, h, a, w, hr => h.elim
end
end Go.Proofs.YthmdmbpecgakkaaDoor

namespace Go.Proofs.YthmdmbpecgakkaaDoor
open Go.RowKit

def gRes (tmps : Array Value) : ResultVar → Sem Value
  | .tmp t => pure (tmps.getD t undef)
  | .cell a t => do loadVar t (← asAddr (tmps.getD a undef))
theorem getD_den {a : Act} {tm : List SV} {ρ : Rho} (h : a.tmps.toList = tm.map (SV.den ρ)) (t : Nat) : a.tmps.getD t undef = (nth uv tm t).den ρ := by
  rw [nth_den, ← h]; simp
theorem sv_den (v : T1) (ρ : Rho) : v.sv.den ρ = v.den ρ := by cases v <;> rfl
section
variable {P : Program} {T : TypeId → Option TI} (hT : TOk P T)
include hT
theorem resV_ok {r : ResultVar} {tm : List SV} {hp : List Blk} {v : T1} (h : resV T r tm hp = some v) {a : Act} {ρ : Rho} {w : World} (ht : a.tmps.toList = tm.map (SV.den ρ)) (hh : ∀ i b, nthO hp i = some b → Holds ρ b i w) :
    (gRes a.tmps r).run P w = .ok (v.den ρ) w := by
  unfold resV at h
  split at h
  · rename_i t
    simp only [gRes, getD_den ht, Sem.run_pure]
    split at h
    · rename_i x hx; cases h; rw [hx]; rfl
    · rename_i l hx; cases h; rw [hx]; rfl
    · cases h
  · rename_i x t
    split at h
    · rename_i b off ti hx hti
      split at h
      · rename_i blk hb
        have hl : ∀ u, partC ti.agg blk.cs off ti.size = some u → (gRes a.tmps (.cell x t)).run P w = .ok (u.den ρ) w := fun u hu => by
          have := run_load_sx hT hti (hh b blk hb) hu
          simp only [Instr.loadAt, adr, Instr.sureAddr, Sem.run_bind, Sem.run_pure, Result.andThen_ok] at this
          have e : (SV.c (C.ptr b off)).den ρ = adr ρ b off := rfl
          simp only [gRes, getD_den ht, hx, e, adr, asAddr, Sem.run_bind, Sem.run_pure, Result.andThen_ok]
          exact this
        split at h
        · rename_i y hy; cases h; exact hl _ hy
        · rename_i l hy; cases h; exact hl _ hy
        · cases h
      · cases h
    · cases h
theorem resL_ok {tm : List SV} {hp : List Blk} : ∀ {rs : List ResultVar} {K : List T1 → Prop}, resL T rs tm hp K → ∃ l, K l ∧ ∀ {a : Act} {ρ : Rho} {w : World}, a.tmps.toList = tm.map (SV.den ρ) → (∀ i b, nthO hp i = some b → Holds ρ b i w) →
    (rs.mapM (gRes a.tmps)).run P w = .ok (l.map (T1.den ρ)) w
  | [], K, h => ⟨[], h, fun _ _ => rfl⟩
  | r :: rs, K, h => by
    unfold resL at h
    split at h
    · rename_i v hv
      rw [T1.force_eq] at h
      obtain ⟨l, hK, hl⟩ := resL_ok h
      refine ⟨v :: l, hK, fun ht hh => ?_⟩
      simp [List.mapM_cons, resV_ok hT hv ht hh, hl ht hh]
    · cases h
theorem retQ_ok {fn : Func} {tm : List SV} {hp : List Blk} {K : SV → List Blk → Prop} (h : retQ T fn.results.toList tm hp K) : ∃ v, K v hp ∧ ∀ {a : Act} {ρ : Rho} {w : World}, a.tmps.toList = tm.map (SV.den ρ) → (∀ i b, nthO hp i = some b → Holds ρ b i w) →
    (results fn a.tmps).run P w = .ok (v.den ρ) w := by
  unfold retQ at h
  obtain ⟨l, hK, hl⟩ := resL_ok hT h
  have hrun : ∀ {a : Act} {ρ : Rho} {w : World}, a.tmps.toList = tm.map (SV.den ρ) → (∀ i b, nthO hp i = some b → Holds ρ b i w) →
      (results fn a.tmps).run P w = .ok (if h : (l.map (T1.den ρ)).toArray.size = 1 then (l.map (T1.den ρ)).toArray[0] else .tuple (l.map (T1.den ρ)).toArray) w := fun {a ρ w} ht hh => by
    have := hl ht hh
    have e : results fn a.tmps = (do let vs ← fn.results.mapM (gRes a.tmps); pure (if h : vs.size = 1 then vs[0] else .tuple vs)) := by
      unfold results
      congr 1
    rw [e, Array.mapM_eq_mapM_toList]
    simp [this]
  split at hK
  · rename_i v
    exact ⟨v.sv, hK, fun ht hh => by rw [hrun ht hh]; simp [sv_den]⟩
  · rename_i hne
    refine ⟨.tup l, hK, fun ht hh => ?_⟩
    rw [hrun ht hh, dif_neg]
    · rfl
    · intro h1
      simp only [List.size_toArray, List.length_map] at h1
      obtain ⟨x, rfl⟩ := List.length_eq_one_iff.1 h1
      exact hne x rfl
end
/-- a function is such as the reckoner takes -/
structure FnOk (P : Program) (f : FuncId) (fn : Func) : Prop where
  get : P.funcs[f]? = some fn
  body : (match fn.body with | some c => okC c | none => false) = true
  name : (fn.name == "runtime.NumGoroutine") = false
theorem FnOk.callable {P : Program} {f : FuncId} {fn : Func} (h : FnOk P f fn) : Callable P f := by
  refine ⟨fn, h.get, ?_, h.name⟩
  have := h.body
  cases hb : fn.body <;> simp_all
section
variable {P : Program} {E : Env} (hE : EOk P E) (hm : P.follows .mixedOrders = true)
include hE hm
theorem fn_ok {H : FuncId → List SV → List Blk → (SV → List Blk → Prop) → Prop} (hH : HOk P H) {f : FuncId} {fn : Func} (hf : FnOk P f fn) {args : List SV} {hp : List Blk} {K : SV → List Blk → Prop} (h : vcF E H fn args hp K)
    (N : Nat) (w0 : Base) (ρ0 : Rho) (w : World) (hh : HRel N w0 (nthO hp) ρ0 w) (hargs : ∀ ρ, Agr (nthO hp) ρ ρ0 → args.map (SV.den ρ) = args.map (SV.den ρ0)) :
    Calls P f (args.map (SV.den ρ0)).toArray w fun e w' => ∃ v hp' ρ0', K v hp' ∧ HRel N w0 (nthO hp') ρ0' w' ∧ (∀ i, (nthO hp i).isSome = true → (nthO hp' i).isSome = true ∧ ρ0' i = ρ0 i) ∧ ∀ ρ, Agr (nthO hp') ρ ρ0' → e = .returned (v.den ρ) := by
  obtain ⟨hget, hbody, -⟩ := hf
  unfold vcF at h
  cases hc : fn.body with
  | none => rw [hc] at h; exact h.elim
  | some c =>
    rw [hc] at h hbody
    simp only [padK_eq, appK_eq] at h
    -- the blocks of the caller stay where they are
    let w1 : Base := ⟨w, fun i => w0.B i ∨ (nthO hp i).isSome = true, ρ0, w.heap.size⟩
    have hh1 : HRel N w1 (nthO hp) ρ0 w := ⟨hh.old, hh.own, hh.apart, hh.holds, BelO.refl _ _, hh.big, fun i hi => (by
      rcases hi with hi | hi
      · exact ⟨(hh.ext i hi).1, rfl⟩
      · exact ⟨hi, rfl⟩), hh.maps, hh.mapA, hh.fam⟩
    have hr : RelS N w1 (args ++ List.replicate (fn.ntmps - args.length) uv) hp { tmps := (args.map (SV.den ρ0)).toArray ++ Array.replicate (fn.ntmps - (args.map (SV.den ρ0)).toArray.size) undef, defers := [] } w := by
      refine ⟨ρ0, hh1, fun ρ hρ => ?_, Marks.nil _ _ (Nat.le_refl _)⟩
      simp [← hargs ρ hρ, den_uv]
    have hE' : EOk P { T := E.T, un := E.un, D := E.D, O := E.O, n0 := hp.length, ord := E.ord, R := E.R } := ⟨hE.T, hE.D, hE.O, hE.R⟩
    refine callsIn_wide.1 (callsIn_of_wp_marks (n := 0) hget hc trivial (wpIn_mono (vcC_ok (r := none) hm hH hE' (fun i hi => ?_) c hbody _ _ _ h _ w ⟨w1, Ext.refl _ _, hr⟩) fun e a' w' hq => ?_) rfl)
    · have h1 : (nthO hp i).isSome = true := by
        rcases hi with hi | hi
        · exact (hh.ext i hi).1
        · exact hi
      show i < hp.length
      rw [nthO_eq] at h1
      obtain ⟨b, hb⟩ := Option.isSome_iff_exists.1 h1
      exact (List.getElem?_eq_some_iff.1 hb).1
    have fin : ∀ tm' hp', retQ E.T fn.results.toList tm' hp' K → RelM N w1 tm' hp' a' w' → LeavesInM Fence.wide 0 P fn a'.tmps (fun e w' => ∃ v hp' ρ0', K v hp' ∧ HRel N w0 (nthO hp') ρ0' w' ∧
        (∀ i, (nthO hp i).isSome = true → (nthO hp' i).isSome = true ∧ ρ0' i = ρ0 i) ∧ ∀ ρ, Agr (nthO hp') ρ ρ0' → e = .returned (v.den ρ)) a'.defers .returning w' := by
      intro tm' hp' hret hr'
      obtain ⟨v, hK, hrun⟩ := retQ_ok hE.T hret
      obtain ⟨w2, hx, ρ1, hh', ht, M, hMd, hMn, hMlo, hM⟩ := hr'
      have hext : ∀ i, (nthO hp i).isSome = true → (nthO hp' i).isSome = true ∧ ρ1 i = ρ0 i := fun i hi => by
        have := hh'.ext i (by rw [hx.B]; exact .inr hi)
        rw [hx.ρ] at this; exact this
      have hh0 : HRel N w0 (nthO hp') ρ1 w' := hh'.rebase (hh.bel.trans hx.bel) fun i hi => by
        rw [hx.B, hx.ρ]; exact ⟨.inl hi, (hh.ext i hi).2⟩
      rw [hMd]
      refine leave_ok M w' hh0 hMn (fun D hD => ?_) fun W' hW' => ?_
      · obtain ⟨g1, g2, g3⟩ := hM D hD
        rw [hx.lo] at g2
        exact ⟨g1, Nat.le_trans hh.bel.below.size g2, hh'.bel.oth.same D _ g3 rfl⟩
      · have key : ∀ ρ, Agr (nthO hp') ρ ρ1 → (results fn a'.tmps).run P W' = .ok (v.den ρ) W' := fun ρ hρ => hrun (ht ρ hρ) (hW'.holds ρ hρ)
        have h0 := key ρ1 (Agr.refl _ _)
        refine ⟨_, h0, v, hp', ρ1, hK, hW', hext, fun ρ hρ => ?_⟩
        have := key ρ hρ
        rw [h0] at this
        simpa using this
    cases e with
    | normal => obtain ⟨tm', hp', h1, h2⟩ := hq; exact fin tm' hp' h1 h2
    | ret => obtain ⟨tm', hp', h1, h2⟩ := hq; exact fin tm' hp' h1 h2
    | exit id => obtain ⟨tm', hp', h1, h2⟩ := hq; exact h1.elim
    | goto l => exact hq.elim
    | panic c => exact hq.elim
    | outgrown => exact hq.elim
/-- functions walked in place -/
theorem inl_ok {F : FuncId → Option Func} (hF : ∀ f fn, F f = some fn → FnOk P f fn) : ∀ n, HOk P (inl E F n)
  | 0 => fun f args hp K h => h.elim
  | n + 1 => fun f args hp K h => by
    unfold inl at h
    split at h
    · rename_i fn hfn
      exact ⟨(hF f fn hfn).callable, fun N w0 ρ0 w hh hargs => fn_ok hE hm (inl_ok hF n) (hF f fn hfn) h N w0 ρ0 w hh hargs⟩
    · exact h.elim
/-- a function of values: what it hands back -/
theorem pure_ok {F : FuncId → Option Func} (hF : ∀ f fn, F f = some fn → FnOk P f fn) {n : Nat} {f : FuncId} {fn : Func} (hf : FnOk P f fn) {args : List SV} {v : SV} (hpure : ∀ ρ ρ', v.den ρ = v.den ρ') (hap : ∀ ρ ρ', args.map (SV.den ρ) = args.map (SV.den ρ'))
    (h : vcF E (inl E F n) fn args [] fun u _ => ∀ ρ, u.den ρ = v.den ρ) (ρ : Rho) (w : World) :
    Calls P f (args.map (SV.den ρ)).toArray w fun e w' => e = .returned (v.den ρ) ∧ Below w.heap.size w w' := by
  have hh : HRel w.heap.size ⟨w, fun _ => False, ρ, 0⟩ (nthO []) ρ w := ⟨fun i b h => by simp [nthO] at h, fun i b h => by simp [nthO] at h, fun i j b c h => by simp [nthO] at h, fun ρ _ i b h => by simp [nthO] at h, BelO.refl _ _, Nat.le_refl _, fun i h => h.elim, fun i b e h => by simp [nthO] at h, fun i j b c h => by simp [nthO] at h, fun i b o l e h => by simp [nthO] at h⟩
  refine (fn_ok hE hm (inl_ok hE hm hF n) hf h w.heap.size _ ρ w hh (fun ρ' _ => hap ρ' ρ)).mono ?_
  rintro e w' ⟨u, hp', ρ1, hu, hh', -, he⟩
  have := he ρ1 (Agr.refl _ _)
  exact ⟨by rw [this, hu ρ1, hpure ρ1 ρ], hh'.bel.below⟩
/-- a function that reads blocks of its caller's: what it hands back -/
theorem read_ok {F : FuncId → Option Func} (hF : ∀ f fn, F f = some fn → FnOk P f fn) {n : Nat} {f : FuncId} {fn : Func} (hf : FnOk P f fn) {args : List SV} {hp : List Blk} {v : SV} (hpure : ∀ ρ ρ', v.den ρ = v.den ρ')
    (hb : ∀ i b, nthO hp i = some b → b.ro = true ∧ PureL b.cs) (ρ : Rho) (hap : ∀ ρ', Agr (nthO hp) ρ' ρ → args.map (SV.den ρ') = args.map (SV.den ρ))
    (h : vcF E (inl E F n) fn args hp fun u _ => ∀ ρ, u.den ρ = v.den ρ) (w : World) (hr : ∀ i b, nthO hp i = some b → w.rangeAt (ρ i).1 (ρ i).2 (cellsL ρ b.cs)) (hml : mapless hp = true := by rfl) :
    Calls P f (args.map (SV.den ρ)).toArray w fun e w' => e = .returned (v.den ρ) ∧ Below w.heap.size w w' := by
  have hh : HRel w.heap.size ⟨w, fun _ => False, ρ, 0⟩ (nthO hp) ρ w := by
    refine ⟨fun i b hi _ => ?_, fun i b hi ho => ?_, fun i j b c hi ho => ?_, fun ρ' hρ i b hi => ?_, BelO.refl _ _, Nat.le_refl _, fun i h => h.elim, fun i b e hi he => (by rw [mapless_get hml hi] at he; cases he), fun i j b c hi hj hm hk hne => (by rw [mapless_get hml hi] at hm; cases hm), fun i b o l e hi hm he => (by rw [famless_get hml hi] at hm; cases hm)⟩
    · rename_i hv
      have h0 : 0 < sizeC b.cs := by
        cases hc : b.cs with
        | nil =>
          unfold Blk.void at hv
          rw [hc, (hb i b hi).1] at hv
          cases hv
        | cons x l => cases x <;> simp [sizeC, C.n] <;> omega
      rw [sizeC_eq ρ] at h0
      exact block_lt_of_cell (hr i b hi 0 _ (List.getElem?_eq_getElem h0))
    · rw [(hb i b hi).1] at ho; cases ho
    · rw [(hb i b hi).1] at ho; cases ho
    · obtain ⟨h1, h3⟩ := hb i b hi
      refine ⟨?_, fun ho => by rw [h1] at ho; cases ho⟩
      have h3 : cellsL ρ' b.cs = cellsL ρ b.cs := h3 ρ' ρ
      rw [hρ i (by rw [hi]; rfl), h3]
      exact hr i b hi
  refine (fn_ok hE hm (inl_ok hE hm hF n) hf h w.heap.size _ ρ w hh hap).mono ?_
  rintro e w' ⟨u, hp', ρ1, hu, hh', -, he⟩
  have := he ρ1 (Agr.refl _ _)
  exact ⟨by rw [this, hu ρ1, hpure ρ1 ρ], hh'.bel.below⟩
end
end Go.Proofs.YthmdmbpecgakkaaDoor
