/- The reckoner is sound: a region that draws its order (in any order the same comes out). -/
import Derived.Test.YtapppahniablmaaDoorSxDraw
namespace Go.Proofs.YtapppahniablmaaDoor
open Go.RowKit

def Ev.key : Ev → Option (Nat × Blk)
  | .new b n _ => some (n, b)
  | .put b c => some (b, c)
  | _ => none
def appH (e : Ev) (h : Nat → Option Blk) : Nat → Option Blk := match e.key with | some p => upF h p.1 p.2 | none => h
def dstOf (ops : Array Oper) (k : Nat) : Option Tmp := (ops[k]?).bind (·.dst)
open Classical in
noncomputable def tmL (ops : Array Oper) (ev : Nat → Ev) (tm0 : List SV) (D : Nat → Prop) : Nat → List SV
  | 0 => tm0
  | k + 1 => if D k then dput (dstOf ops k) (ev k).v (tmL ops ev tm0 D k) else tmL ops ev tm0 D k
open Classical in
noncomputable def hpL (ev : Nat → Ev) (h0 : Nat → Option Blk) (D : Nat → Prop) : Nat → Nat → Option Blk
  | 0 => h0
  | k + 1 => if D k then appH (ev k) (hpL ev h0 D k) else hpL ev h0 D k
section
variable {ops : Array Oper} {ev : Nat → Ev} {tm0 : List SV} {h0 : Nat → Option Blk}
theorem dput_length (d : Option Tmp) (v : SV) (l : List SV) : (dput d v l).length = l.length := by cases d <;> simp [dput]
theorem tmL_length (D : Nat → Prop) : ∀ k, (tmL ops ev tm0 D k).length = tm0.length
  | 0 => rfl
  | k + 1 => by unfold tmL; split <;> simp [dput_length, tmL_length D k]
theorem nth_set {α : Type} (d : α) (l : List α) (t u : Nat) (v : α) : nth d (l.set t v) u = if t = u ∧ t < l.length then v else nth d l u := by
  rw [nth_eq, nth_eq]
  by_cases h : t = u
  · subst h
    by_cases ht : t < l.length
    · rw [if_pos ⟨rfl, ht⟩, List.getElem?_set_self ht]; rfl
    · rw [if_neg (fun h => ht h.2), List.set_eq_of_length_le (by omega)]
  · rw [if_neg (fun e => h e.1), List.getElem?_set_ne h]
theorem tmL_same {D D2 : Nat → Prop} (t : Nat) : ∀ k, (∀ j, j < k → dstOf ops j = some t → (D j ↔ D2 j)) → nth uv (tmL ops ev tm0 D k) t = nth uv (tmL ops ev tm0 D2 k) t
  | 0, _ => rfl
  | k + 1, h => by
    have ih := tmL_same t k (fun j hj => h j (by omega))
    have hk := h k (by omega)
    unfold tmL
    cases hd : dstOf ops k with
    | none => simp only [dput, ite_self]; exact ih
    | some u =>
      by_cases hu : u = t
      · subst hu
        have := hk hd
        by_cases h1 : D k
        · rw [if_pos h1, if_pos (this.1 h1)]
          simp only [dput, nth_set, tmL_length]
          split
          · rfl
          · exact ih
        · rw [if_neg h1, if_neg (fun h => h1 (this.2 h))]; exact ih
      · have e : ∀ D : Nat → Prop, nth uv (dput (some u) (ev k).v (tmL ops ev tm0 D k)) t = nth uv (tmL ops ev tm0 D k) t := fun D => by
          simp only [dput, nth_set]; rw [if_neg (fun h => hu h.1)]
        split <;> split <;> (try simp only [e]) <;> exact ih
theorem hpL_same {D D2 : Nat → Prop} (b : Nat) : ∀ k, (∀ j p, j < k → (ev j).key = some p → p.1 = b → (D j ↔ D2 j)) → hpL ev h0 D k b = hpL ev h0 D2 k b
  | 0, _ => rfl
  | k + 1, h => by
    have ih := hpL_same b k (fun j p hj => h j p (by omega))
    have hk := fun p => h k p (by omega)
    unfold hpL appH
    cases hd : (ev k).key with
    | none => simp only [ite_self]; exact ih
    | some p =>
      by_cases hu : p.1 = b
      · have := hk p hd hu
        by_cases h1 : D k
        · rw [if_pos h1, if_pos (this.1 h1)]; simp [upF, hu]
        · rw [if_neg h1, if_neg (fun h => h1 (this.2 h))]; exact ih
      · have e : ∀ D : Nat → Prop, upF (hpL ev h0 D k) p.1 p.2 b = hpL ev h0 D k b := fun D => by unfold upF; rw [if_neg (fun h => hu h.symm)]
        by_cases h1 : D k <;> by_cases h2 : D2 k <;> simp only [h1, h2, if_true, if_false, e] <;> exact ih
theorem dput_comm {d e : Option Tmp} {u v : SV} {l : List SV} (h : ∀ t, d = some t → e ≠ some t) : dput d u (dput e v l) = dput e v (dput d u l) := by
  cases d with
  | none => rfl
  | some t =>
    cases e with
    | none => rfl
    | some s =>
      have : t ≠ s := fun e => h t rfl (e ▸ rfl)
      exact List.set_comm _ _ (fun e => this e.symm)
theorem tmL_insert {D : Nat → Prop} {i : Nat} (hi : ¬ D i) : ∀ k, i < k → (∀ j, i < j → j < k → D j → ∀ t, dstOf ops j = some t → dstOf ops i ≠ some t) →
    tmL ops ev tm0 (fun j => D j ∨ j = i) k = dput (dstOf ops i) (ev i).v (tmL ops ev tm0 D k) := by
  intro k
  induction k with
  | zero => intro h; omega
  | succ k ih =>
    intro hik hj
    have low : ∀ m, m ≤ i → tmL ops ev tm0 (fun j => D j ∨ j = i) m = tmL ops ev tm0 D m := by
      intro m
      induction m with
      | zero => intro _; rfl
      | succ m ihm =>
        intro hm
        unfold tmL
        rw [ihm (by omega)]
        by_cases h1 : D m
        · rw [if_pos (Or.inl h1), if_pos h1]
        · rw [if_neg (fun h => h.elim h1 (fun e => by omega)), if_neg h1]
    rcases Nat.lt_or_ge i k with hlt | hge
    · have ih' := ih hlt (fun j h1 h2 => hj j h1 (by omega))
      unfold tmL
      rw [ih']
      by_cases h1 : D k
      · rw [if_pos (Or.inl h1), if_pos h1, dput_comm (hj k hlt (by omega) h1)]
      · rw [if_neg (fun h => h.elim h1 (fun e => by omega)), if_neg h1]
    · have : k = i := by omega
      subst this
      unfold tmL
      rw [if_pos (Or.inr rfl), if_neg hi, low k (Nat.le_refl _)]
theorem appH_comm {e d : Ev} {h : Nat → Option Blk} (hne : ∀ p q, e.key = some p → d.key = some q → p.1 ≠ q.1) : appH e (appH d h) = appH d (appH e h) := by
  unfold appH
  cases he : e.key with
  | none => cases hd : d.key <;> rfl
  | some p =>
    cases hd : d.key with
    | none => rfl
    | some q =>
      have := hne p q he hd
      funext x
      simp only [upF]
      by_cases h1 : x = p.1
      · subst h1; simp [this]
      · simp [h1]
theorem hpL_insert {D : Nat → Prop} {i : Nat} (hi : ¬ D i) : ∀ k, i < k → (∀ j, i < j → j < k → D j → ∀ p q, (ev j).key = some p → (ev i).key = some q → p.1 ≠ q.1) →
    hpL ev h0 (fun j => D j ∨ j = i) k = appH (ev i) (hpL ev h0 D k) := by
  intro k
  induction k with
  | zero => intro h; omega
  | succ k ih =>
    intro hik hj
    have low : ∀ m, m ≤ i → hpL ev h0 (fun j => D j ∨ j = i) m = hpL ev h0 D m := by
      intro m
      induction m with
      | zero => intro _; rfl
      | succ m ihm =>
        intro hm
        unfold hpL
        rw [ihm (by omega)]
        by_cases h1 : D m
        · rw [if_pos (Or.inl h1), if_pos h1]
        · rw [if_neg (fun h => h.elim h1 (fun e => by omega)), if_neg h1]
    rcases Nat.lt_or_ge i k with hlt | hge
    · have ih' := ih hlt (fun j h1 h2 => hj j h1 (by omega))
      unfold hpL
      rw [ih']
      by_cases h1 : D k
      · rw [if_pos (Or.inl h1), if_pos h1, appH_comm (hj k hlt (by omega) h1)]
      · rw [if_neg (fun h => h.elim h1 (fun e => by omega)), if_neg h1]
    · have : k = i := by omega
      subst this
      unfold hpL
      rw [if_pos (Or.inr rfl), if_neg hi, low k (Nat.le_refl _)]
theorem tmL_past {D : Nat → Prop} {i : Nat} : ∀ k, i ≤ k → (∀ j, i ≤ j → ¬ D j) → tmL ops ev tm0 D k = tmL ops ev tm0 D i
  | 0, h, _ => by have : i = 0 := by omega
                  subst this; rfl
  | k + 1, h, hD => by
    rcases Nat.lt_or_ge i (k + 1) with h1 | h1
    · rw [tmL, if_neg (hD k (by omega))]
      exact tmL_past k (by omega) hD
    · have : i = k + 1 := by omega
      subst this; rfl
end
/-- what a look at a region tells -/
def bf (ops : Array Oper) (j i : Nat) : Prop := (nth 0 (masksA ops.toList []) j).testBit i = true
def Closed (ops : Array Oper) (D : Nat → Prop) : Prop := ∀ k o, ops[k]? = some o → D k → ∀ e ∈ o.after, Region.binds .any e = true → D e.on
theorem Closed.bf {ops : Array Oper} {D : Nat → Prop} (h : Closed ops D) {j i : Nat} (hj : D j) (hb : bf ops j i) : D i :=
  masksA_spec (D := D) ops.toList [] (fun k _ i h => by simp [nth] at h) (fun k o ho hd e he hb => h k o (by simpa using ho) (by simpa using hd) e he hb) j hj i hb
theorem Closed.ready {ops : Array Oper} {D : Nat → Prop} (h : Closed ops D) {i : Nat} {o : Oper} (ho : ops[i]? = some o) (hr : ∀ e ∈ o.after, Region.binds .any e = true → D e.on) : Closed ops (fun j => D j ∨ j = i) := by
  intro k o' ho' hk e he hb
  rcases hk with hk | rfl
  · exact .inl (h k o' ho' hk e he hb)
  · rw [ho] at ho'; cases ho'; exact .inl (hr e he hb)
section
variable {ops : Array Oper} (hok : okDraw ops = true)
include hok
theorem draw_edges {k : Nat} {o : Oper} (ho : ops[k]? = some o) {e : Edge} (he : e ∈ o.after) (hb : Region.binds .any e = true) : e.on < k := by
  unfold okDraw at hok
  rw [Bool.and_eq_true] at hok
  have := edgesOk_spec hok.1 k o (by simpa using ho) e he hb
  omega
theorem draw_pair {i j : Nat} (hij : i < j) {a b : Oper} (ha : ops[i]? = some a) (hb : ops[j]? = some b) :
    (∀ t, b.dst = some t → (t ∈ a.looksAt ops → bf ops j i) ∧ a.dst ≠ some t) ∧ (∀ t, a.dst = some t → t ∈ b.looksAt ops → bf ops j i) ∧
    (isStore b.op = true → isStore a.op = true → bf ops j i) ∧ (isStore a.op = true → reading b.op = true → False) := by
  unfold okDraw at hok
  rw [Bool.and_eq_true] at hok
  have h := allPairs_spec hok.2 i j a b (by simpa using ha) (by simpa using hb) hij
  rw [Nat.zero_add, Nat.zero_add] at h
  unfold pairOk at h
  simp only [Bool.and_eq_true] at h
  obtain ⟨⟨⟨h1, h2⟩, h3⟩, h4⟩ := h
  refine ⟨fun t ht => ?_, fun t ht hl => ?_, fun hs hr => ?_, fun hs hr => ?_⟩
  · rw [ht] at h1
    simp only [Bool.and_eq_true, Bool.or_eq_true, Bool.not_eq_true', bne_iff_ne, ne_eq] at h1
    refine ⟨fun hl => ?_, h1.2⟩
    rcases h1.1 with h | h
    · rw [List.contains_iff_mem.2 hl] at h; cases h
    · exact h
  · rw [ht] at h2
    simp only [Bool.or_eq_true, Bool.not_eq_true'] at h2
    rcases h2 with h | h
    · rw [List.contains_iff_mem.2 hl] at h; cases h
    · exact h
  · rw [hs, hr] at h3
    simp only [Bool.not_true, Bool.false_or, Bool.or_false] at h3
    exact h3
  · rw [hs, hr] at h4
    simp at h4
theorem draw_bf_lt {i j : Nat} (h : bf ops j i) : i < j ∨ ops.size ≤ j := by
  rcases Nat.lt_or_ge j ops.size with hj | hj
  · left
    have hc : Closed ops (fun k => k < j) := fun k o ho hk e he hb => Nat.lt_trans (draw_edges hok ho he hb) hk
    have hc' := hc.ready (Array.getElem?_eq_getElem hj) (fun e he hb => draw_edges hok (Array.getElem?_eq_getElem hj) he hb)
    rcases hc'.bf (.inr rfl) h with h1 | h1
    · exact h1
    · exfalso
      subst h1
      -- an operation does not wait for itself
      have key : ∀ (l : List Oper) (acc : List Nat), (∀ k i, (nth 0 acc k).testBit i = true → i < k) → (∀ k o, l[k]? = some o → ∀ e ∈ o.after, Region.binds .any e = true → e.on < acc.length + k) →
          ∀ k i, (nth 0 (masksA l acc) k).testBit i = true → i < k := by
        intro l
        induction l with
        | nil => intro acc h _; exact h
        | cons o l ih =>
          intro acc h1 h2
          refine ih _ (fun k i h => ?_) (fun k o' ho e he hb => ?_)
          · rw [nth_snoc] at h
            split at h
            · rename_i e
              subst e
              refine maskOf_spec (D := fun i => i < acc.length) (fun k hk i h => Nat.lt_trans (h1 k i h) hk) (fun e he hb => ?_) i h
              have := h2 0 o rfl e (by simpa using he) hb
              omega
            · exact h1 k i h
          · have := h2 (k + 1) o' (by simpa using ho) e he hb
            simp; omega
      have := key ops.toList [] (fun k i h => by simp [nth] at h) (fun k o ho e he hb => by simpa using draw_edges hok (by simpa using ho) he hb) _ _ h
      omega
  · exact .inr hj
end
end Go.Proofs.YtapppahniablmaaDoor
