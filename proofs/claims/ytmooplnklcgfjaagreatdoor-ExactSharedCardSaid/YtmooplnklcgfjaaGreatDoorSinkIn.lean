/- A region that draws its order and whose last operation waits for all the others, inside a fence. -/
import Derived.OrdersIn
import Derived.Test.YtmooplnklcgfjaaGreatDoorEng
namespace Go.Proofs.YtmooplnklcgfjaaGreatDoor
open Go

section
variable {F : Fence} {n : Nat} {P : Program} {h : Array Oper} {ol : Oper} {Q : Exit → Act → World → Prop} {md : Region.Mode}

/-- behind the others: the last operation -/
def endQIn (F : Fence) (n : Nat) (P : Program) (ol : Oper) (Q : Exit → Act → World → Prop) : Exit → Act → World → Prop
  | .normal, a, w => ol.wpIn F n P a w (Q .normal) Q
  | .panic c, a, w => Q (.panic c) a w
  | .outgrown, a, w => Q .outgrown a w
  | _, _, _ => False

theorem uponIn_two {o : Oper} {a : Act} {K K' : Act → World → Prop} {Q Q' : Exit → Act → World → Prop} {r : Result Next} (hK : ∀ a w, K a w → K' a w)
    (hQ : ∀ c a w, Q (.panic c) a w → Q' (.panic c) a w) (hO : LetsOut Q → LetsOut Q') (hh : o.uponIn F n P a K Q r) : o.uponIn F n P a K' Q' r := by
  cases r with
  | ok n w' =>
    cases n <;> simp only [Oper.uponIn] at hh ⊢ <;>
      first
        | exact hK _ _ hh
        | exact ⟨hh.1, CallsIn.mono hh.2 (fun e w'' he => by cases e <;> first | exact hK _ _ he | exact hQ _ _ _ he | exact hO he)⟩
        | exact ⟨hh.1, RowsIn.mono hh.2 (fun _ _ he => hK _ _ he)⟩
        | exact ⟨hh.1, RoundIn.mono hh.2 (fun e w'' he => by cases e <;> first | exact hK _ _ he | exact hQ _ _ _ he | exact hO he)⟩
  | halt x w' => cases x <;> simp only [Oper.uponIn] at hh ⊢ <;> first | exact hQ _ _ _ hh | exact hh

theorem wpAnyIn_sink_last (hdown : downB (h.push ol) = true) (hog : ol.guard = none) {listed : Array Bool} {a : Act} {w : World} (hs : listed.size = h.size)
    (hr : Region.ready md h listed = []) (hq : endQIn F n P ol Q .normal a w) (f : Nat) : wpAnyIn F n P md (h.push ol) Q (f + 1) (listed.push false) a w := by
  have hall := all_listed hdown hs hr
  have hol : (h.push ol)[h.size]? = some ol := by simp
  have honly : ∀ i ∈ Region.ready md (h.push ol) (listed.push false), i = h.size := by
    intro i hi
    have hlt : i < h.size + 1 := by
      obtain ⟨_, o, ho, _⟩ := mem_ready.1 hi
      have := (Array.getElem?_eq_some_iff.1 ho).1
      simpa using this
    by_cases hin : i < h.size
    · have h1 := (mem_ready.1 ((ready_head hs hin).1 hi)).1
      rw [hall i hin] at h1
      cases h1
    · omega
  have hmem : h.size ∈ Region.ready md (h.push ol) (listed.push false) := mem_ready.2 ⟨by rw [← hs]; simp, ol, hol, fun e he _ => by
    have hlt := downB_spec hdown hol e he
    rw [getD_push_false]
    have := hall e.on hlt
    have hb : e.on < listed.size := by omega
    simp only [Array.getD_eq_getD_getElem?, Array.getElem?_eq_getElem hb, Option.getD_some] at this ⊢
    exact this⟩
  refine ⟨fun h0 => (by rw [h0] at hmem; cases hmem), fun i hi => ?_⟩
  have := honly i hi
  subst this
  unfold wpOpIn
  rw [hol]
  change if Region.wanted ol (yielded (h.push ol) a.tmps) = true then _ else _
  have hw : Region.wanted ol (yielded (h.push ol) a.tmps) = true := by unfold Region.wanted; rw [hog]
  rw [if_pos hw]
  refine Oper.wpIn_mono (fun a' w' hq' => wpAnyIn_done (List.eq_nil_iff_forall_not_mem.2 fun j hj => ?_) hq' f) hq
  obtain ⟨h1, o, ho, _⟩ := mem_ready.1 hj
  by_cases hjn : j = h.size
  · subst hjn
    rw [← hs] at h1
    simp at h1
  · rw [getD_set_ne true (fun e => hjn e.symm)] at h1
    have hlt : j < h.size + 1 := by
      have := (Array.getElem?_eq_some_iff.1 ho).1
      simpa using this
    rw [getD_push_true _ (by omega), hall j (by omega)] at h1
    cases h1

theorem wpAnyIn_sink (hsink : Region.sinkB md (h.push ol) h.size = true) (hdown : downB (h.push ol) = true) (hg : guardB h = true) (hog : ol.guard = none) :
    ∀ (f : Nat) (listed : Array Bool) (a : Act) (w : World), listed.size = h.size →
      (∀ j oj, h[j]? = some oj → listed.getD j false = true → ∀ e ∈ oj.after, Region.binds md e = true → listed.getD e.on false = true) →
      wpAnyIn F n P md h (endQIn F n P ol Q) f listed a w → wpAnyIn F n P md (h.push ol) Q (f + 1) (listed.push false) a w := by
  have hchain : Region.chainB md (h.push ol) h.size = true := by
    unfold Region.chainB
    rw [List.all_eq_true]
    intro t ht
    have : t ≤ h.size := by have := List.mem_range.1 ht; simp at this; omega
    simp [this]
  have hol : (h.push ol)[h.size]? = some ol := by simp
  intro f
  induction f with
  | zero =>
    intro listed a w hs hc hw
    exact wpAnyIn_sink_last hdown hog hs hw.1 hw.2 0
  | succ f ih =>
    intro listed a w hs hc hw
    by_cases hr : Region.ready md h listed = []
    · exact wpAnyIn_sink_last hdown hog hs hr (hw.1 hr) _
    · obtain ⟨i0, hi0⟩ := List.exists_mem_of_ne_nil _ hr
      have hi0lt : i0 < h.size := by
        obtain ⟨_, o, ho, _⟩ := mem_ready.1 hi0
        exact (Array.getElem?_eq_some_iff.1 ho).1
      have hinv := inv_push (ol := ol) hs hc
      have hun : (listed.push false).getD i0 true = false := by rw [getD_push_true _ (by omega)]; exact (mem_ready.1 hi0).1
      have hnot := tail_waits hsink hchain (by simp) hinv _ i0 rfl hi0lt hun
      refine ⟨fun h0 => ?_, fun i hi => ?_⟩
      · have := (ready_head (ol := ol) hs hi0lt).2 hi0
        rw [h0] at this
        cases this
      · have hin : i < h.size := Nat.lt_of_not_le fun hle => hnot i hle hi
        have hi' := (ready_head hs hin).1 hi
        have h1 := hw.2 i hi'
        have hset : (listed.push false).setIfInBounds i true = (listed.setIfInBounds i true).push false := by
          apply Array.ext
          · simp
          · intro j h1 h2
            rw [Array.getElem_setIfInBounds (by simpa using h1)]
            simp only [Array.getElem_push, Array.size_setIfInBounds]
            by_cases hij : i = j
            · subst hij
              rw [if_pos rfl, dif_pos (by omega), Array.getElem_setIfInBounds (by omega), if_pos rfl]
            · rw [if_neg hij]
              split
              · rw [Array.getElem_setIfInBounds (by omega), if_neg hij]
              · rfl
        rw [hset]
        have hnext : ∀ a' w', wpAnyIn F n P md h (endQIn F n P ol Q) f (listed.setIfInBounds i true) a' w' → wpAnyIn F n P md (h.push ol) Q (f + 1) ((listed.setIfInBounds i true).push false) a' w' := by
          intro a' w' h'
          refine ih _ _ _ (by simp [hs]) (fun j oj hj hl e he hb => ?_) h'
          by_cases hij : i = j
          · subst hij
            obtain ⟨_, oi, hoi, hall⟩ := mem_ready.1 hi'
            have : oj = oi := Option.some.inj (hj.symm.trans hoi)
            subst this
            exact getD_set_true (hall e he hb)
          · rw [getD_set_ne false hij] at hl
            exact getD_set_true (hc j oj hj hl e he hb)
        have hhi : h[i]? = some h[i] := Array.getElem?_eq_getElem hin
        have hpi : (h.push ol)[i]? = some h[i] := by rw [Array.getElem?_push, if_neg (Nat.ne_of_lt hin)]; exact hhi
        unfold wpOpIn at h1 ⊢
        rw [hpi]
        rw [hhi] at h1
        change if Region.wanted h[i] (yielded (h.push ol) a.tmps) = true then _ else _
        change if Region.wanted h[i] (yielded h a.tmps) = true then _ else _ at h1
        rw [show Region.wanted h[i] (yielded (h.push ol) a.tmps) = Region.wanted h[i] (yielded h a.tmps) from wanted_push hg (Array.getElem_mem hin) _]
        revert h1
        split
        · exact fun h1 => ⟨h1.1, uponIn_two hnext (fun _ _ _ h => h) (fun h => h) h1.2⟩
        · exact fun h1 => ⟨h1.1, hnext _ _ h1.2⟩
end
end Go.Proofs.YtmooplnklcgfjaaGreatDoor
