/- Triangles that meet: the order of the triangles and of their corners plays no part, nor do a move and a scale; a triangle meets itself. -/
import Derived.Test.YtmooplnklcgfjaaGreatDoorE7
import Derived.Test.YtmooplnklcgfjaaGreatDoorEW
namespace Go.Proofs.YtmooplnklcgfjaaGreatDoor
open Go.RowKit

def tRot (t : TR) : TR := ⟨t.b, t.c, t.a⟩
def tSw (t : TR) : TR := ⟨t.b, t.a, t.c⟩
theorem or_rot (a b c : Bool) : (b || (c || a)) = (a || (b || c)) := by cases a <;> cases b <;> cases c <;> rfl
theorem or_sw (a b c : Bool) : (b || (a || c)) = (a || (b || c)) := by cases a <;> cases b <;> cases c <;> rfl
theorem or_sw2 (a b c : Bool) : (a || (c || b)) = (a || (b || c)) := by cases a <;> cases b <;> cases c <;> rfl
theorem isP_rot (p : PT) (t : TR) : isP p (tRot t) = isP p t := or_rot _ _ _
theorem isP_sw (p : PT) (t : TR) : isP p (tSw t) = isP p t := or_sw _ _ _
theorem flat_rot (t : TR) : flatT (tRot t) = flatT t := by
  show (normZ t.b.v t.c.v t.a.v).isZ = (normZ t.a.v t.b.v t.c.v).isZ
  rw [norm_rot]
theorem flat_sw (t : TR) : flatT (tSw t) = flatT t := by
  show (normZ t.b.v t.a.v t.c.v).isZ = (normZ t.a.v t.b.v t.c.v).isZ
  obtain ⟨h1, h2, h3⟩ := norm_neg t.a.v t.b.v t.c.v
  unfold V3.isZ
  rw [h1, h2, h3]
  simp only [Int.neg_eq_zero]
theorem tT_rot (t : TR) (p q : PT) : touchT p q (tRot t) = touchT p q t := touch_rot _ _ _ _ _
theorem tT_sw (t : TR) (p q : PT) : touchT p q (tSw t) = touchT p q t := touch_sw _ _ _ _ _
theorem ts_rot1 (s t : TR) : touchesT s (tRot t) = touchesT s t := by
  unfold touchesT touchesV
  simp only [tRot, touch_rot s.a.v s.b.v t.a.v, touch_rot s.b.v s.c.v t.a.v, touch_rot s.c.v s.a.v t.a.v]
theorem ts_sw1 (s t : TR) : touchesT s (tSw t) = touchesT s t := by
  unfold touchesT touchesV
  simp only [tSw, touch_sw s.a.v s.b.v t.a.v, touch_sw s.b.v s.c.v t.a.v, touch_sw s.c.v s.a.v t.a.v]
theorem ts_rot2 (s t : TR) : touchesT (tRot s) t = touchesT s t := or_rot _ _ _
theorem ts_sw2 (s t : TR) : touchesT (tSw s) t = touchesT s t := by
  show (touchV s.b.v s.a.v _ _ _ || (touchV s.a.v s.c.v _ _ _ || touchV s.c.v s.b.v _ _ _)) = (touchV s.a.v s.b.v _ _ _ || (touchV s.b.v s.c.v _ _ _ || touchV s.c.v s.a.v _ _ _))
  rw [touch_swap s.a.v s.b.v, touch_swap s.c.v s.a.v, touch_swap s.b.v s.c.v, or_sw2]
theorem mL_t {s t t' : TR} (h : ∀ p q, touchT p q t' = touchT p q t) (L M N : List PT) : meetL s t' L M N = meetL s t L M N := by
  rcases L with _ | ⟨a, _ | ⟨b, _ | ⟨c, L⟩⟩⟩ <;> rcases M with _ | ⟨u, _ | ⟨u2, _ | ⟨u3, M⟩⟩⟩ <;> rcases N with _ | ⟨v, _ | ⟨v2, _ | ⟨v3, N⟩⟩⟩ <;> first | rfl | simp only [meetL, h]
theorem mL_sw (s t : TR) (L M : List PT) (x y : PT) : meetL s t L M [y, x] = meetL s t L M [x, y] := by
  have h : touchT y x s = touchT x y s := touch_swap _ _ _ _ _
  rcases L with _ | ⟨a, _ | ⟨b, _ | ⟨c, L⟩⟩⟩ <;> rcases M with _ | ⟨u, _ | ⟨u2, _ | ⟨u3, M⟩⟩⟩ <;> first | rfl | simp only [meetL, h]
theorem mL_3 (s t : TR) (L M : List PT) (x y z : PT) : meetL s t L M [x, y, z] = true := by
  rcases L with _ | ⟨a, _ | ⟨b, _ | ⟨c, L⟩⟩⟩ <;> rcases M with _ | ⟨u, _ | ⟨u2, _ | ⟨u3, M⟩⟩⟩ <;> rfl
theorem meet_perm {s t t' : TR} (h1 : ∀ p, isP p t' = isP p t) (h2 : flatT t' = flatT t) (h3 : ∀ p q, touchT p q t' = touchT p q t) (h4 : touchesT s t' = touchesT s t) (h5 : touchesT t' s = touchesT t s) (h6 : ∀ L M, meetL s t L M (cmn false t' s) = meetL s t L M (cmn false t s)) : meetV s t' = meetV s t := by
  have e1 : ∀ w, cmn w s t' = cmn w s t := fun w => by unfold cmn; simp only [h1]
  unfold meetV apartB
  rw [e1 true, e1 false, h2, h4, h5, mL_t h3, h6]
theorem cf_rot (s t : TR) (L M : List PT) : meetL s t L M (cmn false (tRot t) s) = meetL s t L M (cmn false t s) := by
  unfold cmn TR.l tRot
  cases h1 : isP t.a s <;> cases h2 : isP t.b s <;> cases h3 : isP t.c s <;> simp only [List.filter, h1, h2, h3, beq_self_eq_true, Bool.true_beq] <;> first | done | rfl | exact mL_sw _ _ _ _ _ _ | (rw [mL_3, mL_3])
theorem cf_sw (s t : TR) (L M : List PT) : meetL s t L M (cmn false (tSw t) s) = meetL s t L M (cmn false t s) := by
  unfold cmn TR.l tSw
  cases h1 : isP t.a s <;> cases h2 : isP t.b s <;> cases h3 : isP t.c s <;> simp only [List.filter, h1, h2, h3, beq_self_eq_true, Bool.true_beq] <;> first | done | rfl | exact mL_sw _ _ _ _ _ _ | (rw [mL_3, mL_3])
theorem meet_rot (s t : TR) : meetV s (tRot t) = meetV s t := meet_perm (fun p => isP_rot p t) (flat_rot t) (tT_rot t) (ts_rot1 s t) (ts_rot2 t s) (cf_rot s t)
theorem meet_sw (s t : TR) : meetV s (tSw t) = meetV s t := meet_perm (fun p => isP_sw p t) (flat_sw t) (tT_sw t) (ts_sw1 s t) (ts_sw2 t s) (cf_sw s t)

/-! ### the order of the triangles -/
theorem apart_comm (s t : TR) : apartB t s = apartB s t := by
  unfold apartB
  cases hs : flatT s <;> cases ht : flatT t
  · rw [cnt_eq hs ht]
  all_goals simp
theorem cmn_mem {s t : TR} {p : PT} : p ∈ cmn true s t ↔ p ∈ s.l ∧ isP p t = true := by unfold cmn; rw [List.mem_filter]; simp
theorem isP_iff {p : PT} {t : TR} : isP p t = true ↔ ∃ q ∈ t.l, q.v = p.v := by
  unfold isP TR.l
  simp only [Bool.or_eq_true, eqB_iff, List.mem_cons, List.not_mem_nil, or_false]
  constructor
  · rintro (h | h | h)
    · exact ⟨_, .inl rfl, h.symm⟩
    · exact ⟨_, .inr (.inl rfl), h.symm⟩
    · exact ⟨_, .inr (.inr rfl), h.symm⟩
  · rintro ⟨q, rfl | rfl | rfl, h⟩
    · exact .inl h.symm
    · exact .inr (.inl h.symm)
    · exact .inr (.inr h.symm)
theorem cmn_other {s t : TR} {a c d : PT} (ha : a ∈ cmn true s t) (e : cmn true t s = [c, d]) : a.v = c.v ∨ a.v = d.v := by
  obtain ⟨h1, h2⟩ := cmn_mem.1 ha
  obtain ⟨q, hq, hv⟩ := isP_iff.1 h2
  have : q ∈ cmn true t s := cmn_mem.2 ⟨hq, isP_iff.2 ⟨a, h1, hv.symm⟩⟩
  rw [e] at this
  simp only [List.mem_cons, List.not_mem_nil, or_false] at this
  rcases this with rfl | rfl
  · exact .inl hv.symm
  · exact .inr hv.symm
theorem two_ne {s t : TR} {a b : PT} (hf : flatT s = false) (e : cmn true s t = [a, b]) : a.v ≠ b.v := by
  obtain ⟨n1, n2, n3⟩ := flat_ab hf
  unfold cmn TR.l at e
  cases h1 : isP s.a t <;> cases h2 : isP s.b t <;> cases h3 : isP s.c t <;> simp [h1, h2, h3] at e <;> (obtain ⟨rfl, rfl⟩ := e; assumption)
theorem neg_sg {x y : Int} : decide ((-x).sign = (-y).sign) = decide (x.sign = y.sign) := by
  rw [Int.sign_neg, Int.sign_neg]; exact decide_eq_decide.2 (by omega)
theorem cr_b (a b u : V3) : (crZ b a b u).x = -(crZ a b a u).x ∧ (crZ b a b u).y = -(crZ a b a u).y ∧ (crZ b a b u).z = -(crZ a b a u).z := by
  refine ⟨?_, ?_, ?_⟩ <;> simp only [crZ, V3.cross, V3.sub] <;> grind
theorem edge_sw (a b u v : PT) : edgeM b a u v = edgeM a b u v := by
  unfold edgeM sgE
  obtain ⟨h1, h2, h3⟩ := cr_b a.v b.v u.v
  obtain ⟨g1, g2, g3⟩ := cr_b a.v b.v v.v
  rw [h1, h2, h3, g1, g2, g3, neg_sg, neg_sg, neg_sg, det_s1 a.v b.v, Int.sign_neg]
  congr 1
  exact decide_eq_decide.2 (by omega)
theorem edge_uv (a b u v : PT) : edgeM a b v u = edgeM a b u v := by
  unfold edgeM sgE
  rw [det_s3 a.v b.v u.v v.v, Int.sign_neg]
  have e : ∀ x y : Int, decide (x = y) = decide (y = x) := fun x y => decide_eq_decide.2 (by omega)
  rw [e (crZ a.v b.v a.v v.v).x.sign, e (crZ a.v b.v a.v v.v).y.sign, e (crZ a.v b.v a.v v.v).z.sign]
  congr 1
  exact decide_eq_decide.2 (by omega)
theorem edge_v {a b c d u v : PT} (h1 : a.v = c.v) (h2 : b.v = d.v) : edgeM a b u v = edgeM c d u v := by unfold edgeM; rw [h1, h2]
theorem meet_sym (s t : TR) : meetV t s = meetV s t := by
  unfold meetV
  rw [apart_comm s t]
  cases h : apartB s t
  · rw [cond_false, cond_false]
    obtain ⟨f1, f2, hc⟩ := meet_cases h
    rcases hc with ⟨a, u, u2, c, v, v2, e1, e2, e3, e4⟩ | ⟨a, b, u, c, d, v, e1, e2, e3, e4⟩ | ⟨a, b, c, d, e, f, e1, e2, e3, e4⟩
    · rw [e1, e2, e3, e4]; exact Bool.or_comm _ _
    · have ha := cmn_other (a := a) (by rw [e1]; simp) e3
      have hb := cmn_other (a := b) (by rw [e1]; simp) e3
      have hn := two_ne f1 e1
      rw [e1, e2, e3, e4]
      show edgeM c d v u = edgeM a b u v
      rw [edge_uv]
      rcases ha with ha | ha <;> rcases hb with hb | hb
      · exact absurd (ha.trans hb.symm) hn
      · exact (edge_v ha hb).symm
      · rw [edge_sw]; exact (edge_v ha hb).symm
      · exact absurd (ha.trans hb.symm) hn
    · rw [e1, e2, e3, e4]; rfl
  · rw [cond_true, cond_true, Bool.or_comm]

/-! ### a triangle meets itself -/
theorem self_touch (a b c : V3) : touchV a b a b c = true := hull_touch (w1 := 1) (w2 := 0) (w3 := 0) ⟨by omega, by omega, by omega, by omega, by omega, by omega, by omega⟩
theorem meet_self (s : TR) : meetV s s = true := by
  have h1 : isP s.a s = true := isP_iff.2 ⟨s.a, by simp [TR.l], rfl⟩
  have h2 : isP s.b s = true := isP_iff.2 ⟨s.b, by simp [TR.l], rfl⟩
  have h3 : isP s.c s = true := isP_iff.2 ⟨s.c, by simp [TR.l], rfl⟩
  have e1 : cmn true s s = [s.a, s.b, s.c] := by unfold cmn TR.l; simp [h1, h2, h3]
  have e2 : cmn false s s = [] := by unfold cmn TR.l; simp [h1, h2, h3]
  have e3 : touchesT s s = true := by unfold touchesT touchesV; rw [self_touch]; rfl
  unfold meetV
  rw [e1, e2, e3]
  cases apartB s s <;> rfl

/-! ### moved and scaled -/
section
variable {k : Int} (hk : 0 < k) (τ : V3) (f : PT → PT)
include hk
theorem isP_mv {p : PT} {t : TR} (hp : (f p).v = mvZ k τ p.v) (ht : ∀ p ∈ t.l, (f p).v = mvZ k τ p.v) : isP (f p) ⟨f t.a, f t.b, f t.c⟩ = isP p t := by
  have ha := ht t.a (by simp [TR.l]); have hb := ht t.b (by simp [TR.l]); have hc := ht t.c (by simp [TR.l])
  unfold isP
  simp only [hp, ha, hb, hc, eq_mv hk]
theorem cmn_mv (w : Bool) {s t : TR} (hs : ∀ p ∈ s.l, (f p).v = mvZ k τ p.v) (ht : ∀ p ∈ t.l, (f p).v = mvZ k τ p.v) : cmn w ⟨f s.a, f s.b, f s.c⟩ ⟨f t.a, f t.b, f t.c⟩ = (cmn w s t).map f := by
  unfold cmn
  show (s.l.map f).filter _ = _
  rw [List.filter_map]
  congr 1
  refine List.filter_congr fun p hp => ?_
  show (isP (f p) _ == w) = _
  rw [isP_mv hk τ f (hs p hp) ht]
theorem tT_mv {p q : PT} {t : TR} (hp : (f p).v = mvZ k τ p.v) (hq : (f q).v = mvZ k τ q.v) (ht : ∀ p ∈ t.l, (f p).v = mvZ k τ p.v) : touchT (f p) (f q) ⟨f t.a, f t.b, f t.c⟩ = touchT p q t := by
  have ha := ht t.a (by simp [TR.l]); have hb := ht t.b (by simp [TR.l]); have hc := ht t.c (by simp [TR.l])
  unfold touchT
  simp only [hp, hq, ha, hb, hc, touch_mv hk]
theorem flat_mv {t : TR} (ht : ∀ p ∈ t.l, (f p).v = mvZ k τ p.v) : flatT ⟨f t.a, f t.b, f t.c⟩ = flatT t := by
  have ha := ht t.a (by simp [TR.l]); have hb := ht t.b (by simp [TR.l]); have hc := ht t.c (by simp [TR.l])
  unfold flatT
  simp only [ha, hb, hc]
  rw [norm_mv, isZ_scl (pos2 hk)]
theorem ts_mv {s t : TR} (hs : ∀ p ∈ s.l, (f p).v = mvZ k τ p.v) (ht : ∀ p ∈ t.l, (f p).v = mvZ k τ p.v) : touchesT ⟨f s.a, f s.b, f s.c⟩ ⟨f t.a, f t.b, f t.c⟩ = touchesT s t := by
  have sa := hs s.a (by simp [TR.l]); have sb := hs s.b (by simp [TR.l]); have sc := hs s.c (by simp [TR.l])
  have h1 := tT_mv hk τ f sa sb ht
  have h2 := tT_mv hk τ f sb sc ht
  have h3 := tT_mv hk τ f sc sa ht
  unfold touchT at h1 h2 h3
  unfold touchesT touchesV
  rw [h1, h2, h3]
theorem edge_mv {a b u v : PT} (ha : (f a).v = mvZ k τ a.v) (hb : (f b).v = mvZ k τ b.v) (hu : (f u).v = mvZ k τ u.v) (hv : (f v).v = mvZ k τ v.v) : edgeM (f a) (f b) (f u) (f v) = edgeM a b u v := by
  unfold edgeM sgE
  rw [ha, hb, hu, hv, detS_mv hk]
  have h := fun q i => crS_mv hk τ a.v b.v a.v q i
  have x1 := h u.v 0; have x2 := h u.v 1; have x3 := h u.v 2
  have y1 := h v.v 0; have y2 := h v.v 1; have y3 := h v.v 2
  simp only [V3.at] at x1 x2 x3 y1 y2 y3
  rw [x1, x2, x3, y1, y2, y3]
theorem meet_mv {s t : TR} (hs : ∀ p ∈ s.l, (f p).v = mvZ k τ p.v) (ht : ∀ p ∈ t.l, (f p).v = mvZ k τ p.v) : meetV ⟨f s.a, f s.b, f s.c⟩ ⟨f t.a, f t.b, f t.c⟩ = meetV s t := by
  have ea : apartB ⟨f s.a, f s.b, f s.c⟩ ⟨f t.a, f t.b, f t.c⟩ = apartB s t := by
    unfold apartB
    rw [cmn_mv hk τ f true hs ht, flat_mv hk τ f hs, flat_mv hk τ f ht, List.length_map]
  unfold meetV
  rw [ea, ts_mv hk τ f hs ht, ts_mv hk τ f ht hs, cmn_mv hk τ f true hs ht, cmn_mv hk τ f false hs ht, cmn_mv hk τ f false ht hs]
  cases h : apartB s t
  · rw [cond_false, cond_false]
    obtain ⟨f1, f2, hc⟩ := meet_cases h
    have ms : ∀ {w : Bool} {p : PT}, p ∈ cmn w s t → (f p).v = mvZ k τ p.v := fun h => hs _ (List.mem_filter.1 h).1
    have mt : ∀ {w : Bool} {p : PT}, p ∈ cmn w t s → (f p).v = mvZ k τ p.v := fun h => ht _ (List.mem_filter.1 h).1
    rcases hc with ⟨a, u, u2, c, v, v2, e1, e2, e3, e4⟩ | ⟨a, b, u, c, d, v, e1, e2, e3, e4⟩ | ⟨a, b, c, d, e, g, e1, e2, e3, e4⟩
    · have hu := ms (p := u) (by rw [e2]; simp); have hu2 := ms (p := u2) (by rw [e2]; simp)
      have hv := mt (p := v) (by rw [e4]; simp); have hv2 := mt (p := v2) (by rw [e4]; simp)
      rw [e1, e2, e4]
      show (touchT (f u) (f u2) _ || touchT (f v) (f v2) _) = (touchT u u2 t || touchT v v2 s)
      rw [tT_mv hk τ f hu hu2 ht, tT_mv hk τ f hv hv2 hs]
    · have ha := ms (p := a) (by rw [e1]; simp); have hb := ms (p := b) (by rw [e1]; simp)
      have hu := ms (p := u) (by rw [e2]; simp); have hv := mt (p := v) (by rw [e4]; simp)
      rw [e1, e2, e4]
      exact edge_mv hk τ f ha hb hu hv
    · rw [e1, e2, e4]; rfl
  · rfl
end
end Go.Proofs.YtmooplnklcgfjaaGreatDoor
