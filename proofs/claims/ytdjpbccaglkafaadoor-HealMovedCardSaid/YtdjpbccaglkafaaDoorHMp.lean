/- law 05: moving and scaling changes no fault (plain). -/
import Derived.Test.YtdjpbccaglkafaaDoorHQ
namespace Go.Proofs.YtdjpbccaglkafaaDoor
open Go.RowKit
set_option maxRecDepth 100000

/-- by how much points are moved and scaled -/
structure MV where
  s : Int
  a : Int
  b : Int
  c : Int
  hs : 1 ≤ s ∧ s ≤ 1073741824
  ha : -1099511627776 < a ∧ a < 1099511627776
  hb : -1099511627776 < b ∧ b < 1099511627776
  hc : -1099511627776 < c ∧ c < 1099511627776
def mvP (m : MV) (p : PT) : PT := ⟨mvW m.s m.a p.x, mvW m.s m.b p.y, mvW m.s m.c p.z, ir_mvW _ _ _, ir_mvW _ _ _, ir_mvW _ _ _⟩
def mvT (m : MV) (t : TR) : TR := ⟨mvP m t.a, mvP m t.b, mvP m t.c⟩
theorem mv_num {s t x : Int} (hs : 1 ≤ s ∧ s ≤ 1073741824) (ht : -1099511627776 < t ∧ t < 1099511627776) (hx : 0 ≤ x ∧ x ≤ 3) : mvW s t x = x * s + t := by
  have h1 : 0 ≤ x * s ∧ x * s ≤ 3 * 1073741824 := ⟨Int.mul_nonneg hx.1 (by omega), Int.mul_le_mul hx.2 hs.2 (by omega) (by omega)⟩
  unfold mvW
  generalize x * s = y at *
  rw [wrap_id (z := y) (by unfold IR; omega), wrap_id (by unfold IR; omega)]
theorem mv_v {m : MV} {p : PT} (h : Sm3 p) : (mvP m p).v = ⟨p.x * m.s + m.a, p.y * m.s + m.b, p.z * m.s + m.c⟩ := by
  unfold mvP PT.v
  simp only [V3.mk.injEq]
  exact ⟨mv_num m.hs m.ha h.1, mv_num m.hs m.hb h.2.1, mv_num m.hs m.hc h.2.2⟩
theorem mv_eq1 {s t x y : Int} (hs : 1 ≤ s) : x * s + t = y * s + t ↔ x = y := by
  constructor
  · intro h
    have : x * s = y * s := by omega
    exact Int.eq_of_mul_eq_mul_right (by omega) this
  · rintro rfl; rfl
theorem mv_eqB {m : MV} {p q : PT} (hp : Sm3 p) (hq : Sm3 q) : eqB (mvP m p).v (mvP m q).v = eqB p.v q.v := by
  rw [mv_v hp, mv_v hq]
  unfold eqB
  simp only [mv_eq1 m.hs.1]
  rfl
theorem mv_eqP {m : MV} {p q : PT} (hp : Sm3 p) (hq : Sm3 q) : eqP (mvP m p) (mvP m q) = eqP p q := mv_eqB hp hq
theorem cmp_mv {m : MV} {l : List PT} (h : ∀ p ∈ l, Sm3 p) : ∀ k, cmpT (l.map (mvP m)) k = (cmpT l k).map (mvP m)
  | 0 => rfl
  | k + 1 => by
    unfold cmpT
    rw [cmp_mv h k]
    by_cases hk : k < l.length
    · rw [dif_pos (by rw [List.length_map]; exact hk), dif_pos hk]
      simp only [List.getElem_map]
      rw [mv_eqP (h _ (List.getElem_mem _)) (h _ (List.getElem_mem _))]
      split
      · rw [List.map_append]; rfl
      · rfl
    · rw [dif_neg (by rw [List.length_map]; exact hk), dif_neg hk]
theorem trim_mv {m : MV} {l : List PT} (h : ∀ p ∈ l, Sm3 p) : ∀ n, trimN (l.map (mvP m)) n = trimN l n
  | 0 => rfl
  | 1 => rfl
  | n + 2 => by
    unfold trimN
    by_cases hk : n + 1 < l.length
    · rw [dif_pos (by rw [List.length_map]; exact hk), dif_pos hk]
      simp only [List.getElem_map]
      rw [mv_eqP (h _ (List.getElem_mem _)) (h _ (List.getElem_mem _)), trim_mv h (n + 1)]
    · rw [dif_neg (by rw [List.length_map]; exact hk), dif_neg hk]
theorem cmp_mem {l : List PT} : ∀ k, ∀ p ∈ cmpT l k, p ∈ l
  | 0, p, h => by cases h
  | k + 1, p, h => by
    unfold cmpT at h
    split at h
    · split at h
      · rcases List.mem_append.1 h with h | h
        · exact cmp_mem k p h
        · rw [List.mem_singleton.1 h]; exact List.getElem_mem _
      · exact cmp_mem k p h
    · exact cmp_mem k p h
theorem clean_mem {l : List PT} {p : PT} (h : p ∈ cleanP l) : p ∈ l := cmp_mem _ p (List.mem_of_mem_take h)
theorem clean_mv {m : MV} {l : List PT} (h : ∀ p ∈ l, Sm3 p) : cleanP (l.map (mvP m)) = (cleanP l).map (mvP m) := by
  unfold cleanP
  rw [List.length_map, cmp_mv h, List.length_map, trim_mv fun p hp => h p (cmp_mem _ p hp), List.map_take]
/-- a triangle of the small grid -/
def SmT (t : TR) : Prop := Sm3 t.a ∧ Sm3 t.b ∧ Sm3 t.c
theorem al_mv {m : MV} {s t : TR} (hs : SmT s) (ht : SmT t) : alT (mvT m s) (mvT m t) = alT s t := by
  obtain ⟨s1, s2, s3⟩ := hs
  obtain ⟨t1, t2, t3⟩ := ht
  unfold alT alZ mvT
  simp only [mv_eqB s1 t1, mv_eqB s1 t2, mv_eqB s1 t3, mv_eqB s2 t1, mv_eqB s2 t2, mv_eqB s2 t3, mv_eqB s3 t1, mv_eqB s3 t2, mv_eqB s3 t3]
theorem zero_mul2 {s x : Int} (hs : 1 ≤ s) : x * (s * s) = 0 ↔ x = 0 := by
  constructor
  · intro h
    rcases Int.mul_eq_zero.1 h with h | h
    · exact h
    · rcases Int.mul_eq_zero.1 h with h | h <;> omega
  · rintro rfl; rw [Int.zero_mul]
theorem flat_mv {m : MV} {t : TR} (h : SmT t) : flatT (mvT m t) = flatT t := by
  obtain ⟨h1, h2, h3⟩ := h
  unfold flatT mvT
  simp only
  rw [mv_v h1, mv_v h2, mv_v h3]
  have e : normZ ⟨t.a.x * m.s + m.a, t.a.y * m.s + m.b, t.a.z * m.s + m.c⟩ ⟨t.b.x * m.s + m.a, t.b.y * m.s + m.b, t.b.z * m.s + m.c⟩ ⟨t.c.x * m.s + m.a, t.c.y * m.s + m.b, t.c.z * m.s + m.c⟩ =
      ⟨(normZ t.a.v t.b.v t.c.v).x * (m.s * m.s), (normZ t.a.v t.b.v t.c.v).y * (m.s * m.s), (normZ t.a.v t.b.v t.c.v).z * (m.s * m.s)⟩ := by
    unfold normZ V3.sub V3.cross PT.v
    simp only [V3.mk.injEq]
    refine ⟨?_, ?_, ?_⟩ <;> grind
  rw [e]
  unfold V3.isZ
  simp only [zero_mul2 m.hs.1]
theorem first_mv {m : MV} {t : TR} (ht : SmT t) : ∀ {l : List TR}, (∀ s ∈ l, SmT s) → firstAl (mvT m t) (l.map (mvT m)) = firstAl t l
  | [], _ => rfl
  | s :: l, h => by
    have hs := h s List.mem_cons_self
    show (if alT (mvT m t) (mvT m s) = 0 then firstAl (mvT m t) (l.map (mvT m)) else alT (mvT m t) (mvT m s)) = _
    rw [al_mv ht hs, first_mv ht fun x hx => h x (List.mem_cons_of_mem _ hx)]
    rfl
def SH.mv (m : MV) (st : SH) : SH := ⟨st.out.map (mvT m), st.bad⟩
def SH.Sm (st : SH) : Prop := ∀ t ∈ st.out, SmT t
theorem step_mv {m : MV} {pl : Int} {hp : IR pl} {st : SH} (hst : st.Sm) {t : TR} (ht : SmT t) : stepT pl hp (st.mv m) (mvT m t) = (stepT pl hp st t).mv m := by
  unfold stepT
  rw [flat_mv ht]
  show (if flatT t = true then _ else if firstAl (mvT m t) (st.out.map (mvT m)) = 1 then _ else if firstAl (mvT m t) (st.out.map (mvT m)) = 2 then _ else _) = _
  rw [first_mv ht hst]
  split
  · rfl
  · split
    · rfl
    · split
      · rfl
      · show (⟨st.out.map (mvT m) ++ [mvT m t], st.bad⟩ : SH) = ⟨(st.out ++ [t]).map (mvT m), st.bad⟩
        rw [List.map_append]; rfl
theorem step_sm {pl : Int} {hp : IR pl} {st : SH} (hst : st.Sm) {t : TR} (ht : SmT t) : (stepT pl hp st t).Sm := by
  unfold stepT
  split
  · exact hst
  · split
    · exact hst
    · split
      · exact hst
      · intro x hx
        rcases List.mem_append.1 (show x ∈ st.out ++ [t] from hx) with hx | hx
        · exact hst x hx
        · rw [List.mem_singleton.1 hx]; exact ht
theorem tri_mv {m : MV} {c : List PT} {k : Nat} (h : k + 2 < c.length) : triK (c.map (mvP m)) k = mvT m (triK c k) := by
  unfold triK mvT
  rw [ptD_eq (by rw [List.length_map]; omega), ptD_eq (by rw [List.length_map]; omega), ptD_eq (by rw [List.length_map]; omega), ptD_eq (by omega), ptD_eq (by omega), ptD_eq (by omega)]
  simp only [List.getElem_map]
theorem tri_sm {c : List PT} (hc : ∀ p ∈ c, Sm3 p) {k : Nat} (h : k + 2 < c.length) : SmT (triK c k) := by
  unfold triK
  rw [ptD_eq (by omega), ptD_eq (by omega), ptD_eq (by omega)]
  exact ⟨hc _ (List.getElem_mem _), hc _ (List.getElem_mem _), hc _ (List.getElem_mem _)⟩
theorem fan_mv {m : MV} {pl : Int} {hp : IR pl} {c : List PT} (hc : ∀ p ∈ c, Sm3 p) {st : SH} (hst : st.Sm) : ∀ k, k + 2 ≤ c.length → fanT pl hp (c.map (mvP m)) (st.mv m) k = (fanT pl hp c st k).mv m ∧ (fanT pl hp c st k).Sm
  | 0, _ => ⟨rfl, hst⟩
  | k + 1, h => by
    obtain ⟨h1, h2⟩ := fan_mv (m := m) (pl := pl) (hp := hp) hc hst k (by omega)
    unfold fanT
    rw [h1, tri_mv (by omega)]
    exact ⟨step_mv h2 (tri_sm hc (by omega)), step_sm h2 (tri_sm hc (by omega))⟩
theorem poly_mv {m : MV} {st : SH} (hst : st.Sm) {p q : PY} (hp : ∀ c ∈ p.cor, Sm3 c) (hq : q.cor = p.cor.map (mvP m)) (hl : q.pl = p.pl) : polyT (st.mv m) q = (polyT st p).mv m ∧ (polyT st p).Sm := by
  obtain ⟨nl, r, o, len, cap, ok, full, hl2, pl, hpl⟩ := q
  simp only at hl
  subst hl
  unfold polyT
  rw [hq, clean_mv hp, List.length_map]
  by_cases h : (cleanP p.cor).length < 3
  · rw [if_pos h, if_pos h]; exact ⟨rfl, hst⟩
  · rw [if_neg h, if_neg h]
    exact fan_mv (fun c hc => hp c (clean_mem hc)) hst _ (by omega)
theorem fold_mv {m : MV} : ∀ (l l' : List PY) (st : SH), st.Sm → l'.length = l.length → (∀ i (h : i < l.length) (h2 : i < l'.length), (∀ c ∈ l[i].cor, Sm3 c) ∧ l'[i].cor = l[i].cor.map (mvP m) ∧ l'[i].pl = l[i].pl) →
    l'.foldl polyT (st.mv m) = (l.foldl polyT st).mv m
  | [], l', _, _, hl, _ => by
    have : l' = [] := List.eq_nil_of_length_eq_zero hl
    subst this; rfl
  | p :: l, [], _, _, hl, _ => by cases hl
  | p :: l, q :: l', st, hst, hl, h => by
    obtain ⟨h1, h2, h3⟩ := h 0 (Nat.zero_lt_succ _) (Nat.zero_lt_succ _)
    obtain ⟨k1, k2⟩ := poly_mv (m := m) hst h1 h2 h3
    rw [List.foldl_cons, List.foldl_cons]
    have k1 : polyT (st.mv m) q = (polyT st p).mv m := k1
    rw [k1]
    refine fold_mv l l' _ k2 (by simpa using hl) fun i hi hi2 => ?_
    have := h (i + 1) (Nat.succ_lt_succ hi) (Nat.succ_lt_succ hi2)
    simpa using this
theorem heal_mv {m : MV} {l l' : List PY} (hl : l'.length = l.length) (h : ∀ i (h : i < l.length) (h2 : i < l'.length), (∀ c ∈ l[i].cor, Sm3 c) ∧ l'[i].cor = l[i].cor.map (mvP m) ∧ l'[i].pl = l[i].pl) :
    (healT l').out = (healT l).out.map (mvT m) ∧ (healT l').bad = (healT l).bad := by
  have := fold_mv (m := m) l l' ⟨[], []⟩ (fun t ht => by cases ht) hl h
  unfold healT
  have e : (⟨[], []⟩ : SH).mv m = ⟨[], []⟩ := rfl
  rw [e] at this
  rw [this]
  exact ⟨rfl, rfl⟩
end Go.Proofs.YtdjpbccaglkafaaDoor
