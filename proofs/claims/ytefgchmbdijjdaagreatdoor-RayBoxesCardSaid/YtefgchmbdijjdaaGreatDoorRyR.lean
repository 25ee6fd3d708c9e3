/- The reference of ray.Box, by the reckoner. -/
import Derived.Test.YtefgchmbdijjdaaGreatDoorRat2
namespace Go.Proofs.YtefgchmbdijjdaaGreatDoor
open Go.RowKit
set_option maxRecDepth 100000

theorem wi_x (s w d n e : Int) : ratOf (fracN (pN (fracN s w) (fracD s w) * pD (fracD (pN n e * pN d 1) (pD e * pD 1)) + pN (fracN (pN n e * pN d 1) (pD e * pD 1)) (fracD (pN n e * pN d 1) (pD e * pD 1)) * pD (fracD s w)) (pD (fracD s w) * pD (fracD (pN n e * pN d 1) (pD e * pD 1)))) (fracD (pN (fracN s w) (fracD s w) * pD (fracD (pN n e * pN d 1) (pD e * pD 1)) + pN (fracN (pN n e * pN d 1) (pD e * pD 1)) (fracD (pN n e * pN d 1) (pD e * pD 1)) * pD (fracD s w)) (pD (fracD s w) * pD (fracD (pN n e * pN d 1) (pD e * pD 1)))) = ((s : Rat) / (w : Rat) + ratOf n e * (d : Rat)) := by
  rw [ratOf_add, ratOf_frac, ratOf_mul, ratOf_one]
theorem wi_lo (s w d lo n e : Int) : decide ((pN lo 1 * pD (fracD (pN (fracN s w) (fracD s w) * pD (fracD (pN n e * pN d 1) (pD e * pD 1)) + pN (fracN (pN n e * pN d 1) (pD e * pD 1)) (fracD (pN n e * pN d 1) (pD e * pD 1)) * pD (fracD s w)) (pD (fracD s w) * pD (fracD (pN n e * pN d 1) (pD e * pD 1)))) - pN (fracN (pN (fracN s w) (fracD s w) * pD (fracD (pN n e * pN d 1) (pD e * pD 1)) + pN (fracN (pN n e * pN d 1) (pD e * pD 1)) (fracD (pN n e * pN d 1) (pD e * pD 1)) * pD (fracD s w)) (pD (fracD s w) * pD (fracD (pN n e * pN d 1) (pD e * pD 1)))) (fracD (pN (fracN s w) (fracD s w) * pD (fracD (pN n e * pN d 1) (pD e * pD 1)) + pN (fracN (pN n e * pN d 1) (pD e * pD 1)) (fracD (pN n e * pN d 1) (pD e * pD 1)) * pD (fracD s w)) (pD (fracD s w) * pD (fracD (pN n e * pN d 1) (pD e * pD 1)))) * pD 1).sign ≤ 0) = decide ((lo : Rat) ≤ ((s : Rat) / (w : Rat) + ratOf n e * (d : Rat))) := by
  rw [cmpR_le, wi_x, ratOf_one]
theorem wi_hi (s w d hi n e : Int) : decide ((pN (fracN (pN (fracN s w) (fracD s w) * pD (fracD (pN n e * pN d 1) (pD e * pD 1)) + pN (fracN (pN n e * pN d 1) (pD e * pD 1)) (fracD (pN n e * pN d 1) (pD e * pD 1)) * pD (fracD s w)) (pD (fracD s w) * pD (fracD (pN n e * pN d 1) (pD e * pD 1)))) (fracD (pN (fracN s w) (fracD s w) * pD (fracD (pN n e * pN d 1) (pD e * pD 1)) + pN (fracN (pN n e * pN d 1) (pD e * pD 1)) (fracD (pN n e * pN d 1) (pD e * pD 1)) * pD (fracD s w)) (pD (fracD s w) * pD (fracD (pN n e * pN d 1) (pD e * pD 1)))) * pD 1 - pN hi 1 * pD (fracD (pN (fracN s w) (fracD s w) * pD (fracD (pN n e * pN d 1) (pD e * pD 1)) + pN (fracN (pN n e * pN d 1) (pD e * pD 1)) (fracD (pN n e * pN d 1) (pD e * pD 1)) * pD (fracD s w)) (pD (fracD s w) * pD (fracD (pN n e * pN d 1) (pD e * pD 1))))).sign ≤ 0) = decide (((s : Rat) / (w : Rat) + ratOf n e * (d : Rat)) ≤ (hi : Rat)) := by
  rw [cmpR_le, wi_x, ratOf_one]
theorem wi_t {s w d lo hi : Int} {t : Rat} {b : Bool} (h1 : decide ((lo : Rat) ≤ (s : Rat) / (w : Rat) + t * (d : Rat)) = true) (h2 : b = decide ((s : Rat) / (w : Rat) + t * (d : Rat) ≤ (hi : Rat))) : b = wiB w s d lo hi t := by unfold wiB; rw [opq_eq, h1, h2]; rfl
theorem wi_f {s w d lo hi : Int} {t : Rat} (h1 : decide ((lo : Rat) ≤ (s : Rat) / (w : Rat) + t * (d : Rat)) = false) : false = wiB w s d lo hi t := by unfold wiB; rw [opq_eq, h1]; rfl
noncomputable def dWithin : Dn
  | [.agg [.int rx _, .int ry _, .int rz _, .int rw _, .int d0 _, .int d1 _, .int d2 _], .c (.int k _), .agg [.wid jn n _, .wid je e _], .c (.int lo _), .c (.int hi _)] =>
    if jn ≤ 300 ∧ je ≤ 300 then
      if k = 0 then some (none, .c (.val (.bool (wiB rw rx d0 lo hi (ratOf n e))))) else
      if k = 1 then some (none, .c (.val (.bool (wiB rw ry d1 lo hi (ratOf n e))))) else
      if k = 2 then some (none, .c (.val (.bool (wiB rw rz d2 lo hi (ratOf n e))))) else
      none
    else none
  | _ => none
set_option maxHeartbeats 4000000 in
theorem spWithin : SpOk Tryz.prog 67 dWithin := sp_of2 (un := 20) (n := 0) ⟨Tryz.func67, by kernel_rfl, by kernel_rfl⟩ baseC_ok noF_ok fun args p v hq => by
  unfold dWithin at hq
  split at hq
  · rename_i rx hrx ry hry rz hrz rw hrw d0 hd0 d1 hd1 d2 hd2 k hk jn n hn je e he lo hlo hi hhi
    split at hq
    · rename_i hcon
      split at hq
      · rename_i hij
        subst hij
        cases hq
        refine ⟨[.agg [.int rx hrx, .int ry hry, .int rz hrz, .int rw hrw, .int d0 hd0, .int d1 hd1, .int d2 hd2], .c (.int _ hk), .agg [.wid 300 n (hn.mono hcon.1), .wid 300 e (he.mono hcon.2)], .c (.int lo hlo), .c (.int hi hhi)], fun _ => rfl, fun _ _ => rfl, fun _ _ => rfl, fun _ => ?_⟩
        conv => whnf
        refine bcase_intro (fun h1 => ?_) (fun h1 => ?_)
        · have h1 := (wi_lo rx rw d0 lo n e).symm.trans h1
          conv => whnf
          exact fun ρ => sbool_e (wi_t h1 (wi_hi rx rw d0 hi n e)) ρ
        · have h1 := (wi_lo rx rw d0 lo n e).symm.trans h1
          conv => whnf
          exact fun ρ => sbool_e (wi_f h1) ρ
      split at hq
      · rename_i hij
        subst hij
        cases hq
        refine ⟨[.agg [.int rx hrx, .int ry hry, .int rz hrz, .int rw hrw, .int d0 hd0, .int d1 hd1, .int d2 hd2], .c (.int _ hk), .agg [.wid 300 n (hn.mono hcon.1), .wid 300 e (he.mono hcon.2)], .c (.int lo hlo), .c (.int hi hhi)], fun _ => rfl, fun _ _ => rfl, fun _ _ => rfl, fun _ => ?_⟩
        conv => whnf
        refine bcase_intro (fun h1 => ?_) (fun h1 => ?_)
        · have h1 := (wi_lo ry rw d1 lo n e).symm.trans h1
          conv => whnf
          exact fun ρ => sbool_e (wi_t h1 (wi_hi ry rw d1 hi n e)) ρ
        · have h1 := (wi_lo ry rw d1 lo n e).symm.trans h1
          conv => whnf
          exact fun ρ => sbool_e (wi_f h1) ρ
      split at hq
      · rename_i hij
        subst hij
        cases hq
        refine ⟨[.agg [.int rx hrx, .int ry hry, .int rz hrz, .int rw hrw, .int d0 hd0, .int d1 hd1, .int d2 hd2], .c (.int _ hk), .agg [.wid 300 n (hn.mono hcon.1), .wid 300 e (he.mono hcon.2)], .c (.int lo hlo), .c (.int hi hhi)], fun _ => rfl, fun _ _ => rfl, fun _ _ => rfl, fun _ => ?_⟩
        conv => whnf
        refine bcase_intro (fun h1 => ?_) (fun h1 => ?_)
        · have h1 := (wi_lo rz rw d2 lo n e).symm.trans h1
          conv => whnf
          exact fun ρ => sbool_e (wi_t h1 (wi_hi rz rw d2 hi n e)) ρ
        · have h1 := (wi_lo rz rw d2 lo n e).symm.trans h1
          conv => whnf
          exact fun ρ => sbool_e (wi_f h1) ρ
      cases hq
    · cases hq
  · cases hq
noncomputable def baseR : List (FuncId × Dn) := (67, dWithin) :: baseC
theorem baseR_ok : AllOk baseR := .cons spWithin <| baseC_ok
/-- a rational as a fraction's cells -/
structure RQ where
  q : Rat
  h : QB q
def rqC (x : RQ) : List C := [.wid 300 x.q.num x.h.1, .wid 300 (x.q.den : Int) x.h.2]
def rqsC : List RQ → List C
  | [] => []
  | x :: l => rqC x ++ rqsC l
theorem rqsC_size : ∀ l : List RQ, sizeC (rqsC l) = 4 * l.length
  | [] => rfl
  | x :: l => by rw [rqsC, sizeC_append, rqsC_size l]; simp [rqC, sizeC, C.n]; omega
theorem rqsC_pure : ∀ (l : List RQ), PureL (rqsC l)
  | [], _, _ => rfl
  | x :: l, ρ, ρ' => by rw [rqsC, List.flatMap_append, List.flatMap_append, rqsC_pure l ρ ρ']; rfl
theorem rqsC_append (a b : List RQ) : rqsC (a ++ b) = rqsC a ++ rqsC b := by
  induction a with
  | nil => rfl
  | cons t a ih => simp [rqsC, ih]
theorem subC_rqs (l : List RQ) {k : Nat} (hk : k < l.length) : subC (rqsC l) (0 + k * 4) 4 = some (rqC l[k]) := by
  have e : rqsC l = rqsC (l.take k) ++ (rqC l[k] ++ rqsC (l.drop (k + 1))) := by
    have h : l = l.take k ++ (l[k] :: l.drop (k + 1)) := by rw [← List.drop_eq_getElem_cons hk, List.take_append_drop]
    rw [show rqsC l = rqsC (l.take k ++ (l[k] :: l.drop (k + 1))) by rw [← h], rqsC_append]
    rfl
  have hs : sizeC (rqsC (l.take k)) = 0 + k * 4 := by rw [rqsC_size, List.length_take]; omega
  have h := subC_app (rqsC (l.take k)) (rqC l[k]) (rqsC (l.drop (k + 1)))
  rw [← e, hs] at h
  exact h
/-- a list of fractions of the call's own -/
structure OF where
  l : List RQ
  cap : Nat
  ok : SliOk false l.length cap
def OF.sl (o : OF) (b : Nat) : SV := .c (.sli false b 0 o.l.length o.cap o.ok)
def OF.blk (o : OF) : Blk := ⟨37, false, rqsC o.l, (o.cap - o.l.length) * 4⟩
def OF.push (o : OF) (m : List RQ) {n : Nat} (hn : m.length = n) (cap2 : Nat) (h2 : SliOk false (o.l.length + n) cap2) : OF := ⟨o.l ++ m, cap2, by rw [List.length_append, hn]; exact h2⟩
theorem OF.push_sl (o : OF) (m : List RQ) {n : Nat} (hn : m.length = n) (cap2 : Nat) (h2 : SliOk false (o.l.length + n) cap2) (b : Nat) (ρ : Rho) : (SV.c (.sli false b 0 (o.l.length + n) cap2 h2)).den ρ = ((o.push m hn cap2 h2).sl b).den ρ := by
  simp only [OF.sl, OF.push, SV.den, C.den, C.cells, List.length_append, hn]
theorem OF.push_blk (o : OF) (m : List RQ) {n : Nat} (hn : m.length = n) (cap2 : Nat) (h2 : SliOk false (o.l.length + n) cap2) {cs : List C} (hcs : ∀ ρ, cellsL ρ cs = cellsL ρ (rqsC m)) :
    37 = (o.push m hn cap2 h2).blk.ty ∧ false = (o.push m hn cap2 h2).blk.ro ∧ (cap2 - (o.l.length + n)) * 4 = (o.push m hn cap2 h2).blk.tl ∧ ∀ ρ, cellsL ρ (rqsC o.l ++ cs) = cellsL ρ (o.push m hn cap2 h2).blk.cs := by
  refine ⟨rfl, rfl, ?_, fun ρ => ?_⟩
  · simp only [OF.push, OF.blk, List.length_append, hn]
  · show _ = cellsL ρ (rqsC (o.l ++ m))
    rw [rqsC_append, cellsL_append, cellsL_append, hcs]
def cndK (r : RZ) (lo hi : V3) : Nat → List Rat
  | 0 => [0]
  | 1 => [0] ++ cnd r.w r.d.x (r.at lo).x (r.at hi).x
  | 2 => [0] ++ cnd r.w r.d.x (r.at lo).x (r.at hi).x ++ cnd r.w r.d.y (r.at lo).y (r.at hi).y
  | _ => cands r lo hi
theorem cnd_len (w d a b : Int) : (cnd w d a b).length ≤ 2 := by unfold cnd; split <;> simp
theorem cndK_len (r : RZ) (lo hi : V3) (k : Nat) : (cndK r lo hi k).length ≤ 7 := by
  have h1 := cnd_len r.w r.d.x (r.at lo).x (r.at hi).x
  have h2 := cnd_len r.w r.d.y (r.at lo).y (r.at hi).y
  have h3 := cnd_len r.w r.d.z (r.at lo).z (r.at hi).z
  match k with
  | 0 => simp [cndK]
  | 1 => simp only [cndK, List.length_append, List.length_cons, List.length_nil]; omega
  | 2 => simp only [cndK, List.length_append, List.length_cons, List.length_nil]; omega
  | n + 3 => simp only [cndK, cands, List.length_append, List.length_cons, List.length_nil]; omega
theorem cnd_no {w d a b : Int} (hw : w ≠ 0) (h : decide (w * d ≠ 0) = false) : cnd w d a b = [] := by
  have h := of_decide_eq_false h
  unfold cnd; rw [if_pos]
  exact Classical.byContradiction fun e => h (Int.mul_ne_zero hw e)
theorem cnd_yes {w d a b : Int} (h : decide (w * d ≠ 0) = true) : w * d ≠ 0 ∧ cnd w d a b = [(a : Rat) / ((w * d : Int) : Rat), (b : Rat) / ((w * d : Int) : Rat)] := by
  have h := of_decide_eq_true h
  refine ⟨h, ?_⟩
  unfold cnd; rw [if_neg]
  intro e; rw [e, Int.mul_zero] at h; exact h rfl
theorem map_len {l : List RQ} {m : List Rat} (h : l.map RQ.q = m) : l.length = m.length := by rw [← h, List.length_map]
def rnew (t : Rat) (s : Option (Rat × Rat)) : Option (Rat × Rat) := match s with | none => some (t, t) | some (a, b) => some (if t < a then t else a, if b < t then t else b)
def iN (s : Option (Rat × Rat)) : Rat := match s with | some p => p.1 | none => 0
def iO (s : Option (Rat × Rat)) : Rat := match s with | some p => p.2 | none => 0
theorem rfold_snoc (P : Rat → Bool) : ∀ (l : List Rat) (t : Rat) (s : Option (Rat × Rat)), rfold P (l ++ [t]) s = rst P t (rfold P l s)
  | [], _, _ => rfl
  | x :: l, t, s => rfold_snoc P l t (rst P x s)
theorem take_snoc {α β : Type} {l : List α} {f : α → β} {i : Nat} (hi : i < l.length) : ((l.map f).take (i + 1)) = (l.map f).take i ++ [f l[i]] := by
  rw [List.take_succ_eq_append_getElem (by simpa using hi), List.getElem_map]
theorem iQB {P : Rat → Bool} : ∀ {l : List RQ} {s : Option (Rat × Rat)}, QB (iN s) → QB (iO s) → QB (iN (rfold P (l.map RQ.q) s)) ∧ QB (iO (rfold P (l.map RQ.q) s))
  | [], s, h1, h2 => ⟨h1, h2⟩
  | x :: l, s, h1, h2 => by
    show QB (iN (rfold P (l.map RQ.q) (rst P x.q s))) ∧ QB (iO (rfold P (l.map RQ.q) (rst P x.q s)))
    refine iQB ?_ ?_
    all_goals
      unfold rst
      split
      · assumption
      split
      · cases s with
        | none => exact x.h
        | some p =>
          obtain ⟨i, o⟩ := p
          simp only [iN, iO]
          split
          · exact x.h
          · assumption
      · assumption
theorem lt_irF {n cap k : Nat} (h : SliOk false n cap) (hk : k ≤ n) : IR k := by have := h.1; have := h.2.1; unfold IR; omega
theorem take_map {l : List RQ} {i : Nat} : (l.map RQ.q).take i = (l.take i).map RQ.q := by rw [List.map_take]
theorem stQB (P : Rat → Bool) (l : List RQ) (i : Nat) : QB (iN (rfold P ((l.map RQ.q).take i) none)) ∧ QB (iO (rfold P ((l.map RQ.q).take i) none)) := by
  rw [take_map]; exact iQB qb0 qb0
section
variable {P : Rat → Bool} {l : List RQ} {i : Nat} (hi : i < l.length)
include hi
theorem st_next : rfold P ((l.map RQ.q).take (i + 1)) none = rst P l[i].q (rfold P ((l.map RQ.q).take i) none) := by
  rw [take_snoc hi, rfold_snoc]
theorem st_neg (h : decide ((pN l[i].q.num (l[i].q.den : Int) * pD 1 - pN 0 1 * pD (l[i].q.den : Int)).sign < 0) = true) : rfold P ((l.map RQ.q).take i) none = rfold P ((l.map RQ.q).take (i + 1)) none := by
  rw [cmpR_lt, ratOf_q, ratOf_one, Rat.intCast_zero] at h
  rw [st_next hi]
  unfold rst
  rw [if_pos (of_decide_eq_true h)]
theorem st_out (h : P l[i].q = false) : rfold P ((l.map RQ.q).take i) none = rfold P ((l.map RQ.q).take (i + 1)) none := by
  rw [st_next hi]
  unfold rst
  rw [h]
  split <;> rfl
theorem st_in (h0 : decide ((pN l[i].q.num (l[i].q.den : Int) * pD 1 - pN 0 1 * pD (l[i].q.den : Int)).sign < 0) = false) (h : P l[i].q = true) : rfold P ((l.map RQ.q).take (i + 1)) none = rnew l[i].q (rfold P ((l.map RQ.q).take i) none) := by
  rw [cmpR_lt, ratOf_q, ratOf_one, Rat.intCast_zero] at h0
  rw [st_next hi]
  unfold rst
  rw [if_neg (of_decide_eq_false h0), h]
  rfl
end
theorem st_first {s : Option (Rat × Rat)} (h : (!s.isSome) = true) {t : Rat} {s' : Option (Rat × Rat)} (e : s' = rnew t s) : t = iN s' ∧ t = iO s' := by
  cases s with
  | none => subst e; exact ⟨rfl, rfl⟩
  | some p => cases h
theorem st_lo {s : Option (Rat × Rat)} (h : (!s.isSome) = false) {t : Rat} {s' : Option (Rat × Rat)} (e : s' = rnew t s) :
    (decide ((pN t.num (t.den : Int) * pD ((iN s).den : Int) - pN (iN s).num ((iN s).den : Int) * pD (t.den : Int)).sign < 0) = true → t = iN s') ∧ (decide ((pN t.num (t.den : Int) * pD ((iN s).den : Int) - pN (iN s).num ((iN s).den : Int) * pD (t.den : Int)).sign < 0) = false → iN s = iN s') := by
  cases s with
  | none => cases h
  | some p =>
    obtain ⟨a, b⟩ := p
    subst e
    rw [cmp_lt]
    exact ⟨fun h => (if_pos (of_decide_eq_true h)).symm, fun h => (if_neg (of_decide_eq_false h)).symm⟩
theorem st_hi {s : Option (Rat × Rat)} (h : (!s.isSome) = false) {t : Rat} {s' : Option (Rat × Rat)} (e : s' = rnew t s) :
    (decide (0 < (pN t.num (t.den : Int) * pD ((iO s).den : Int) - pN (iO s).num ((iO s).den : Int) * pD (t.den : Int)).sign) = true → t = iO s') ∧ (decide (0 < (pN t.num (t.den : Int) * pD ((iO s).den : Int) - pN (iO s).num ((iO s).den : Int) * pD (t.den : Int)).sign) = false → iO s = iO s') := by
  cases s with
  | none => cases h
  | some p =>
    obtain ⟨a, b⟩ := p
    subst e
    rw [cmp_gt]
    exact ⟨fun h => (if_pos (of_decide_eq_true h)).symm, fun h => (if_neg (of_decide_eq_false h)).symm⟩
theorem st_some {s s' : Option (Rat × Rat)} {t : Rat} (e : s' = rnew t s) : true = s'.isSome := by
  subst e; cases s <;> rfl
theorem q_cells {x : RQ} {q : Rat} {h1 : Sm 300 q.num} {h2 : Sm 300 (q.den : Int)} (e : x.q = q) (ρ : Rho) : cellsL ρ (rqC x) = cellsL ρ [.wid 300 q.num h1, .wid 300 (q.den : Int) h2] := by subst e; rfl
theorem qq_cells {p q : Rat} {h1 : Sm 300 p.num} {h2 : Sm 300 (p.den : Int)} {h3 : Sm 300 q.num} {h4 : Sm 300 (q.den : Int)} (e : p = q) (ρ : Rho) : cellsL ρ [.wid 300 p.num h1, .wid 300 (p.den : Int) h2] = cellsL ρ [.wid 300 q.num h3, .wid 300 (q.den : Int) h4] := by subst e; rfl
theorem bs_iN (r : RZ) (lo hi : V3) : iN (boxR r lo hi) = bI r lo hi := by unfold bI; rw [opq_eq]; rfl
theorem bs_iO (r : RZ) (lo hi : V3) : iO (boxR r lo hi) = bO r lo hi := by unfold bO; rw [opq_eq]; rfl
theorem box_fin {r : RZ} {lo hi : V3} (hB : BoxB r lo hi) {s : Option (Rat × Rat)} (h : s = boxR r lo hi) {k j k' j' : Nat} (h1 : Sm k (iN s).num) (h2 : Sm j ((iN s).den : Int)) (h3 : Sm k' (iO s).num) (h4 : Sm j' ((iO s).den : Int)) (ρ : Rho) :
    (SV.tup [.agg [.wid k (iN s).num h1, .wid j ((iN s).den : Int) h2], .agg [.wid k' (iO s).num h3, .wid j' ((iO s).den : Int) h4], .c (.val (.bool s.isSome))]).den ρ = (boxV r lo hi hB).den ρ := by
  subst h
  exact tup3_sv (wid2_agg _ _ _ _ (by rw [bs_iN]) (by rw [bs_iN]) ρ) (wid2_agg _ _ _ _ (by rw [bs_iO]) (by rw [bs_iO]) ρ) (by unfold bB; rw [opq_eq])
theorem inb_1 {r : RZ} {lo hi : V3} {t : Rat} (h : (!wiB r.w r.x r.d.x lo.x hi.x t) = true) : inBx r lo hi t = false := by unfold inBx; rw [not_t h]; rfl
theorem inb_2 {r : RZ} {lo hi : V3} {t : Rat} (h : (!wiB r.w r.y r.d.y lo.y hi.y t) = true) : inBx r lo hi t = false := by unfold inBx; rw [not_t h]; simp
theorem inb_3 {r : RZ} {lo hi : V3} {t : Rat} (h : (!wiB r.w r.z r.d.z lo.z hi.z t) = true) : inBx r lo hi t = false := by unfold inBx; rw [not_t h]; simp
theorem inb_t {r : RZ} {lo hi : V3} {t : Rat} (h1 : (!wiB r.w r.x r.d.x lo.x hi.x t) = false) (h2 : (!wiB r.w r.y r.d.y lo.y hi.y t) = false) (h3 : (!wiB r.w r.z r.d.z lo.z hi.z t) = false) : inBx r lo hi t = true := by unfold inBx; rw [not_f h1, not_f h2, not_f h3]; rfl
theorem cells_app {a b c d : List C} {ρ : Rho} (h1 : cellsL ρ a = cellsL ρ b) (h2 : cellsL ρ c = cellsL ρ d) : cellsL ρ (a ++ c) = cellsL ρ (b ++ d) := by rw [cellsL_append, cellsL_append, h1, h2]
set_option maxHeartbeats 32000000 in
theorem vcBox22 {rx ry rz rw d0 d1 d2 x1 y1 z1 x2 y2 z2 : Int} (hrx : IR rx) (hry : IR ry) (hrz : IR rz) (hrw : IR rw) (hd0 : IR d0) (hd1 : IR d1) (hd2 : IR d2) (hx1 : IR x1) (hy1 : IR y1) (hz1 : IR z1) (hx2 : IR x2) (hy2 : IR y2) (hz2 : IR z2) : vcF (envN 0 baseR [] fun i => i == 6 || i == 34) (mix [] (envN 0 baseR [] fun i => i == 6 || i == 34) noF 0) Tryz.f18 [.agg [.int rx hrx, .int ry hry, .int rz hrz, .int rw hrw, .int d0 hd0, .int d1 hd1, .int d2 hd2], .agg [.int x1 hx1, .int y1 hy1, .int z1 hz1], .agg [.int x2 hx2, .int y2 hy2, .int z2 hz2]] [] fun u _ => ∀ ρ, u.den ρ = (boxV (⟨rx, ry, rz, rw, ⟨d0, d1, d2⟩⟩ : RZ) ⟨x1, y1, z1⟩ ⟨x2, y2, z2⟩ (box_bits hrx hry hrz hrw hd0 hd1 hd2 hx1 hy1 hz1 hx2 hy2 hz2)).den ρ := by
  conv => whnf
  refine bcase_intro (fun hn => ?_) (fun hn => ?_)
  · have hn : permZ (⟨rx, ry, rz, rw, ⟨d0, d1, d2⟩⟩ : RZ) = false := not_t hn
    conv => whnf
    refine ⟨?_, ?_, trivial⟩
    · conv => whnf
      refine ⟨?_, ?_, trivial⟩
      · conv => whnf
        refine ⟨?_, trivial⟩
        · conv => whnf
          refine ⟨?_, trivial⟩
          · conv => whnf
            refine ⟨?_, trivial⟩
            · conv => whnf
              conv => whnf
              exact fun ρ => box_no _ (box_np hn) _ _ _ _ ρ
      · conv => whnf
        refine ⟨?_, trivial⟩
        · conv => whnf
          refine ⟨?_, trivial⟩
          · conv => whnf
            refine ⟨?_, trivial⟩
            · conv => whnf
              conv => whnf
              exact fun ρ => box_no _ (box_np hn) _ _ _ _ ρ
    · conv => whnf
      refine ⟨?_, trivial⟩
      · conv => whnf
        refine ⟨?_, trivial⟩
        · conv => whnf
          refine ⟨?_, trivial⟩
          · conv => whnf
            refine ⟨?_, trivial⟩
            · conv => whnf
              conv => whnf
              exact fun ρ => box_no _ (box_np hn) _ _ _ _ ρ
  have hperm : permZ (⟨rx, ry, rz, rw, ⟨d0, d1, d2⟩⟩ : RZ) = true := not_f hn
  have hw : 0 < rw := perm_w hperm
  conv => whnf
  refine loop_st (G := {g : Nat × OF // g.1 ≤ 3 ∧ g.2.l.map RQ.q = cndK (⟨rx, ry, rz, rw, ⟨d0, d1, d2⟩⟩ : RZ) ⟨x1, y1, z1⟩ ⟨x2, y2, z2⟩ g.1} × (Nat → Value)) (fun g => (.c (.val (g.2 0)) :: .c (.val (g.2 1)) :: .c (.val (g.2 2)) :: .c (.ptr 0 0) :: .c (.val (g.2 4)) :: .c (.val (g.2 5)) :: .c (.ptr 1 0) :: .c (.ptr 2 0) :: .c (.val (g.2 8)) :: .c (.ptr 3 0) :: .c (.ptr 4 0) :: .c (.val (.bool false)) :: .c (.val (g.2 12)) :: .c (.ptr 5 0) :: .c (.ptr 6 0) :: .c (.ptr 7 0) :: .c (.ptr 8 0) :: g.1.1.2.sl 9 :: .c (.int (g.1.1.1 : Nat) (k_ir g.1.2.1)) :: .c (.val (g.2 19)) :: .c (.val (g.2 20)) :: .c (.val (g.2 21)) :: .c (.val (g.2 22)) :: .c (.val (g.2 23)) :: .c (.val (g.2 24)) :: .c (.val (g.2 25)) :: .c (.val (g.2 26)) :: .c (.val (g.2 27)) :: .c (.val (g.2 28)) :: .c (.val (g.2 29)) :: .c (.val (g.2 30)) :: .c (.val (g.2 31)) :: .c (.val (g.2 32)) :: .c (.val (g.2 33)) :: .c (.val (g.2 34)) :: .c (.val (g.2 35)) :: .c (.val (g.2 36)) :: .c (.val (g.2 37)) :: .c (.val (g.2 38)) :: .c (.val (g.2 39)) :: .c (.val (g.2 40)) :: .c (.val (g.2 41)) :: .c (.val (g.2 42)) :: .c (.val (g.2 43)) :: .c (.val (g.2 44)) :: .c (.val (g.2 45)) :: .c (.val (g.2 46)) :: .c (.val (g.2 47)) :: .c (.val (g.2 48)) :: .c (.val (g.2 49)) :: .c (.val (g.2 50)) :: .c (.val (g.2 51)) :: .c (.val (g.2 52)) :: .c (.val (g.2 53)) :: .c (.val (g.2 54)) :: .c (.val (g.2 55)) :: .c (.val (g.2 56)) :: .c (.val (g.2 57)) :: .c (.val (g.2 58)) :: .c (.val (g.2 59)) :: .c (.val (g.2 60)) :: .c (.val (g.2 61)) :: .c (.val (g.2 62)) :: .c (.val (g.2 63)) :: .c (.val (g.2 64)) :: .c (.val (g.2 65)) :: .c (.val (g.2 66)) :: .c (.val (g.2 67)) :: .c (.val (g.2 68)) :: .c (.val (g.2 69)) :: .c (.val (g.2 70)) :: .c (.val (g.2 71)) :: .c (.val (g.2 72)) :: .c (.val (g.2 73)) :: .c (.val (g.2 74)) :: .c (.val (g.2 75)) :: .c (.val (g.2 76)) :: .c (.val (g.2 77)) :: .c (.val (g.2 78)) :: .c (.val (g.2 79)) :: .c (.val (g.2 80)) :: .c (.val (g.2 81)) :: .c (.val (g.2 82)) :: .c (.val (g.2 83)) :: .c (.val (g.2 84)) :: .c (.val (g.2 85)) :: .c (.val (g.2 86)) :: .c (.val (g.2 87)) :: .c (.val (g.2 88)) :: .c (.val (g.2 89)) :: .c (.val (g.2 90)) :: .c (.val (g.2 91)) :: .c (.val (g.2 92)) :: .c (.val (g.2 93)) :: .c (.val (g.2 94)) :: .c (.val (g.2 95)) :: .c (.val (g.2 96)) :: .c (.val (g.2 97)) :: .c (.val (g.2 98)) :: .c (.val (g.2 99)) :: .c (.val (g.2 100)) :: .c (.val (g.2 101)) :: .c (.val (g.2 102)) :: .c (.val (g.2 103)) :: .c (.val (g.2 104)) :: .c (.val (g.2 105)) :: .c (.val (g.2 106)) :: .c (.val (g.2 107)) :: .c (.val (g.2 108)) :: .c (.val (g.2 109)) :: .c (.val (g.2 110)) :: .c (.val (g.2 111)) :: .c (.val (g.2 112)) :: .c (.val (g.2 113)) :: .c (.val (g.2 114)) :: .c (.val (g.2 115)) :: .c (.val (g.2 116)) :: .c (.val (g.2 117)) :: .c (.val (g.2 118)) :: .c (.val (g.2 119)) :: .c (.val (g.2 120)) :: .c (.val (g.2 121)) :: .c (.val (g.2 122)) :: .c (.val (g.2 123)) :: .c (.val (g.2 124)) :: .c (.val (g.2 125)) :: .c (.val (g.2 126)) :: .c (.val (g.2 127)) :: .c (.val (g.2 128)) :: .c (.val (g.2 129)) :: .c (.val (g.2 130)) :: .c (.val (g.2 131)) :: .c (.val (g.2 132)) :: .c (.val (g.2 133)) :: .c (.val (g.2 134)) :: .c (.val (g.2 135)) :: .c (.val (g.2 136)) :: .c (.val (g.2 137)) :: .c (.val (g.2 138)) :: .c (.val (g.2 139)) :: .c (.val (g.2 140)) :: .c (.val (g.2 141)) :: .c (.val (g.2 142)) :: .c (.val (g.2 143)) :: .c (.val (g.2 144)) :: .c (.val (g.2 145)) :: .c (.val (g.2 146)) :: .c (.val (g.2 147)) :: .c (.val (g.2 148)) :: .c (.val (g.2 149)) :: .c (.val (g.2 150)) :: .c (.val (g.2 151)) :: .c (.val (g.2 152)) :: .c (.val (g.2 153)) :: .c (.val (g.2 154)) :: .c (.val (g.2 155)) :: .c (.val (g.2 156)) :: .c (.val (g.2 157)) :: .c (.val (g.2 158)) :: .c (.val (g.2 159)) :: [])) (fun g => [⟨24, false, [.int rx hrx, .int ry hry, .int rz hrz, .int rw hrw, .int d0 hd0, .int d1 hd1, .int d2 hd2], 0⟩, ⟨37, false, [zw, zw], 0⟩, ⟨37, false, [zw, zw], 0⟩, ⟨37, false, [.wid 300 (0 : Rat).num qb0.1, .wid 300 ((0 : Rat).den : Int) qb0.2], 0⟩, ⟨37, false, [.wid 300 (0 : Rat).num qb0.1, .wid 300 ((0 : Rat).den : Int) qb0.2], 0⟩, ⟨22, false, [.int x1 hx1, .int y1 hy1, .int z1 hz1], 0⟩, ⟨22, false, [.int x2 hx2, .int y2 hy2, .int z2 hz2], 0⟩, ⟨74, false, [.wid 300 (RZ.at (⟨rx, ry, rz, rw, ⟨d0, d1, d2⟩⟩ : RZ) ⟨x1, y1, z1⟩).x (box_bits hrx hry hrz hrw hd0 hd1 hd2 hx1 hy1 hz1 hx2 hy2 hz2).ax, .wid 300 (RZ.at (⟨rx, ry, rz, rw, ⟨d0, d1, d2⟩⟩ : RZ) ⟨x1, y1, z1⟩).y (box_bits hrx hry hrz hrw hd0 hd1 hd2 hx1 hy1 hz1 hx2 hy2 hz2).ay, .wid 300 (RZ.at (⟨rx, ry, rz, rw, ⟨d0, d1, d2⟩⟩ : RZ) ⟨x1, y1, z1⟩).z (box_bits hrx hry hrz hrw hd0 hd1 hd2 hx1 hy1 hz1 hx2 hy2 hz2).az], 0⟩, ⟨74, false, [.wid 300 (RZ.at (⟨rx, ry, rz, rw, ⟨d0, d1, d2⟩⟩ : RZ) ⟨x2, y2, z2⟩).x (box_bits hrx hry hrz hrw hd0 hd1 hd2 hx1 hy1 hz1 hx2 hy2 hz2).bx, .wid 300 (RZ.at (⟨rx, ry, rz, rw, ⟨d0, d1, d2⟩⟩ : RZ) ⟨x2, y2, z2⟩).y (box_bits hrx hry hrz hrw hd0 hd1 hd2 hx1 hy1 hz1 hx2 hy2 hz2).by_, .wid 300 (RZ.at (⟨rx, ry, rz, rw, ⟨d0, d1, d2⟩⟩ : RZ) ⟨x2, y2, z2⟩).z (box_bits hrx hry hrz hrw hd0 hd1 hd2 hx1 hy1 hz1 hx2 hy2 hz2).bz], 0⟩, g.1.1.2.blk]) (fun g => 3 - g.1.1.1) ?_ ?_
  · refine ⟨[0, 3, 4, 5, 6, 7, 8, 9, 10, 11], [3, 6, 7, 9, 10, 11, 13, 14, 15, 16, 17, 18], [0, 1, 2, 3, 4, 5, 6, 7, 8, 9], fun vs => ?_⟩
    conv => whnf
    refine ⟨fun _ _ => rfl, fun _ _ => rfl, fun _ _ => rfl, fun _ _ => rfl, fun _ _ => rfl, fun _ _ => rfl, fun _ _ => rfl, fun _ _ => rfl, fun _ _ => rfl, fun _ _ => rfl, ?_⟩
    conv => whnf
    refine ⟨_, _, ?_, ?_, (⟨(0, OF.mk [(⟨0, qb0⟩ : RQ)] 1 (by decide)), by decide, rfl⟩, vs), rfl, rfl⟩
    · exact stm _
    · exact ⟨⟨rfl, rfl, rfl, fun _ => rfl⟩, ⟨rfl, rfl, rfl, fun _ => rfl⟩, ⟨rfl, rfl, rfl, fun _ => rfl⟩, ⟨rfl, rfl, rfl, fun _ => rfl⟩, ⟨rfl, rfl, rfl, fun _ => rfl⟩, ⟨rfl, rfl, rfl, fun _ => rfl⟩, ⟨rfl, rfl, rfl, fun _ => rfl⟩, ⟨rfl, rfl, rfl, fun _ => rfl⟩, ⟨rfl, rfl, rfl, fun _ => rfl⟩, ⟨rfl, rfl, rfl, fun _ => rfl⟩, trivial⟩
  · rintro ⟨⟨⟨k, o⟩, hk, ho⟩, vs⟩
    have hk4 : k = 0 ∨ k = 1 ∨ k = 2 ∨ k = 3 := by have : k ≤ 3 := hk; omega
    have hlen : o.l.length ≤ 7 := Nat.le_trans (Nat.le_of_eq (map_len ho)) (cndK_len _ _ _ _)
    rcases hk4 with rfl | rfl | rfl | rfl
    · conv => whnf
      refine bcase_intro (fun hd => ?_) (fun hd => ?_)
      · have hy := cnd_yes (a := (RZ.at (⟨rx, ry, rz, rw, ⟨d0, d1, d2⟩⟩ : RZ) ⟨x1, y1, z1⟩).x) (b := (RZ.at (⟨rx, ry, rz, rw, ⟨d0, d1, d2⟩⟩ : RZ) ⟨x2, y2, z2⟩).x) hd
        conv => whnf
        refine .inl ?_
        conv => whnf
        refine ⟨rfl, ?_⟩
        conv => whnf
        refine ⟨⟨rfl, rfl, by rw [rqsC_size]; omega, fun _ => by rw [rqsC_size]; have := o.ok.1; show 4 * o.l.length + (o.cap - o.l.length) * 4 = o.cap * 4; omega, by show (o.l.length + 2) * 4 ≤ _; omega⟩, fun c2 (k2 : SliOk false (o.l.length + 2) c2) => ?_⟩
        conv => whnf
        refine ⟨[0, 1, 2, 3, 4, 5, 6, 7, 8, 14], [3, 6, 7, 9, 10, 11, 13, 14, 15, 16, 17, 18], [0, 1, 2, 3, 4, 5, 6, 7, 8, 9], fun vs2 => ?_⟩
        conv => whnf
        refine ⟨fun _ _ => rfl, fun _ _ => rfl, fun _ _ => rfl, fun _ _ => rfl, fun _ _ => rfl, fun _ _ => rfl, fun _ _ => rfl, fun _ _ => rfl, fun _ _ => rfl, pureL_append (rqsC_pure o.l) (fun _ _ => rfl), ?_⟩
        conv => whnf
        refine ⟨_, _, ?_, ?_, (⟨(1, o.push [⟨_, (qb_div (a := (RZ.at (⟨rx, ry, rz, rw, ⟨d0, d1, d2⟩⟩ : RZ) ⟨x1, y1, z1⟩).x) (c := rw * d0) (box_bits hrx hry hrz hrw hd0 hd1 hd2 hx1 hy1 hz1 hx2 hy2 hz2).ax (box_bits hrx hry hrz hrw hd0 hd1 hd2 hx1 hy1 hz1 hx2 hy2 hz2).cx)⟩, ⟨_, (qb_div (a := (RZ.at (⟨rx, ry, rz, rw, ⟨d0, d1, d2⟩⟩ : RZ) ⟨x2, y2, z2⟩).x) (c := rw * d0) (box_bits hrx hry hrz hrw hd0 hd1 hd2 hx1 hy1 hz1 hx2 hy2 hz2).bx (box_bits hrx hry hrz hrw hd0 hd1 hd2 hx1 hy1 hz1 hx2 hy2 hz2).cx)⟩] (n := 2) rfl c2 k2), (by decide : 1 ≤ 3), (by show (o.l ++ _).map RQ.q = _; rw [List.map_append, ho]; show _ ++ [_, _] = cndK _ _ _ 1; rw [← hy.2]; rfl)⟩, vs2), (by decide : 3 - 1 < 3 - 0), rfl, rfl⟩
        · exact ⟨fun _ => rfl, fun _ => rfl, fun _ => rfl, fun _ => rfl, fun _ => rfl, fun _ => rfl, fun _ => rfl, fun _ => rfl, fun _ => rfl, fun _ => rfl, fun _ => rfl, fun _ => rfl, fun _ => rfl, fun _ => rfl, fun _ => rfl, fun _ => rfl, fun _ => rfl, fun ρ => OF.push_sl o _ (n := 2) rfl c2 k2 9 ρ, stm _⟩
        · exact ⟨⟨rfl, rfl, rfl, fun _ => rfl⟩, ⟨rfl, rfl, rfl, fun _ => rfl⟩, ⟨rfl, rfl, rfl, fun _ => rfl⟩, ⟨rfl, rfl, rfl, fun _ => rfl⟩, ⟨rfl, rfl, rfl, fun _ => rfl⟩, ⟨rfl, rfl, rfl, fun _ => rfl⟩, ⟨rfl, rfl, rfl, fun _ => rfl⟩, ⟨rfl, rfl, rfl, fun _ => rfl⟩, ⟨rfl, rfl, rfl, fun _ => rfl⟩, OF.push_blk o _ (n := 2) rfl c2 k2 (fun ρ => cells_app (w2_cells (frac_rat hy.1) ρ) (w2_cells (frac_rat hy.1) ρ)), trivial⟩
      · conv => whnf
        refine ⟨[0, 1, 2, 3, 4, 5, 6, 7, 8, 9], [3, 6, 7, 9, 10, 11, 13, 14, 15, 16, 17, 18], [0, 1, 2, 3, 4, 5, 6, 7, 8, 9], fun vs2 => ?_⟩
        conv => whnf
        refine ⟨fun _ _ => rfl, fun _ _ => rfl, fun _ _ => rfl, fun _ _ => rfl, fun _ _ => rfl, fun _ _ => rfl, fun _ _ => rfl, fun _ _ => rfl, fun _ _ => rfl, rqsC_pure o.l, ?_⟩
        conv => whnf
        refine ⟨_, _, ?_, ?_, (⟨(1, o), (by decide : 1 ≤ 3), (by rw [ho]; show _ = cndK _ _ _ 1; show _ = _ ++ cnd _ _ _ _; rw [cnd_no (Int.ne_of_gt hw) hd, List.append_nil]; rfl)⟩, vs2), (by decide : 3 - 1 < 3 - 0), rfl, rfl⟩
        · exact stm _
        · exact ⟨⟨rfl, rfl, rfl, fun _ => rfl⟩, ⟨rfl, rfl, rfl, fun _ => rfl⟩, ⟨rfl, rfl, rfl, fun _ => rfl⟩, ⟨rfl, rfl, rfl, fun _ => rfl⟩, ⟨rfl, rfl, rfl, fun _ => rfl⟩, ⟨rfl, rfl, rfl, fun _ => rfl⟩, ⟨rfl, rfl, rfl, fun _ => rfl⟩, ⟨rfl, rfl, rfl, fun _ => rfl⟩, ⟨rfl, rfl, rfl, fun _ => rfl⟩, ⟨rfl, rfl, rfl, fun _ => rfl⟩, trivial⟩
    · conv => whnf
      refine bcase_intro (fun hd => ?_) (fun hd => ?_)
      · have hy := cnd_yes (a := (RZ.at (⟨rx, ry, rz, rw, ⟨d0, d1, d2⟩⟩ : RZ) ⟨x1, y1, z1⟩).y) (b := (RZ.at (⟨rx, ry, rz, rw, ⟨d0, d1, d2⟩⟩ : RZ) ⟨x2, y2, z2⟩).y) hd
        conv => whnf
        refine .inl ?_
        conv => whnf
        refine ⟨rfl, ?_⟩
        conv => whnf
        refine ⟨⟨rfl, rfl, by rw [rqsC_size]; omega, fun _ => by rw [rqsC_size]; have := o.ok.1; show 4 * o.l.length + (o.cap - o.l.length) * 4 = o.cap * 4; omega, by show (o.l.length + 2) * 4 ≤ _; omega⟩, fun c2 (k2 : SliOk false (o.l.length + 2) c2) => ?_⟩
        conv => whnf
        refine ⟨[0, 1, 2, 3, 4, 5, 6, 7, 8, 14], [3, 6, 7, 9, 10, 11, 13, 14, 15, 16, 17, 18], [0, 1, 2, 3, 4, 5, 6, 7, 8, 9], fun vs2 => ?_⟩
        conv => whnf
        refine ⟨fun _ _ => rfl, fun _ _ => rfl, fun _ _ => rfl, fun _ _ => rfl, fun _ _ => rfl, fun _ _ => rfl, fun _ _ => rfl, fun _ _ => rfl, fun _ _ => rfl, pureL_append (rqsC_pure o.l) (fun _ _ => rfl), ?_⟩
        conv => whnf
        refine ⟨_, _, ?_, ?_, (⟨(2, o.push [⟨_, (qb_div (a := (RZ.at (⟨rx, ry, rz, rw, ⟨d0, d1, d2⟩⟩ : RZ) ⟨x1, y1, z1⟩).y) (c := rw * d1) (box_bits hrx hry hrz hrw hd0 hd1 hd2 hx1 hy1 hz1 hx2 hy2 hz2).ay (box_bits hrx hry hrz hrw hd0 hd1 hd2 hx1 hy1 hz1 hx2 hy2 hz2).cy)⟩, ⟨_, (qb_div (a := (RZ.at (⟨rx, ry, rz, rw, ⟨d0, d1, d2⟩⟩ : RZ) ⟨x2, y2, z2⟩).y) (c := rw * d1) (box_bits hrx hry hrz hrw hd0 hd1 hd2 hx1 hy1 hz1 hx2 hy2 hz2).by_ (box_bits hrx hry hrz hrw hd0 hd1 hd2 hx1 hy1 hz1 hx2 hy2 hz2).cy)⟩] (n := 2) rfl c2 k2), (by decide : 2 ≤ 3), (by show (o.l ++ _).map RQ.q = _; rw [List.map_append, ho]; show _ ++ [_, _] = cndK _ _ _ 2; rw [← hy.2]; rfl)⟩, vs2), (by decide : 3 - 2 < 3 - 1), rfl, rfl⟩
        · exact ⟨fun _ => rfl, fun _ => rfl, fun _ => rfl, fun _ => rfl, fun _ => rfl, fun _ => rfl, fun _ => rfl, fun _ => rfl, fun _ => rfl, fun _ => rfl, fun _ => rfl, fun _ => rfl, fun _ => rfl, fun _ => rfl, fun _ => rfl, fun _ => rfl, fun _ => rfl, fun ρ => OF.push_sl o _ (n := 2) rfl c2 k2 9 ρ, stm _⟩
        · exact ⟨⟨rfl, rfl, rfl, fun _ => rfl⟩, ⟨rfl, rfl, rfl, fun _ => rfl⟩, ⟨rfl, rfl, rfl, fun _ => rfl⟩, ⟨rfl, rfl, rfl, fun _ => rfl⟩, ⟨rfl, rfl, rfl, fun _ => rfl⟩, ⟨rfl, rfl, rfl, fun _ => rfl⟩, ⟨rfl, rfl, rfl, fun _ => rfl⟩, ⟨rfl, rfl, rfl, fun _ => rfl⟩, ⟨rfl, rfl, rfl, fun _ => rfl⟩, OF.push_blk o _ (n := 2) rfl c2 k2 (fun ρ => cells_app (w2_cells (frac_rat hy.1) ρ) (w2_cells (frac_rat hy.1) ρ)), trivial⟩
      · conv => whnf
        refine ⟨[0, 1, 2, 3, 4, 5, 6, 7, 8, 9], [3, 6, 7, 9, 10, 11, 13, 14, 15, 16, 17, 18], [0, 1, 2, 3, 4, 5, 6, 7, 8, 9], fun vs2 => ?_⟩
        conv => whnf
        refine ⟨fun _ _ => rfl, fun _ _ => rfl, fun _ _ => rfl, fun _ _ => rfl, fun _ _ => rfl, fun _ _ => rfl, fun _ _ => rfl, fun _ _ => rfl, fun _ _ => rfl, rqsC_pure o.l, ?_⟩
        conv => whnf
        refine ⟨_, _, ?_, ?_, (⟨(2, o), (by decide : 2 ≤ 3), (by rw [ho]; show _ = cndK _ _ _ 2; show _ = _ ++ cnd _ _ _ _; rw [cnd_no (Int.ne_of_gt hw) hd, List.append_nil]; rfl)⟩, vs2), (by decide : 3 - 2 < 3 - 1), rfl, rfl⟩
        · exact stm _
        · exact ⟨⟨rfl, rfl, rfl, fun _ => rfl⟩, ⟨rfl, rfl, rfl, fun _ => rfl⟩, ⟨rfl, rfl, rfl, fun _ => rfl⟩, ⟨rfl, rfl, rfl, fun _ => rfl⟩, ⟨rfl, rfl, rfl, fun _ => rfl⟩, ⟨rfl, rfl, rfl, fun _ => rfl⟩, ⟨rfl, rfl, rfl, fun _ => rfl⟩, ⟨rfl, rfl, rfl, fun _ => rfl⟩, ⟨rfl, rfl, rfl, fun _ => rfl⟩, ⟨rfl, rfl, rfl, fun _ => rfl⟩, trivial⟩
    · conv => whnf
      refine bcase_intro (fun hd => ?_) (fun hd => ?_)
      · have hy := cnd_yes (a := (RZ.at (⟨rx, ry, rz, rw, ⟨d0, d1, d2⟩⟩ : RZ) ⟨x1, y1, z1⟩).z) (b := (RZ.at (⟨rx, ry, rz, rw, ⟨d0, d1, d2⟩⟩ : RZ) ⟨x2, y2, z2⟩).z) hd
        conv => whnf
        refine .inl ?_
        conv => whnf
        refine ⟨rfl, ?_⟩
        conv => whnf
        refine ⟨⟨rfl, rfl, by rw [rqsC_size]; omega, fun _ => by rw [rqsC_size]; have := o.ok.1; show 4 * o.l.length + (o.cap - o.l.length) * 4 = o.cap * 4; omega, by show (o.l.length + 2) * 4 ≤ _; omega⟩, fun c2 (k2 : SliOk false (o.l.length + 2) c2) => ?_⟩
        conv => whnf
        refine ⟨[0, 1, 2, 3, 4, 5, 6, 7, 8, 14], [3, 6, 7, 9, 10, 11, 13, 14, 15, 16, 17, 18], [0, 1, 2, 3, 4, 5, 6, 7, 8, 9], fun vs2 => ?_⟩
        conv => whnf
        refine ⟨fun _ _ => rfl, fun _ _ => rfl, fun _ _ => rfl, fun _ _ => rfl, fun _ _ => rfl, fun _ _ => rfl, fun _ _ => rfl, fun _ _ => rfl, fun _ _ => rfl, pureL_append (rqsC_pure o.l) (fun _ _ => rfl), ?_⟩
        conv => whnf
        refine ⟨_, _, ?_, ?_, (⟨(3, o.push [⟨_, (qb_div (a := (RZ.at (⟨rx, ry, rz, rw, ⟨d0, d1, d2⟩⟩ : RZ) ⟨x1, y1, z1⟩).z) (c := rw * d2) (box_bits hrx hry hrz hrw hd0 hd1 hd2 hx1 hy1 hz1 hx2 hy2 hz2).az (box_bits hrx hry hrz hrw hd0 hd1 hd2 hx1 hy1 hz1 hx2 hy2 hz2).cz)⟩, ⟨_, (qb_div (a := (RZ.at (⟨rx, ry, rz, rw, ⟨d0, d1, d2⟩⟩ : RZ) ⟨x2, y2, z2⟩).z) (c := rw * d2) (box_bits hrx hry hrz hrw hd0 hd1 hd2 hx1 hy1 hz1 hx2 hy2 hz2).bz (box_bits hrx hry hrz hrw hd0 hd1 hd2 hx1 hy1 hz1 hx2 hy2 hz2).cz)⟩] (n := 2) rfl c2 k2), (by decide : 3 ≤ 3), (by show (o.l ++ _).map RQ.q = _; rw [List.map_append, ho]; show _ ++ [_, _] = cndK _ _ _ 3; rw [← hy.2]; rfl)⟩, vs2), (by decide : 3 - 3 < 3 - 2), rfl, rfl⟩
        · exact ⟨fun _ => rfl, fun _ => rfl, fun _ => rfl, fun _ => rfl, fun _ => rfl, fun _ => rfl, fun _ => rfl, fun _ => rfl, fun _ => rfl, fun _ => rfl, fun _ => rfl, fun _ => rfl, fun _ => rfl, fun _ => rfl, fun _ => rfl, fun _ => rfl, fun _ => rfl, fun ρ => OF.push_sl o _ (n := 2) rfl c2 k2 9 ρ, stm _⟩
        · exact ⟨⟨rfl, rfl, rfl, fun _ => rfl⟩, ⟨rfl, rfl, rfl, fun _ => rfl⟩, ⟨rfl, rfl, rfl, fun _ => rfl⟩, ⟨rfl, rfl, rfl, fun _ => rfl⟩, ⟨rfl, rfl, rfl, fun _ => rfl⟩, ⟨rfl, rfl, rfl, fun _ => rfl⟩, ⟨rfl, rfl, rfl, fun _ => rfl⟩, ⟨rfl, rfl, rfl, fun _ => rfl⟩, ⟨rfl, rfl, rfl, fun _ => rfl⟩, OF.push_blk o _ (n := 2) rfl c2 k2 (fun ρ => cells_app (w2_cells (frac_rat hy.1) ρ) (w2_cells (frac_rat hy.1) ρ)), trivial⟩
      · conv => whnf
        refine ⟨[0, 1, 2, 3, 4, 5, 6, 7, 8, 9], [3, 6, 7, 9, 10, 11, 13, 14, 15, 16, 17, 18], [0, 1, 2, 3, 4, 5, 6, 7, 8, 9], fun vs2 => ?_⟩
        conv => whnf
        refine ⟨fun _ _ => rfl, fun _ _ => rfl, fun _ _ => rfl, fun _ _ => rfl, fun _ _ => rfl, fun _ _ => rfl, fun _ _ => rfl, fun _ _ => rfl, fun _ _ => rfl, rqsC_pure o.l, ?_⟩
        conv => whnf
        refine ⟨_, _, ?_, ?_, (⟨(3, o), (by decide : 3 ≤ 3), (by rw [ho]; show _ = cndK _ _ _ 3; show _ = _ ++ cnd _ _ _ _; rw [cnd_no (Int.ne_of_gt hw) hd, List.append_nil]; rfl)⟩, vs2), (by decide : 3 - 3 < 3 - 2), rfl, rfl⟩
        · exact stm _
        · exact ⟨⟨rfl, rfl, rfl, fun _ => rfl⟩, ⟨rfl, rfl, rfl, fun _ => rfl⟩, ⟨rfl, rfl, rfl, fun _ => rfl⟩, ⟨rfl, rfl, rfl, fun _ => rfl⟩, ⟨rfl, rfl, rfl, fun _ => rfl⟩, ⟨rfl, rfl, rfl, fun _ => rfl⟩, ⟨rfl, rfl, rfl, fun _ => rfl⟩, ⟨rfl, rfl, rfl, fun _ => rfl⟩, ⟨rfl, rfl, rfl, fun _ => rfl⟩, ⟨rfl, rfl, rfl, fun _ => rfl⟩, trivial⟩
    · have ho : o.l.map RQ.q = cands (⟨rx, ry, rz, rw, ⟨d0, d1, d2⟩⟩ : RZ) ⟨x1, y1, z1⟩ ⟨x2, y2, z2⟩ := ho
      conv => whnf
      refine loop_st (G := {k : Nat // k ≤ o.l.length} × (Nat → Value)) (fun g => (.c (.val (g.2 0)) :: .c (.val (g.2 1)) :: .c (.val (g.2 2)) :: .c (.ptr 0 0) :: .c (.val (g.2 4)) :: .c (.val (g.2 5)) :: .c (.ptr 1 0) :: .c (.ptr 2 0) :: .c (.val (g.2 8)) :: .c (.ptr 3 0) :: .c (.ptr 4 0) :: .c (.val (.bool (rfold (inBx (⟨rx, ry, rz, rw, ⟨d0, d1, d2⟩⟩ : RZ) ⟨x1, y1, z1⟩ ⟨x2, y2, z2⟩) ((o.l.map RQ.q).take g.1.1) none).isSome)) :: .c (.val (g.2 12)) :: .c (.ptr 5 0) :: .c (.ptr 6 0) :: .c (.val (g.2 15)) :: .c (.val (g.2 16)) :: o.sl 7 :: .c (.val (g.2 18)) :: .c (.val (g.2 19)) :: .c (.val (g.2 20)) :: .c (.val (g.2 21)) :: .c (.val (g.2 22)) :: .c (.val (g.2 23)) :: .c (.int (g.1.1 : Nat) (lt_irF o.ok g.1.2)) :: .c (.val (g.2 25)) :: .c (.val (g.2 26)) :: .c (.val (g.2 27)) :: .c (.val (g.2 28)) :: .c (.val (g.2 29)) :: .c (.val (g.2 30)) :: .c (.val (g.2 31)) :: .c (.val (g.2 32)) :: .c (.val (g.2 33)) :: .c (.val (g.2 34)) :: .c (.val (g.2 35)) :: .c (.val (g.2 36)) :: .c (.val (g.2 37)) :: .c (.val (g.2 38)) :: .c (.val (g.2 39)) :: .c (.val (g.2 40)) :: .c (.val (g.2 41)) :: .c (.val (g.2 42)) :: .c (.val (g.2 43)) :: .c (.val (g.2 44)) :: .c (.val (g.2 45)) :: .c (.val (g.2 46)) :: .c (.val (g.2 47)) :: .c (.val (g.2 48)) :: .c (.val (g.2 49)) :: .c (.val (g.2 50)) :: .c (.val (g.2 51)) :: .c (.val (g.2 52)) :: .c (.val (g.2 53)) :: .c (.val (g.2 54)) :: .c (.val (g.2 55)) :: .c (.val (g.2 56)) :: .c (.val (g.2 57)) :: .c (.val (g.2 58)) :: .c (.val (g.2 59)) :: .c (.val (g.2 60)) :: .c (.val (g.2 61)) :: .c (.val (g.2 62)) :: .c (.val (g.2 63)) :: .c (.val (g.2 64)) :: .c (.val (g.2 65)) :: .c (.val (g.2 66)) :: .c (.val (g.2 67)) :: .c (.val (g.2 68)) :: .c (.val (g.2 69)) :: .c (.val (g.2 70)) :: .c (.val (g.2 71)) :: .c (.val (g.2 72)) :: .c (.val (g.2 73)) :: .c (.val (g.2 74)) :: .c (.val (g.2 75)) :: .c (.val (g.2 76)) :: .c (.val (g.2 77)) :: .c (.val (g.2 78)) :: .c (.val (g.2 79)) :: .c (.val (g.2 80)) :: .c (.val (g.2 81)) :: .c (.val (g.2 82)) :: .c (.val (g.2 83)) :: .c (.val (g.2 84)) :: .c (.val (g.2 85)) :: .c (.val (g.2 86)) :: .c (.val (g.2 87)) :: .c (.val (g.2 88)) :: .c (.val (g.2 89)) :: .c (.val (g.2 90)) :: .c (.val (g.2 91)) :: .c (.val (g.2 92)) :: .c (.val (g.2 93)) :: .c (.val (g.2 94)) :: .c (.val (g.2 95)) :: .c (.val (g.2 96)) :: .c (.val (g.2 97)) :: .c (.val (g.2 98)) :: .c (.val (g.2 99)) :: .c (.val (g.2 100)) :: .c (.val (g.2 101)) :: .c (.val (g.2 102)) :: .c (.val (g.2 103)) :: .c (.val (g.2 104)) :: .c (.val (g.2 105)) :: .c (.val (g.2 106)) :: .c (.val (g.2 107)) :: .c (.val (g.2 108)) :: .c (.val (g.2 109)) :: .c (.val (g.2 110)) :: .c (.val (g.2 111)) :: .c (.val (g.2 112)) :: .c (.val (g.2 113)) :: .c (.val (g.2 114)) :: .c (.val (g.2 115)) :: .c (.val (g.2 116)) :: .c (.val (g.2 117)) :: .c (.val (g.2 118)) :: .c (.val (g.2 119)) :: .c (.val (g.2 120)) :: .c (.val (g.2 121)) :: .c (.val (g.2 122)) :: .c (.val (g.2 123)) :: .c (.val (g.2 124)) :: .c (.val (g.2 125)) :: .c (.val (g.2 126)) :: .c (.val (g.2 127)) :: .c (.val (g.2 128)) :: .c (.val (g.2 129)) :: .c (.val (g.2 130)) :: .c (.val (g.2 131)) :: .c (.val (g.2 132)) :: .c (.val (g.2 133)) :: .c (.val (g.2 134)) :: .c (.val (g.2 135)) :: .c (.val (g.2 136)) :: .c (.val (g.2 137)) :: .c (.val (g.2 138)) :: .c (.val (g.2 139)) :: .c (.val (g.2 140)) :: .c (.val (g.2 141)) :: .c (.val (g.2 142)) :: .c (.val (g.2 143)) :: .c (.val (g.2 144)) :: .c (.val (g.2 145)) :: .c (.val (g.2 146)) :: .c (.val (g.2 147)) :: .c (.val (g.2 148)) :: .c (.val (g.2 149)) :: .c (.val (g.2 150)) :: .c (.val (g.2 151)) :: .c (.val (g.2 152)) :: .c (.val (g.2 153)) :: .c (.val (g.2 154)) :: .c (.val (g.2 155)) :: .c (.val (g.2 156)) :: .c (.val (g.2 157)) :: .c (.val (g.2 158)) :: .c (.val (g.2 159)) :: [])) (fun g => [⟨24, false, [.int rx hrx, .int ry hry, .int rz hrz, .int rw hrw, .int d0 hd0, .int d1 hd1, .int d2 hd2], 0⟩, ⟨37, false, [zw, zw], 0⟩, ⟨37, false, [zw, zw], 0⟩, ⟨37, false, [.wid 300 (iN (rfold (inBx (⟨rx, ry, rz, rw, ⟨d0, d1, d2⟩⟩ : RZ) ⟨x1, y1, z1⟩ ⟨x2, y2, z2⟩) ((o.l.map RQ.q).take g.1.1) none)).num (stQB (inBx (⟨rx, ry, rz, rw, ⟨d0, d1, d2⟩⟩ : RZ) ⟨x1, y1, z1⟩ ⟨x2, y2, z2⟩) o.l g.1.1).1.1, .wid 300 ((iN (rfold (inBx (⟨rx, ry, rz, rw, ⟨d0, d1, d2⟩⟩ : RZ) ⟨x1, y1, z1⟩ ⟨x2, y2, z2⟩) ((o.l.map RQ.q).take g.1.1) none)).den : Int) (stQB (inBx (⟨rx, ry, rz, rw, ⟨d0, d1, d2⟩⟩ : RZ) ⟨x1, y1, z1⟩ ⟨x2, y2, z2⟩) o.l g.1.1).1.2], 0⟩, ⟨37, false, [.wid 300 (iO (rfold (inBx (⟨rx, ry, rz, rw, ⟨d0, d1, d2⟩⟩ : RZ) ⟨x1, y1, z1⟩ ⟨x2, y2, z2⟩) ((o.l.map RQ.q).take g.1.1) none)).num (stQB (inBx (⟨rx, ry, rz, rw, ⟨d0, d1, d2⟩⟩ : RZ) ⟨x1, y1, z1⟩ ⟨x2, y2, z2⟩) o.l g.1.1).2.1, .wid 300 ((iO (rfold (inBx (⟨rx, ry, rz, rw, ⟨d0, d1, d2⟩⟩ : RZ) ⟨x1, y1, z1⟩ ⟨x2, y2, z2⟩) ((o.l.map RQ.q).take g.1.1) none)).den : Int) (stQB (inBx (⟨rx, ry, rz, rw, ⟨d0, d1, d2⟩⟩ : RZ) ⟨x1, y1, z1⟩ ⟨x2, y2, z2⟩) o.l g.1.1).2.2], 0⟩, ⟨22, false, [.int x1 hx1, .int y1 hy1, .int z1 hz1], 0⟩, ⟨22, false, [.int x2 hx2, .int y2 hy2, .int z2 hz2], 0⟩, o.blk]) (fun g => o.l.length - g.1.1) ?_ ?_
      · refine ⟨[0, 1, 2, 3, 4, 5, 6, 9], [3, 6, 7, 9, 10, 11, 13, 14, 17, 24], [0, 1, 2, 3, 4, 5, 6, 7], fun vs => ?_⟩
        conv => whnf
        refine ⟨fun _ _ => rfl, fun _ _ => rfl, fun _ _ => rfl, fun _ _ => rfl, fun _ _ => rfl, fun _ _ => rfl, fun _ _ => rfl, rqsC_pure o.l, ?_⟩
        conv => whnf
        refine ⟨_, _, ?_, ?_, (⟨0, Nat.zero_le _⟩, vs), rfl, rfl⟩
        · exact stm _
        · exact ⟨⟨rfl, rfl, rfl, fun _ => rfl⟩, ⟨rfl, rfl, rfl, fun _ => rfl⟩, ⟨rfl, rfl, rfl, fun _ => rfl⟩, ⟨rfl, rfl, rfl, fun _ => rfl⟩, ⟨rfl, rfl, rfl, fun _ => rfl⟩, ⟨rfl, rfl, rfl, fun _ => rfl⟩, ⟨rfl, rfl, rfl, fun _ => rfl⟩, ⟨rfl, rfl, rfl, fun _ => rfl⟩, trivial⟩
      · rintro ⟨⟨i, hi⟩, vs⟩
        conv => whnf
        refine bcase_intro (fun hlt => ?_) (fun hge => ?_)
        · have hlt : i < o.l.length := n_lt hlt
          conv => whnf
          conv =>
            arg 2
            tactic' =>
              apply eff_index_sli (ho := ?how1) (hT := ?hTw1) (hx := ?hxw1) (hk := ?hkw1) (hlt := ?hltw1)
              case how1 => rfl
              case hTw1 => rfl
              case hxw1 => rfl
              case hkw1 => rfl
              case hltw1 => exact hlt
          conv => whnf
          conv =>
            arg 2
            tactic' =>
              apply eff_load_sub (ho := ?how2) (hT := ?hTw2) (hx := ?hxw2) (hb := ?hbw2) (hm := ?hmw2) (hv := ?hvw2)
              case how2 => rfl
              case hTw2 => rfl
              case hxw2 => rfl
              case hbw2 => rfl
              case hmw2 => exact subC_rqs o.l hlt
              case hvw2 => rfl
          conv => whnf
          refine bcase_intro (fun h1 => ?_) (fun h1 => ?_)
          · conv => whnf
            refine ⟨[0, 1, 2, 3, 4, 5, 6, 7], [3, 6, 7, 9, 10, 11, 13, 14, 17, 24], [0, 1, 2, 3, 4, 5, 6, 7], fun vs2 => ?_⟩
            conv => whnf
            refine ⟨fun _ _ => rfl, fun _ _ => rfl, fun _ _ => rfl, fun _ _ => rfl, fun _ _ => rfl, fun _ _ => rfl, fun _ _ => rfl, rqsC_pure o.l, ?_⟩
            conv => whnf
            refine ⟨_, _, ?_, ?_, (⟨i + 1, hlt⟩, vs2), (by omega : o.l.length - (i + 1) < o.l.length - i), rfl, rfl⟩
            · exact ⟨fun _ => rfl, fun _ => rfl, fun _ => rfl, fun _ => rfl, fun _ => rfl, fun _ => rfl, fun _ => rfl, fun _ => rfl, fun _ => rfl, fun _ => rfl, fun _ => rfl, fun ρ => sbool_e (congrArg _ (st_neg hlt h1)) ρ, fun _ => rfl, fun _ => rfl, fun _ => rfl, fun _ => rfl, fun _ => rfl, fun _ => rfl, fun _ => rfl, fun _ => rfl, fun _ => rfl, fun _ => rfl, fun _ => rfl, fun _ => rfl, fun ρ => sint_e (wrap_add1 hlt (lt_irF o.ok (Nat.le_refl _))) ρ, stm _⟩
            · exact ⟨⟨rfl, rfl, rfl, fun _ => rfl⟩, ⟨rfl, rfl, rfl, fun _ => rfl⟩, ⟨rfl, rfl, rfl, fun _ => rfl⟩, ⟨rfl, rfl, rfl, fun ρ => qq_cells (congrArg iN (st_neg hlt h1)) ρ⟩, ⟨rfl, rfl, rfl, fun ρ => qq_cells (congrArg iO (st_neg hlt h1)) ρ⟩, ⟨rfl, rfl, rfl, fun _ => rfl⟩, ⟨rfl, rfl, rfl, fun _ => rfl⟩, ⟨rfl, rfl, rfl, fun _ => rfl⟩, trivial⟩
          · conv => whnf
            refine bcase_intro (fun h2 => ?_) (fun h2 => ?_)
            · have h2 : (!wiB rw rx d0 x1 x2 (o.l[i].q)) = true := by rw [← ratOf_q (o.l[i].q)]; exact h2
              have hP : inBx (⟨rx, ry, rz, rw, ⟨d0, d1, d2⟩⟩ : RZ) ⟨x1, y1, z1⟩ ⟨x2, y2, z2⟩ (o.l[i].q) = false := inb_1 (r := (⟨rx, ry, rz, rw, ⟨d0, d1, d2⟩⟩ : RZ)) (lo := ⟨x1, y1, z1⟩) (hi := ⟨x2, y2, z2⟩) h2
              conv => whnf
              refine ⟨[0, 1, 2, 3, 4, 5, 6, 7], [3, 6, 7, 9, 10, 11, 13, 14, 17, 24], [0, 1, 2, 3, 4, 5, 6, 7], fun vs2 => ?_⟩
              conv => whnf
              refine ⟨fun _ _ => rfl, fun _ _ => rfl, fun _ _ => rfl, fun _ _ => rfl, fun _ _ => rfl, fun _ _ => rfl, fun _ _ => rfl, rqsC_pure o.l, ?_⟩
              conv => whnf
              refine ⟨_, _, ?_, ?_, (⟨i + 1, hlt⟩, vs2), (by omega : o.l.length - (i + 1) < o.l.length - i), rfl, rfl⟩
              · exact ⟨fun _ => rfl, fun _ => rfl, fun _ => rfl, fun _ => rfl, fun _ => rfl, fun _ => rfl, fun _ => rfl, fun _ => rfl, fun _ => rfl, fun _ => rfl, fun _ => rfl, fun ρ => sbool_e (congrArg _ (st_out hlt hP)) ρ, fun _ => rfl, fun _ => rfl, fun _ => rfl, fun _ => rfl, fun _ => rfl, fun _ => rfl, fun _ => rfl, fun _ => rfl, fun _ => rfl, fun _ => rfl, fun _ => rfl, fun _ => rfl, fun ρ => sint_e (wrap_add1 hlt (lt_irF o.ok (Nat.le_refl _))) ρ, stm _⟩
              · exact ⟨⟨rfl, rfl, rfl, fun _ => rfl⟩, ⟨rfl, rfl, rfl, fun _ => rfl⟩, ⟨rfl, rfl, rfl, fun _ => rfl⟩, ⟨rfl, rfl, rfl, fun ρ => qq_cells (congrArg iN (st_out hlt hP)) ρ⟩, ⟨rfl, rfl, rfl, fun ρ => qq_cells (congrArg iO (st_out hlt hP)) ρ⟩, ⟨rfl, rfl, rfl, fun _ => rfl⟩, ⟨rfl, rfl, rfl, fun _ => rfl⟩, ⟨rfl, rfl, rfl, fun _ => rfl⟩, trivial⟩
            · have h2 : (!wiB rw rx d0 x1 x2 (o.l[i].q)) = false := by rw [← ratOf_q (o.l[i].q)]; exact h2
              conv => whnf
              refine bcase_intro (fun h3 => ?_) (fun h3 => ?_)
              · have h3 : (!wiB rw ry d1 y1 y2 (o.l[i].q)) = true := by rw [← ratOf_q (o.l[i].q)]; exact h3
                have hP : inBx (⟨rx, ry, rz, rw, ⟨d0, d1, d2⟩⟩ : RZ) ⟨x1, y1, z1⟩ ⟨x2, y2, z2⟩ (o.l[i].q) = false := inb_2 (r := (⟨rx, ry, rz, rw, ⟨d0, d1, d2⟩⟩ : RZ)) (lo := ⟨x1, y1, z1⟩) (hi := ⟨x2, y2, z2⟩) h3
                conv => whnf
                refine ⟨[0, 1, 2, 3, 4, 5, 6, 7], [3, 6, 7, 9, 10, 11, 13, 14, 17, 24], [0, 1, 2, 3, 4, 5, 6, 7], fun vs2 => ?_⟩
                conv => whnf
                refine ⟨fun _ _ => rfl, fun _ _ => rfl, fun _ _ => rfl, fun _ _ => rfl, fun _ _ => rfl, fun _ _ => rfl, fun _ _ => rfl, rqsC_pure o.l, ?_⟩
                conv => whnf
                refine ⟨_, _, ?_, ?_, (⟨i + 1, hlt⟩, vs2), (by omega : o.l.length - (i + 1) < o.l.length - i), rfl, rfl⟩
                · exact ⟨fun _ => rfl, fun _ => rfl, fun _ => rfl, fun _ => rfl, fun _ => rfl, fun _ => rfl, fun _ => rfl, fun _ => rfl, fun _ => rfl, fun _ => rfl, fun _ => rfl, fun ρ => sbool_e (congrArg _ (st_out hlt hP)) ρ, fun _ => rfl, fun _ => rfl, fun _ => rfl, fun _ => rfl, fun _ => rfl, fun _ => rfl, fun _ => rfl, fun _ => rfl, fun _ => rfl, fun _ => rfl, fun _ => rfl, fun _ => rfl, fun ρ => sint_e (wrap_add1 hlt (lt_irF o.ok (Nat.le_refl _))) ρ, stm _⟩
                · exact ⟨⟨rfl, rfl, rfl, fun _ => rfl⟩, ⟨rfl, rfl, rfl, fun _ => rfl⟩, ⟨rfl, rfl, rfl, fun _ => rfl⟩, ⟨rfl, rfl, rfl, fun ρ => qq_cells (congrArg iN (st_out hlt hP)) ρ⟩, ⟨rfl, rfl, rfl, fun ρ => qq_cells (congrArg iO (st_out hlt hP)) ρ⟩, ⟨rfl, rfl, rfl, fun _ => rfl⟩, ⟨rfl, rfl, rfl, fun _ => rfl⟩, ⟨rfl, rfl, rfl, fun _ => rfl⟩, trivial⟩
              · have h3 : (!wiB rw ry d1 y1 y2 (o.l[i].q)) = false := by rw [← ratOf_q (o.l[i].q)]; exact h3
                conv => whnf
                refine bcase_intro (fun h4 => ?_) (fun h4 => ?_)
                · have h4 : (!wiB rw rz d2 z1 z2 (o.l[i].q)) = true := by rw [← ratOf_q (o.l[i].q)]; exact h4
                  have hP : inBx (⟨rx, ry, rz, rw, ⟨d0, d1, d2⟩⟩ : RZ) ⟨x1, y1, z1⟩ ⟨x2, y2, z2⟩ (o.l[i].q) = false := inb_3 (r := (⟨rx, ry, rz, rw, ⟨d0, d1, d2⟩⟩ : RZ)) (lo := ⟨x1, y1, z1⟩) (hi := ⟨x2, y2, z2⟩) h4
                  conv => whnf
                  refine ⟨[0, 1, 2, 3, 4, 5, 6, 7], [3, 6, 7, 9, 10, 11, 13, 14, 17, 24], [0, 1, 2, 3, 4, 5, 6, 7], fun vs2 => ?_⟩
                  conv => whnf
                  refine ⟨fun _ _ => rfl, fun _ _ => rfl, fun _ _ => rfl, fun _ _ => rfl, fun _ _ => rfl, fun _ _ => rfl, fun _ _ => rfl, rqsC_pure o.l, ?_⟩
                  conv => whnf
                  refine ⟨_, _, ?_, ?_, (⟨i + 1, hlt⟩, vs2), (by omega : o.l.length - (i + 1) < o.l.length - i), rfl, rfl⟩
                  · exact ⟨fun _ => rfl, fun _ => rfl, fun _ => rfl, fun _ => rfl, fun _ => rfl, fun _ => rfl, fun _ => rfl, fun _ => rfl, fun _ => rfl, fun _ => rfl, fun _ => rfl, fun ρ => sbool_e (congrArg _ (st_out hlt hP)) ρ, fun _ => rfl, fun _ => rfl, fun _ => rfl, fun _ => rfl, fun _ => rfl, fun _ => rfl, fun _ => rfl, fun _ => rfl, fun _ => rfl, fun _ => rfl, fun _ => rfl, fun _ => rfl, fun ρ => sint_e (wrap_add1 hlt (lt_irF o.ok (Nat.le_refl _))) ρ, stm _⟩
                  · exact ⟨⟨rfl, rfl, rfl, fun _ => rfl⟩, ⟨rfl, rfl, rfl, fun _ => rfl⟩, ⟨rfl, rfl, rfl, fun _ => rfl⟩, ⟨rfl, rfl, rfl, fun ρ => qq_cells (congrArg iN (st_out hlt hP)) ρ⟩, ⟨rfl, rfl, rfl, fun ρ => qq_cells (congrArg iO (st_out hlt hP)) ρ⟩, ⟨rfl, rfl, rfl, fun _ => rfl⟩, ⟨rfl, rfl, rfl, fun _ => rfl⟩, ⟨rfl, rfl, rfl, fun _ => rfl⟩, trivial⟩
                · have h4 : (!wiB rw rz d2 z1 z2 (o.l[i].q)) = false := by rw [← ratOf_q (o.l[i].q)]; exact h4
                  have hP : inBx (⟨rx, ry, rz, rw, ⟨d0, d1, d2⟩⟩ : RZ) ⟨x1, y1, z1⟩ ⟨x2, y2, z2⟩ (o.l[i].q) = true := inb_t (r := (⟨rx, ry, rz, rw, ⟨d0, d1, d2⟩⟩ : RZ)) (lo := ⟨x1, y1, z1⟩) (hi := ⟨x2, y2, z2⟩) h2 h3 h4
                  conv => whnf
                  refine bcase_intro (fun h8 => ?_) (fun h8 => ?_)
                  · conv => whnf
                    have hs := st_first h8 (st_in hlt h1 hP)
                    refine bcase_intro (fun h8b => ?_) (fun h8b => ?_)
                    · conv => whnf
                      refine ⟨[0, 1, 2, 3, 4, 5, 6, 7], [3, 6, 7, 9, 10, 11, 13, 14, 17, 24], [0, 1, 2, 3, 4, 5, 6, 7], fun vs2 => ?_⟩
                      conv => whnf
                      refine ⟨fun _ _ => rfl, fun _ _ => rfl, fun _ _ => rfl, fun _ _ => rfl, fun _ _ => rfl, fun _ _ => rfl, fun _ _ => rfl, rqsC_pure o.l, ?_⟩
                      conv => whnf
                      refine ⟨_, _, ?_, ?_, (⟨i + 1, hlt⟩, vs2), (by omega : o.l.length - (i + 1) < o.l.length - i), rfl, rfl⟩
                      · exact ⟨fun _ => rfl, fun _ => rfl, fun _ => rfl, fun _ => rfl, fun _ => rfl, fun _ => rfl, fun _ => rfl, fun _ => rfl, fun _ => rfl, fun _ => rfl, fun _ => rfl, fun ρ => sbool_e (st_some (st_in hlt h1 hP)) ρ, fun _ => rfl, fun _ => rfl, fun _ => rfl, fun _ => rfl, fun _ => rfl, fun _ => rfl, fun _ => rfl, fun _ => rfl, fun _ => rfl, fun _ => rfl, fun _ => rfl, fun _ => rfl, fun ρ => sint_e (wrap_add1 hlt (lt_irF o.ok (Nat.le_refl _))) ρ, stm _⟩
                      · exact ⟨⟨rfl, rfl, rfl, fun _ => rfl⟩, ⟨rfl, rfl, rfl, fun _ => rfl⟩, ⟨rfl, rfl, rfl, fun _ => rfl⟩, ⟨rfl, rfl, rfl, fun ρ => q_cells hs.1 ρ⟩, ⟨rfl, rfl, rfl, fun ρ => q_cells hs.2 ρ⟩, ⟨rfl, rfl, rfl, fun _ => rfl⟩, ⟨rfl, rfl, rfl, fun _ => rfl⟩, ⟨rfl, rfl, rfl, fun _ => rfl⟩, trivial⟩
                    · exact Bool.noConfusion (h8b.symm.trans h8)
                  · conv => whnf
                    refine bcase_intro (fun h9 => ?_) (fun h9 => ?_)
                    · conv => whnf
                      refine bcase_intro (fun h8b => ?_) (fun h8b => ?_)
                      · exact Bool.noConfusion (h8.symm.trans h8b)
                      · conv => whnf
                        refine bcase_intro (fun h10 => ?_) (fun h10 => ?_)
                        · conv => whnf
                          refine ⟨[0, 1, 2, 3, 4, 5, 6, 7], [3, 6, 7, 9, 10, 11, 13, 14, 17, 24], [0, 1, 2, 3, 4, 5, 6, 7], fun vs2 => ?_⟩
                          conv => whnf
                          refine ⟨fun _ _ => rfl, fun _ _ => rfl, fun _ _ => rfl, fun _ _ => rfl, fun _ _ => rfl, fun _ _ => rfl, fun _ _ => rfl, rqsC_pure o.l, ?_⟩
                          conv => whnf
                          refine ⟨_, _, ?_, ?_, (⟨i + 1, hlt⟩, vs2), (by omega : o.l.length - (i + 1) < o.l.length - i), rfl, rfl⟩
                          · exact ⟨fun _ => rfl, fun _ => rfl, fun _ => rfl, fun _ => rfl, fun _ => rfl, fun _ => rfl, fun _ => rfl, fun _ => rfl, fun _ => rfl, fun _ => rfl, fun _ => rfl, fun ρ => sbool_e (st_some (st_in hlt h1 hP)) ρ, fun _ => rfl, fun _ => rfl, fun _ => rfl, fun _ => rfl, fun _ => rfl, fun _ => rfl, fun _ => rfl, fun _ => rfl, fun _ => rfl, fun _ => rfl, fun _ => rfl, fun _ => rfl, fun ρ => sint_e (wrap_add1 hlt (lt_irF o.ok (Nat.le_refl _))) ρ, stm _⟩
                          · exact ⟨⟨rfl, rfl, rfl, fun _ => rfl⟩, ⟨rfl, rfl, rfl, fun _ => rfl⟩, ⟨rfl, rfl, rfl, fun _ => rfl⟩, ⟨rfl, rfl, rfl, fun ρ => q_cells ((st_lo h8 (st_in hlt h1 hP)).1 h9) ρ⟩, ⟨rfl, rfl, rfl, fun ρ => q_cells ((st_hi h8 (st_in hlt h1 hP)).1 h10) ρ⟩, ⟨rfl, rfl, rfl, fun _ => rfl⟩, ⟨rfl, rfl, rfl, fun _ => rfl⟩, ⟨rfl, rfl, rfl, fun _ => rfl⟩, trivial⟩
                        · conv => whnf
                          refine ⟨[0, 1, 2, 3, 4, 5, 6, 7], [3, 6, 7, 9, 10, 11, 13, 14, 17, 24], [0, 1, 2, 3, 4, 5, 6, 7], fun vs2 => ?_⟩
                          conv => whnf
                          refine ⟨fun _ _ => rfl, fun _ _ => rfl, fun _ _ => rfl, fun _ _ => rfl, fun _ _ => rfl, fun _ _ => rfl, fun _ _ => rfl, rqsC_pure o.l, ?_⟩
                          conv => whnf
                          refine ⟨_, _, ?_, ?_, (⟨i + 1, hlt⟩, vs2), (by omega : o.l.length - (i + 1) < o.l.length - i), rfl, rfl⟩
                          · exact ⟨fun _ => rfl, fun _ => rfl, fun _ => rfl, fun _ => rfl, fun _ => rfl, fun _ => rfl, fun _ => rfl, fun _ => rfl, fun _ => rfl, fun _ => rfl, fun _ => rfl, fun ρ => sbool_e (st_some (st_in hlt h1 hP)) ρ, fun _ => rfl, fun _ => rfl, fun _ => rfl, fun _ => rfl, fun _ => rfl, fun _ => rfl, fun _ => rfl, fun _ => rfl, fun _ => rfl, fun _ => rfl, fun _ => rfl, fun _ => rfl, fun ρ => sint_e (wrap_add1 hlt (lt_irF o.ok (Nat.le_refl _))) ρ, stm _⟩
                          · exact ⟨⟨rfl, rfl, rfl, fun _ => rfl⟩, ⟨rfl, rfl, rfl, fun _ => rfl⟩, ⟨rfl, rfl, rfl, fun _ => rfl⟩, ⟨rfl, rfl, rfl, fun ρ => q_cells ((st_lo h8 (st_in hlt h1 hP)).1 h9) ρ⟩, ⟨rfl, rfl, rfl, fun ρ => qq_cells ((st_hi h8 (st_in hlt h1 hP)).2 h10) ρ⟩, ⟨rfl, rfl, rfl, fun _ => rfl⟩, ⟨rfl, rfl, rfl, fun _ => rfl⟩, ⟨rfl, rfl, rfl, fun _ => rfl⟩, trivial⟩
                    · conv => whnf
                      refine bcase_intro (fun h8b => ?_) (fun h8b => ?_)
                      · exact Bool.noConfusion (h8.symm.trans h8b)
                      · conv => whnf
                        refine bcase_intro (fun h10 => ?_) (fun h10 => ?_)
                        · conv => whnf
                          refine ⟨[0, 1, 2, 3, 4, 5, 6, 7], [3, 6, 7, 9, 10, 11, 13, 14, 17, 24], [0, 1, 2, 3, 4, 5, 6, 7], fun vs2 => ?_⟩
                          conv => whnf
                          refine ⟨fun _ _ => rfl, fun _ _ => rfl, fun _ _ => rfl, fun _ _ => rfl, fun _ _ => rfl, fun _ _ => rfl, fun _ _ => rfl, rqsC_pure o.l, ?_⟩
                          conv => whnf
                          refine ⟨_, _, ?_, ?_, (⟨i + 1, hlt⟩, vs2), (by omega : o.l.length - (i + 1) < o.l.length - i), rfl, rfl⟩
                          · exact ⟨fun _ => rfl, fun _ => rfl, fun _ => rfl, fun _ => rfl, fun _ => rfl, fun _ => rfl, fun _ => rfl, fun _ => rfl, fun _ => rfl, fun _ => rfl, fun _ => rfl, fun ρ => sbool_e (st_some (st_in hlt h1 hP)) ρ, fun _ => rfl, fun _ => rfl, fun _ => rfl, fun _ => rfl, fun _ => rfl, fun _ => rfl, fun _ => rfl, fun _ => rfl, fun _ => rfl, fun _ => rfl, fun _ => rfl, fun _ => rfl, fun ρ => sint_e (wrap_add1 hlt (lt_irF o.ok (Nat.le_refl _))) ρ, stm _⟩
                          · exact ⟨⟨rfl, rfl, rfl, fun _ => rfl⟩, ⟨rfl, rfl, rfl, fun _ => rfl⟩, ⟨rfl, rfl, rfl, fun _ => rfl⟩, ⟨rfl, rfl, rfl, fun ρ => qq_cells ((st_lo h8 (st_in hlt h1 hP)).2 h9) ρ⟩, ⟨rfl, rfl, rfl, fun ρ => q_cells ((st_hi h8 (st_in hlt h1 hP)).1 h10) ρ⟩, ⟨rfl, rfl, rfl, fun _ => rfl⟩, ⟨rfl, rfl, rfl, fun _ => rfl⟩, ⟨rfl, rfl, rfl, fun _ => rfl⟩, trivial⟩
                        · conv => whnf
                          refine ⟨[0, 1, 2, 3, 4, 5, 6, 7], [3, 6, 7, 9, 10, 11, 13, 14, 17, 24], [0, 1, 2, 3, 4, 5, 6, 7], fun vs2 => ?_⟩
                          conv => whnf
                          refine ⟨fun _ _ => rfl, fun _ _ => rfl, fun _ _ => rfl, fun _ _ => rfl, fun _ _ => rfl, fun _ _ => rfl, fun _ _ => rfl, rqsC_pure o.l, ?_⟩
                          conv => whnf
                          refine ⟨_, _, ?_, ?_, (⟨i + 1, hlt⟩, vs2), (by omega : o.l.length - (i + 1) < o.l.length - i), rfl, rfl⟩
                          · exact ⟨fun _ => rfl, fun _ => rfl, fun _ => rfl, fun _ => rfl, fun _ => rfl, fun _ => rfl, fun _ => rfl, fun _ => rfl, fun _ => rfl, fun _ => rfl, fun _ => rfl, fun ρ => sbool_e (st_some (st_in hlt h1 hP)) ρ, fun _ => rfl, fun _ => rfl, fun _ => rfl, fun _ => rfl, fun _ => rfl, fun _ => rfl, fun _ => rfl, fun _ => rfl, fun _ => rfl, fun _ => rfl, fun _ => rfl, fun _ => rfl, fun ρ => sint_e (wrap_add1 hlt (lt_irF o.ok (Nat.le_refl _))) ρ, stm _⟩
                          · exact ⟨⟨rfl, rfl, rfl, fun _ => rfl⟩, ⟨rfl, rfl, rfl, fun _ => rfl⟩, ⟨rfl, rfl, rfl, fun _ => rfl⟩, ⟨rfl, rfl, rfl, fun ρ => qq_cells ((st_lo h8 (st_in hlt h1 hP)).2 h9) ρ⟩, ⟨rfl, rfl, rfl, fun ρ => qq_cells ((st_hi h8 (st_in hlt h1 hP)).2 h10) ρ⟩, ⟨rfl, rfl, rfl, fun _ => rfl⟩, ⟨rfl, rfl, rfl, fun _ => rfl⟩, ⟨rfl, rfl, rfl, fun _ => rfl⟩, trivial⟩
        · have hi : i = o.l.length := Nat.le_antisymm hi (n_ge hge)
          subst hi
          have hfin : (rfold (inBx (⟨rx, ry, rz, rw, ⟨d0, d1, d2⟩⟩ : RZ) ⟨x1, y1, z1⟩ ⟨x2, y2, z2⟩) ((o.l.map RQ.q).take o.l.length) none) = boxR (⟨rx, ry, rz, rw, ⟨d0, d1, d2⟩⟩ : RZ) ⟨x1, y1, z1⟩ ⟨x2, y2, z2⟩ := by
            rw [List.take_of_length_le (by rw [List.length_map]; exact Nat.le_refl _), ho]; exact box_ref hperm _ _
          conv => whnf
          refine ⟨?_, ?_, ?_, trivial⟩
          · conv => whnf
            refine ⟨?_, ?_, ?_, trivial⟩
            · conv => whnf
              refine ⟨?_, ?_, trivial⟩
              · conv => whnf
                refine ⟨?_, trivial⟩
                · conv => whnf
                  refine ⟨?_, trivial⟩
                  · conv => whnf
                    refine ⟨?_, trivial⟩
                    · conv => whnf
                      conv => whnf
                      exact fun ρ => box_fin _ hfin _ _ _ _ ρ
              · conv => whnf
                refine ⟨?_, ?_, trivial⟩
                · conv => whnf
                  refine ⟨?_, trivial⟩
                  · conv => whnf
                    refine ⟨?_, trivial⟩
                    · conv => whnf
                      conv => whnf
                      exact fun ρ => box_fin _ hfin _ _ _ _ ρ
                · conv => whnf
                  refine ⟨?_, trivial⟩
                  · conv => whnf
                    refine ⟨?_, trivial⟩
                    · conv => whnf
                      conv => whnf
                      exact fun ρ => box_fin _ hfin _ _ _ _ ρ
            · conv => whnf
              refine ⟨?_, ?_, trivial⟩
              · conv => whnf
                refine ⟨?_, trivial⟩
                · conv => whnf
                  refine ⟨?_, trivial⟩
                  · conv => whnf
                    refine ⟨?_, trivial⟩
                    · conv => whnf
                      conv => whnf
                      exact fun ρ => box_fin _ hfin _ _ _ _ ρ
              · conv => whnf
                refine ⟨?_, trivial⟩
                · conv => whnf
                  refine ⟨?_, trivial⟩
                  · conv => whnf
                    refine ⟨?_, trivial⟩
                    · conv => whnf
                      conv => whnf
                      exact fun ρ => box_fin _ hfin _ _ _ _ ρ
            · conv => whnf
              refine ⟨?_, ?_, trivial⟩
              · conv => whnf
                refine ⟨?_, ?_, trivial⟩
                · conv => whnf
                  refine ⟨?_, trivial⟩
                  · conv => whnf
                    refine ⟨?_, trivial⟩
                    · conv => whnf
                      conv => whnf
                      exact fun ρ => box_fin _ hfin _ _ _ _ ρ
                · conv => whnf
                  refine ⟨?_, trivial⟩
                  · conv => whnf
                    refine ⟨?_, trivial⟩
                    · conv => whnf
                      conv => whnf
                      exact fun ρ => box_fin _ hfin _ _ _ _ ρ
              · conv => whnf
                refine ⟨?_, trivial⟩
                · conv => whnf
                  refine ⟨?_, trivial⟩
                  · conv => whnf
                    refine ⟨?_, trivial⟩
                    · conv => whnf
                      conv => whnf
                      exact fun ρ => box_fin _ hfin _ _ _ _ ρ
          · conv => whnf
            refine ⟨?_, ?_, trivial⟩
            · conv => whnf
              refine ⟨?_, ?_, trivial⟩
              · conv => whnf
                refine ⟨?_, trivial⟩
                · conv => whnf
                  refine ⟨?_, trivial⟩
                  · conv => whnf
                    refine ⟨?_, trivial⟩
                    · conv => whnf
                      conv => whnf
                      exact fun ρ => box_fin _ hfin _ _ _ _ ρ
              · conv => whnf
                refine ⟨?_, ?_, trivial⟩
                · conv => whnf
                  refine ⟨?_, trivial⟩
                  · conv => whnf
                    refine ⟨?_, trivial⟩
                    · conv => whnf
                      conv => whnf
                      exact fun ρ => box_fin _ hfin _ _ _ _ ρ
                · conv => whnf
                  refine ⟨?_, trivial⟩
                  · conv => whnf
                    refine ⟨?_, trivial⟩
                    · conv => whnf
                      conv => whnf
                      exact fun ρ => box_fin _ hfin _ _ _ _ ρ
            · conv => whnf
              refine ⟨?_, trivial⟩
              · conv => whnf
                refine ⟨?_, trivial⟩
                · conv => whnf
                  refine ⟨?_, trivial⟩
                  · conv => whnf
                    refine ⟨?_, trivial⟩
                    · conv => whnf
                      conv => whnf
                      exact fun ρ => box_fin _ hfin _ _ _ _ ρ
          · conv => whnf
            refine ⟨?_, ?_, trivial⟩
            · conv => whnf
              refine ⟨?_, ?_, trivial⟩
              · conv => whnf
                refine ⟨?_, trivial⟩
                · conv => whnf
                  refine ⟨?_, trivial⟩
                  · conv => whnf
                    refine ⟨?_, trivial⟩
                    · conv => whnf
                      conv => whnf
                      exact fun ρ => box_fin _ hfin _ _ _ _ ρ
              · conv => whnf
                refine ⟨?_, trivial⟩
                · conv => whnf
                  refine ⟨?_, trivial⟩
                  · conv => whnf
                    refine ⟨?_, trivial⟩
                    · conv => whnf
                      conv => whnf
                      exact fun ρ => box_fin _ hfin _ _ _ _ ρ
            · conv => whnf
              refine ⟨?_, trivial⟩
              · conv => whnf
                refine ⟨?_, trivial⟩
                · conv => whnf
                  refine ⟨?_, trivial⟩
                  · conv => whnf
                    refine ⟨?_, trivial⟩
                    · conv => whnf
                      conv => whnf
                      exact fun ρ => box_fin _ hfin _ _ _ _ ρ
theorem spBox22 : SpOk Tryz.prog 18 dBox := ⟨⟨_, Tryz.func18, by kernel_rfl, by kernel_rfl⟩, fun args p v hd => by
  unfold dBox at hd
  split at hd
  · rename_i rx hrx ry hry rz hrz rw hrw d0 hd0 d1 hd1 d2 hd2 x1 hx1 y1 hy1 z1 hz1 x2 hx2 y2 hy2 z2 hz2
    cases hd
    exact ⟨fun _ _ => rfl, fun _ ρ w => pure_okH (envN_ok baseR_ok .nil 0 fun i => i == 6 || i == 34) mixed (mix_ok .nil (envN_ok baseR_ok .nil 0 fun i => i == 6 || i == 34) mixed noF_ok 0) ⟨Tryz.func18, by kernel_rfl, by kernel_rfl⟩ (fun _ _ => rfl) (fun _ _ => rfl) (vcBox22 hrx hry hrz hrw hd0 hd1 hd2 hx1 hy1 hz1 hx2 hy2 hz2) ρ w⟩
  · cases hd⟩
end Go.Proofs.YtefgchmbdijjdaaGreatDoor
