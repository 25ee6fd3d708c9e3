/- Plain law of RayThrough: over a set of cubes, one corner moved, ray and opposite ray count an even number together. law 22: RayThrough, by the reckoner. -/
import Derived.Test.YtocbklodkcdhkaaGreatDoorRyc
import Derived.Test.YtocbklodkcdhkaaGreatDoorRyd
import Derived.Test.YtocbklodkcdhkaaGreatDoorKac
namespace Go.Proofs.YtocbklodkcdhkaaGreatDoor
open Go.RowKit
set_option maxRecDepth 100000

def crT (r : RZ) (a b c : V3) : Nat := bN (crossB r a b c)
theorem sumT_at (R : RI) : ∀ l : List TR, ∀ m : List TR, cntK R (m ++ l) (m.length + l.length) = cntK R (m ++ l) m.length + sumN (crT R.z3) l
 | [], m => rfl
 | t :: l, m => by
  have ih := sumT_at R l (m ++ [t])
  rw [List.append_assoc, List.length_append] at ih
  have e : m.length + (t :: l).length = m.length + [t].length + l.length := by simp only [List.length_cons, List.length_nil]; omega
  show cntK R (m ++ ([t] ++ l)) _ = cntK R (m ++ ([t] ++ l)) _ + (nT (crT R.z3) t + sumN (crT R.z3) l)
  rw [e, ih]
  have s := cntK_s R (m ++ ([t] ++ l)) m.length
  have c : cAt R (m ++ ([t] ++ l)) m.length = crB R t := by
   unfold cAt tAt
   rw [List.getElem?_append_right (Nat.le_refl _), Nat.sub_self]; rfl
  rw [c] at s
  have n : nT (crT R.z3) t = if crB R t = true then 1 else 0 := rfl
  show cntK R (m ++ ([t] ++ l)) (m.length + 1) + _ = _
  rw [s, n]; omega
theorem cnt_sumT (R : RI) (l : List TR) : cntK R l l.length = sumN (crT R.z3) l := by
 have := sumT_at R l []
 simp only [List.nil_append, List.length_nil, Nat.zero_add] at this
 rw [this]; exact Nat.zero_add _
theorem sumT_no {r : RZ} (h : permZ r = false) : ∀ l : List TR, sumN (crT r) l = 0
 | [] => rfl
 | t :: l => by
  show nT (crT r) t + sumN (crT r) l = 0
  rw [sumT_no h l]
  unfold nT crT
  rw [cross_noperm _ _ _ h]; rfl
def psT (r : RZ) (p q s : V3) : Nat := bN (passZ r.d (r.at p) (r.at q) (r.at s))
theorem sum_back {r : RZ} (h : permZ r = true) : ∀ l : List TR, sumN (crT r) l + sumN (crT (backR r)) l = sumN (psT r) l
 | [] => rfl
 | t :: l => by
  have ih := sum_back h l
  have b := back_crosses h t.a.v t.b.v t.c.v
  show nT (crT r) t + sumN (crT r) l + (nT (crT (backR r)) t + sumN (crT (backR r)) l) = nT (psT r) t + sumN (psT r) l
  have b : nT (crT r) t + nT (crT (backR r)) t = nT (psT r) t := b
  omega
def mvP (p q v : PT) : PT := if eqP v p = true then q else v
def mvZ (p q : PT) (v : V3) : V3 := if v3B v p.v = true then q.v else v
theorem mvP_v (p q v : PT) : (mvP p q v).v = mvZ p q v.v := by
 unfold mvP mvZ
 have e : v3B v.v p.v = eqP v p := rfl
 rw [e]
 cases eqP v p <;> rfl
def mvT (p q : PT) (t : TR) : Nat → TR
 | 0 => t
 | 1 => ⟨mvP p q t.a, t.b, t.c⟩
 | 2 => ⟨mvP p q t.a, mvP p q t.b, t.c⟩
 | _ => ⟨mvP p q t.a, mvP p q t.b, mvP p q t.c⟩
theorem sumT_mv (N : V3 → V3 → V3 → Nat) (p q : PT) : ∀ l : List TR, sumN N (l.map fun t => mvT p q t 3) = sumN (fun a b c => N (mvZ p q a) (mvZ p q b) (mvZ p q c)) l
 | [] => rfl
 | t :: l => by
  show nT N (mvT p q t 3) + sumN N (l.map _) = nT _ t + sumN _ l
  rw [sumT_mv N p q l]
  have e : nT N (mvT p q t 3) = nT (fun a b c => N (mvZ p q a) (mvZ p q b) (mvZ p q c)) t := by
   show N (mvP p q t.a).v (mvP p q t.b).v (mvP p q t.c).v = _
   rw [mvP_v, mvP_v, mvP_v]; rfl
  rw [e]
theorem perm_d {r : RZ} (h : permZ r = true) : r.d.isZ = false := by
 unfold permZ at h
 rw [Bool.and_eq_true] at h
 cases e : r.d.isZ with
 | false => rfl
 | true => rw [e] at h; exact absurd h.2 (by decide)
theorem thru_cnt {R R' : RI} (hb : R'.z3 = backR R.z3) {b : Int} {p q : PT} {l : List TR} (hl : l = (voxL b 2 pt0 27).map fun t => mvT p q t 3) : (cntK R l l.length + cntK R' l l.length) % 2 = 0 := by
 rw [cnt_sumT, cnt_sumT, hb]
 cases hp : permZ R.z3 with
 | false =>
  rw [sumT_no hp, sumT_no (by rw [perm_back]; exact hp)]
 | true =>
  rw [sum_back hp, hl, sumT_mv]
  exact thru_even (perm_d hp) (mvZ p q) b
theorem thru_val {R R' : RI} (hb : R'.z3 = backR R.z3) {b : Int} {p q : PT} {l : List TR} (hl : l = (voxL b 2 pt0 27).map fun t => mvT p q t 3) (hn : l.length ≤ 1000000) : decide ((IntKind.i64.wrap ((cntK R l l.length : Nat) + (cntK R' l l.length : Nat))).tmod 2 = 0) = true := by
 have h := thru_cnt hb hl
 have h1 := ir_cnt R l hn
 have h2 := ir_cnt R' l hn
 have k1 := cntK_le R l l.length
 have k2 := cntK_le R' l l.length
 rw [wrap_id (by unfold IR; omega)]
 refine decide_eq_true ?_
 rw [Int.tmod_eq_emod_of_nonneg (by omega)]; omega
theorem neg0_nD (n : Int) : IntKind.i64.wrap (0 - nD n) = -(nD n) := by
 have := nD_b n
 rw [wrap_id (by unfold IR; omega)]; omega
def mvL (p q : PT) (l : List TR) (k j : Nat) : List TR := (l.take k).map (fun t => mvT p q t 3) ++ ((l[k]?).toList.map (fun t => mvT p q t j) ++ l.drop (k + 1))
theorem mvL_0 (p q : PT) (l : List TR) : mvL p q l 0 0 = l := by
 cases l with
 | nil => rfl
 | cons t l => rfl
theorem mvL_end (p q : PT) (l : List TR) (j : Nat) : mvL p q l l.length j = l.map fun t => mvT p q t 3 := by
 unfold mvL
 rw [List.take_length, List.getElem?_eq_none (Nat.le_refl _), List.drop_eq_nil_of_le (Nat.le_succ _)]
 simp
theorem mvL_at (p q : PT) (l : List TR) {k : Nat} (hk : k < l.length) (j : Nat) : mvL p q l k j = (l.take k).map (fun t => mvT p q t 3) ++ (mvT p q l[k] j :: l.drop (k + 1)) := by
 unfold mvL
 rw [List.getElem?_eq_getElem hk]; rfl
theorem mvL_len (p q : PT) (l : List TR) {k : Nat} (hk : k ≤ l.length) (j : Nat) : (mvL p q l k j).length = l.length := by
 rcases Nat.lt_or_ge k l.length with h | h
 ·rw [mvL_at p q l h, List.length_append, List.length_map, List.length_take, List.length_cons, List.length_drop]; omega
 ·obtain rfl : k = l.length := by omega
  rw [mvL_end, List.length_map]
theorem mvT_0 (p q : PT) (t : TR) : mvT p q t 0 = t := rfl
theorem mvL_next (p q : PT) (l : List TR) {k : Nat} (hk : k < l.length) : mvL p q l k 3 = mvL p q l (k + 1) 0 := by
 rw [mvL_at p q l hk]
 have e : l.take (k + 1) = l.take k ++ [l[k]] := by rw [List.take_add_one, List.getElem?_eq_getElem hk]; rfl
 rcases Nat.lt_or_ge (k + 1) l.length with h | h
 ·rw [mvL_at p q l h, e, List.map_append, List.append_assoc, mvT_0, ← List.drop_eq_getElem_cons h]; rfl
 ·obtain h2 : k + 1 = l.length := by omega
  rw [h2, mvL_end, List.drop_eq_nil_of_le (by omega)]
  have e2 : l = l.take k ++ [l[k]] := by rw [← e, h2, List.take_length]
  conv => rhs; rw [e2]
  rw [List.map_append]; rfl
def cjT (t : TR) : Nat → PT
 | 0 => t.a
 | 1 => t.b
 | _ => t.c
theorem j3 {j : Nat} (h : j < 3) : j = 0 ∨ j = 1 ∨ j = 2 := by omega
theorem mvT_crn (p q : PT) (t : TR) {j : Nat} (h : j < 3) : cjT (mvT p q t j) j = cjT t j := by
 rcases j3 h with rfl | rfl | rfl <;> rfl
theorem subC_crn (t : TR) {j : Nat} (h : j < 3) : subC (trC t) (j * 3) 3 = some (ptC (cjT t j)) := by
 rcases j3 h with rfl | rfl | rfl <;> rfl
theorem ld_crn (p q : PT) (l : List TR) {k j : Nat} (hk : k < l.length) (h : j < 3) : subC (trsC (mvL p q l k j)) (0 + k * 9 + j * 3) 3 = some (ptC (cjT l[k] j)) := by
 have hk2 : k < (mvL p q l k j).length := by rw [mvL_len p q l (Nat.le_of_lt hk)]; exact hk
 have e : (mvL p q l k j)[k] = mvT p q l[k] j := by
  have : (mvL p q l k j)[k]? = some (mvT p q l[k] j) := by
   rw [mvL_at p q l hk, List.getElem?_append_right (by simp; omega)]
   simp [List.length_take, Nat.min_eq_left (Nat.le_of_lt hk)]
  rw [List.getElem?_eq_getElem hk2] at this
  exact Option.some.inj this
 refine subC_pt _ hk2 _ ?_
 rw [e, ← mvT_crn p q l[k] h]
 exact subC_crn _ h
theorem mv_skip (p q : PT) (l : List TR) {k j : Nat} (hk : k < l.length) (h : j < 3) (he : eqP (cjT l[k] j) p = false) : mvL p q l k (j + 1) = mvL p q l k j := by
 rw [mvL_at p q l hk, mvL_at p q l hk]
 congr 2
 generalize l[k] = t at he ⊢
 rcases j3 h with rfl | rfl | rfl <;> (simp only [cjT] at he; cases t; simp only [mvT]; congr 1; simp only [mvP]; rw [he]; rfl)
theorem mv_put (p q : PT) (l : List TR) {k j : Nat} (hk : k < l.length) (h : j < 3) (he : eqP (cjT l[k] j) p = true) : spliceC (trsC (mvL p q l k j)) (0 + k * 9 + j * 3) (ptC q) = some (trsC (mvL p q l k (j + 1))) := by
 rw [mvL_at p q l hk, mvL_at p q l hk]
 have hs : sizeC (trsC ((l.take k).map fun t => mvT p q t 3)) = k * 9 := by rw [trsC_size, List.length_map, List.length_take, Nat.min_eq_left (Nat.le_of_lt hk)]; omega
 rw [trsC_append, trsC_append]
 generalize trsC ((l.take k).map fun t => mvT p q t 3) = A at hs ⊢
 generalize hB : l.drop (k + 1) = B
 generalize l[k] = t at he ⊢
 show spliceC (A ++ (trC _ ++ trsC B)) _ _ = some (A ++ (trC _ ++ trsC B))
 rw [Nat.zero_add, ← hs]
 have mv : ∀ v, eqP v p = true → mvP p q v = q := fun v hv => by unfold mvP; rw [hv]; rfl
 rcases j3 h with rfl | rfl | rfl
 ·have e := spliceC_app A (ptC t.a) (ptC t.b ++ ptC t.c ++ trsC B) (ptC q) rfl
  show spliceC (A ++ (ptC t.a ++ (ptC t.b ++ ptC t.c ++ trsC B))) (sizeC A + 0) _ = some (A ++ (ptC (mvP p q t.a) ++ (ptC t.b ++ ptC t.c ++ trsC B)))
  rw [mv t.a he]; exact e
 ·have e := spliceC_app (A ++ ptC (mvP p q t.a)) (ptC t.b) (ptC t.c ++ trsC B) (ptC q) rfl
  have s : sizeC (A ++ ptC (mvP p q t.a)) = sizeC A + 3 := by rw [sizeC_append]; rfl
  rw [s, List.append_assoc, List.append_assoc] at e
  show spliceC (A ++ (ptC (mvP p q t.a) ++ (ptC t.b ++ (ptC t.c ++ trsC B)))) (sizeC A + 3) _ = some (A ++ (ptC (mvP p q t.a) ++ (ptC (mvP p q t.b) ++ (ptC t.c ++ trsC B))))
  rw [mv t.b he]; exact e
 ·have e := spliceC_app (A ++ (ptC (mvP p q t.a) ++ ptC (mvP p q t.b))) (ptC t.c) (trsC B) (ptC q) rfl
  have s : sizeC (A ++ (ptC (mvP p q t.a) ++ ptC (mvP p q t.b))) = sizeC A + 6 := by rw [sizeC_append]; rfl
  rw [s, List.append_assoc, List.append_assoc, List.append_assoc, List.append_assoc] at e
  show spliceC (A ++ (ptC (mvP p q t.a) ++ (ptC (mvP p q t.b) ++ (ptC t.c ++ trsC B)))) (sizeC A + 6) _ = some (A ++ (ptC (mvP p q t.a) ++ (ptC (mvP p q t.b) ++ (ptC (mvP p q t.c) ++ trsC B))))
  rw [mv t.c he]; exact e
end Go.Proofs.YtocbklodkcdhkaaGreatDoor

namespace Go.Proofs.YtocbklodkcdhkaaGreatDoor
open Go.RowKit
set_option maxRecDepth 100000

def baseTL : List (FuncId × Dn) := (8, dMod) :: baseLL
theorem baseTL_ok : AllOk baseTL := .cons spMod baseLL_ok
abbrev rdTh : List (FuncId × Dr) := [(10, dCnt)]
theorem rdTh_ok : AllR rdTh := .cons spCountY .nil
def thC : List (FuncId × NewC) := [(5, cShape), (6, cCorners), (7, cChk)]
theorem thC_ok : AllC Tryz.prog thC := .cons csShape <| .cons csCorners <| .cons csChk .nil
noncomputable abbrev ETh : Env := envN 0 baseTL rdTh fun _ => false
theorem dTh {n0 : Nat} {args : List SV} {hf : Nat → Option Blk} {nl : Bool} {b len cap : Nat} {h : SliOk nl len cap} {l : List TR} {R : RI} {ty : TypeId} {ro : Bool} {tl : Nat} (ha : args = [.agg (riC R), .c (.sli nl b 0 len cap h)]) (hb : hf b = some ⟨ty, ro, trsC l, tl⟩) (hl : l.length = len) (hn : l.length ≤ 1000000) :
  ({ T := ETh.T, un := ETh.un, D := ETh.D, O := ETh.O, n0 := n0, ord := ETh.ord } : Env).D 10 args hf = some (none, cntV R l hn) := by
 subst ha
 have e : dCnt [.agg (riC R), .c (.sli nl b 0 len cap h)] hf = some (none, cntV R l hn) := by
  unfold dCnt riC
  simp only [hb, toTrs_trs]
  rw [dif_pos ⟨hl, hn⟩]
 exact e
theorem int_sv {a b : Int} {ha : IR a} {hb : IR b} (e : a = b) : SV.c (.int a ha) = SV.c (.int b hb) := by subst e; rfl
theorem ir3j {j : Nat} (h : j ≤ 3) : IR j := by unfold IR; omega
def backI (r : RI) : RI := ⟨nC (nW r.w) r.x, nC (nW r.w) r.y, nC (nW r.w) r.z, nW r.w, IntKind.i64.wrap (0 - nD r.a), IntKind.i64.wrap (0 - nD r.b), IntKind.i64.wrap (0 - nD r.c), ir_nC _ _, ir_nC _ _, ir_nC _ _, ir_nW _, IR.wrap _, IR.wrap _, IR.wrap _⟩
theorem back_z3 (r : RI) : (backI r).z3 = backR (nearI r).z3 := by
 unfold RI.z3 backI backR
 simp only [neg0_nD]
 rfl
theorem thru_vox {o : OT} {b : Int} {P Q : PT} (ho : o.l = shpL b [] 0) : mvL P Q o.l o.l.length 0 = (voxL (IntKind.i64.wrap (IntKind.u32.wrap ((BitVec.ofInt IntKind.u32.bits b &&& BitVec.ofInt IntKind.u32.bits 134217727).toNat : Nat))) 2 pt0 27).map fun t => mvT P Q t 3 := by
 rw [mvL_end, ho]; rfl
structure I4 where
 a : Int
 b : Int
 c : Int
 d : Int
 ha : IR a
 hb : IR b
 hc : IR c
 hd : IR d
def i4C (x : I4) : List C := [.int x.a x.ha, .int x.b x.hb, .int x.c x.hc, .int x.d x.hd]
def cLawTh : NewC := fun args ros K => (∃ (r : RI) (b : Int) (d : I4), args = [.agg (riC r), .c (.val (.int .u32 b)), .agg (i4C d)] ∧ ros = []) ∧ K (.c (.val (.bool true))) []
set_option maxHeartbeats 16000000 in
theorem csLawTh : CSp Tryz.prog 3 cLawTh := csp_of (envN_ok baseTL_ok rdTh_ok 0 fun _ => false) mixed (hnew_ok thC_ok (inl_ok (envN_ok baseTL_ok rdTh_ok 20 fun _ => false) mixed noF_ok 0)) ⟨Tryz.func3, by kernel_rfl, by kernel_rfl⟩ fun args ros K hc => by
 obtain ⟨⟨r, b, d, rfl, rfl⟩, hc⟩ := hc
 refine ⟨fun ρ ρ' _ => rfl, ?_⟩
 conv => whnf
 refine ⟨trivial, .inr ⟨b, none, 0, rfl,rfl,fun o ho => ?_⟩⟩
 have hlen : o.l.length ≤ 300000 := by rw [ho]; exact Nat.le_trans (shpL_len b [] 0) (by decide)
 conv => whnf
 refine ⟨⟨pureL_trs o.l, trivial⟩, ⟨_, _, _, _, _, o.l, rfl,rfl,rfl, hlen, fun co hs hm hco => ?_⟩⟩
 conv => whnf
 refine ⟨⟨pureL_trs o.l, trivial⟩, ⟨_, _, _, _, _, o.l, rfl,rfl,rfl, hlen, fun eo he => ?_⟩⟩
 conv => whnf
 generalize decide (eo = 0) = z
 cases z
 ·conv => whnf
  refine ⟨[], [], fun vs9 => ?_⟩
  conv => whnf
  exact ⟨_, [], rfl, trivial, trivial, _, fun _=>rfl,hc⟩
 ·conv => whnf
  refine bcase_intro (fun hz => ?_) (fun hz => ?_)
  ·conv => whnf
   refine ⟨[], [], fun vs9 => ?_⟩
   conv => whnf
   exact ⟨_, [], rfl, trivial, trivial, _, fun _=>rfl,hc⟩
  ·have h0 : 0 < co.l.length := by have := of_decide_eq_false (show decide ((co.l.length : Int) = 0) = false from hz); omega
   have h9 : co.l.length ≤ 900000 := by omega
   obtain ⟨m, hmm, hml⟩ : ∃ m : Nat, d.d % (co.l.length : Int) = (m : Nat) ∧ m < co.l.length := ⟨(d.d % (co.l.length : Int)).toNat, (Int.toNat_of_nonneg (Int.emod_nonneg _ (by omega))).symm, by have := Int.emod_lt_of_pos d.d (show (0 : Int) < co.l.length by omega); have := Int.emod_nonneg d.d (show (co.l.length : Int) ≠ 0 by omega); omega⟩
   have hmi : IR (m : Nat) := by unfold IR; omega
   conv => whnf
   refine ⟨⟨Int.natCast_pos.2 h0, by omega⟩, ?_⟩
   conv => whnf
   conv =>
    arg 2
    tactic' =>
     apply eff_index_sli (k := m) (hi := hmi) (ho := ?how5) (hT := ?hTw5) (hx := ?hxw5) (hk := ?hkw5) (hlt := ?hltw5)
     case how5 => rfl
     case hTw5 => rfl
     case hxw5 => rfl
     case hkw5 => exact int_sv hmm
     case hltw5 => exact hml
   conv => whnf
   obtain ⟨P, hP⟩ : ∃ P, P = co.l[m] := ⟨_, rfl⟩
   conv =>
    arg 2
    tactic' =>
     apply eff_load_sub (ho := ?how6) (hT := ?hTw6) (hx := ?hxw6) (hb := ?hbw6) (hm := ?hmw6) (hv := ?hvw6)
     case how6 => rfl
     case hTw6 => rfl
     case hxw6 => rfl
     case hbw6 => rfl
     case hmw6 => exact (by rw [hP, Nat.zero_add]; exact subC_pts co.l hml : subC (ptsC co.l) (0 + m * 3) 3 = some (ptC P))
     case hvw6 => rfl
   conv => whnf
   refine ⟨⟨by decide, by decide⟩, ?_⟩
   conv => whnf
   refine ⟨⟨by decide, by decide⟩, ?_⟩
   conv => whnf
   refine ⟨⟨by decide, by decide⟩, ?_⟩
   conv => whnf
   obtain ⟨Q, hQ⟩ : ∃ Q : PT, Q = ⟨IntKind.i64.wrap (IntKind.i64.wrap (P.x + d.a % 5) - 2), IntKind.i64.wrap (IntKind.i64.wrap (P.y + d.b % 5) - 2), IntKind.i64.wrap (IntKind.i64.wrap (P.z + d.c % 5) - 2), IR.wrap _, IR.wrap _, IR.wrap _⟩ := ⟨_, rfl⟩
   refine loop_st (G := {k : Nat // k ≤ o.l.length} × (Nat → Value)) (fun g => (.c (.val (g.2 0)) :: .c (.val (g.2 1)) :: .c (.val (g.2 2)) :: .c (.ptr 0 0) :: .c (.val (g.2 4)) :: .c (.val (g.2 5)) :: .c (.val (g.2 6)) :: .c (.val (.bool true)) :: o.sl 1 :: .c (.val (g.2 9)) :: .c (.ptr 2 0) :: .c (.ptr 3 0) :: .c (.val (g.2 12)) :: .c (.val (g.2 13)) :: .c (.val (g.2 14)) :: .c (.val (g.2 15)) :: .c (.val (g.2 16)) :: .c (.val (g.2 17)) :: .c (.val (g.2 18)) :: .c (.val (g.2 19)) :: .c (.val (g.2 20)) :: .c (.val (g.2 21)) :: .c (.val (g.2 22)) :: .c (.val (g.2 23)) :: .c (.val (g.2 24)) :: .c (.val (g.2 25)) :: .c (.val (g.2 26)) :: .c (.val (g.2 27)) :: .c (.val (g.2 28)) :: .c (.val (g.2 29)) :: .c (.val (g.2 30)) :: .c (.val (g.2 31)) :: .c (.val (g.2 32)) :: .c (.val (g.2 33)) :: .c (.val (g.2 34)) :: .c (.val (g.2 35)) :: .c (.val (g.2 36)) :: .c (.val (g.2 37)) :: .c (.val (g.2 38)) :: .c (.val (g.2 39)) :: .c (.val (g.2 40)) :: .c (.val (g.2 41)) :: .c (.val (g.2 42)) :: .c (.val (g.2 43)) :: .c (.val (g.2 44)) :: .c (.val (g.2 45)) :: .c (.val (g.2 46)) :: .c (.val (g.2 47)) :: .c (.val (g.2 48)) :: .c (.val (g.2 49)) :: .c (.val (g.2 50)) :: .c (.val (g.2 51)) :: .c (.val (g.2 52)) :: .c (.val (g.2 53)) :: .c (.val (g.2 54)) :: .c (.val (g.2 55)) :: .c (.val (g.2 56)) :: .c (.val (g.2 57)) :: .c (.val (g.2 58)) :: .c (.val (g.2 59)) :: .c (.val (g.2 60)) :: .c (.int (o.l.length : Nat) (lt_ir o.ok (Nat.le_refl _))) :: .c (.int (g.1.1 : Nat) (lt_ir o.ok g.1.2)) :: .c (.val (g.2 63)) :: .c (.val (g.2 64)) :: .c (.val (g.2 65)) :: .c (.val (g.2 66)) :: .c (.val (g.2 67)) :: .c (.val (g.2 68)) :: .c (.val (g.2 69)) :: .c (.val (g.2 70)) :: .c (.val (g.2 71)) :: .c (.val (g.2 72)) :: .c (.val (g.2 73)) :: .c (.val (g.2 74)) :: .c (.val (g.2 75)) :: .c (.val (g.2 76)) :: .c (.val (g.2 77)) :: .c (.val (g.2 78)) :: .c (.val (g.2 79)) :: .c (.val (g.2 80)) :: .c (.val (g.2 81)) :: .c (.val (g.2 82)) :: .c (.val (g.2 83)) :: .c (.val (g.2 84)) :: .c (.val (g.2 85)) :: .c (.val (g.2 86)) :: .c (.val (g.2 87)) :: .c (.val (g.2 88)) :: .c (.val (g.2 89)) :: .c (.val (g.2 90)) :: .c (.val (g.2 91)) :: .c (.val (g.2 92)) :: .c (.val (g.2 93)) :: .c (.val (g.2 94)) :: .c (.val (g.2 95)) :: .c (.val (g.2 96)) :: .c (.val (g.2 97)) :: .c (.val (g.2 98)) :: .c (.val (g.2 99)) :: .c (.val (g.2 100)) :: .c (.val (g.2 101)) :: .c (.val (g.2 102)) :: .c (.val (g.2 103)) :: .c (.val (g.2 104)) :: .c (.val (g.2 105)) :: .c (.val (g.2 106)) :: .c (.val (g.2 107)) :: .c (.val (g.2 108)) :: .c (.val (g.2 109)) :: .c (.val (g.2 110)) :: [])) (fun g => [⟨24, false, riC r, 0⟩, ⟨38, o.nl, trsC (mvL P Q o.l g.1.1 0), (o.cap - o.l.length) * 9⟩, ⟨35, false, ptC P, 0⟩, ⟨35, false, ptC Q, 0⟩]) (fun g => o.l.length - g.1.1) ?_ ?_
   ·refine ⟨[0,2,4,5], [3,7,8,10,11,61,62], [1], fun vs => ?_⟩
    conv => whnf
    refine ⟨pureL_trs o.l, ?_⟩
    conv => whnf
    refine ⟨_, _, ?_, ?_, (⟨0, Nat.zero_le _⟩, vs), rfl, rfl⟩
    ·exact ⟨fun _=>rfl,fun _=>rfl,fun _=>rfl,fun _=>rfl,fun _=>rfl,fun _=>rfl,fun _=>rfl,fun _=>rfl,fun _=>rfl,fun _=>rfl,fun _=>rfl,fun _=>rfl,fun _=>rfl,fun _=>rfl,fun _=>rfl,fun _=>rfl,fun _=>rfl,fun _=>rfl,fun _=>rfl,fun _=>rfl,fun _=>rfl,fun _=>rfl,fun _=>rfl,fun _=>rfl,fun _=>rfl,fun _=>rfl,fun _=>rfl,fun _=>rfl,fun _=>rfl,fun _=>rfl,fun _=>rfl,fun _=>rfl,fun _=>rfl,fun _=>rfl,fun _=>rfl,fun _=>rfl,fun _=>rfl,fun _=>rfl,fun _=>rfl,fun _=>rfl,fun _=>rfl,fun _=>rfl,fun _=>rfl,fun _=>rfl,fun _=>rfl,fun _=>rfl,fun _=>rfl,fun _=>rfl,fun _=>rfl,fun _=>rfl,fun _=>rfl,fun _=>rfl,fun _=>rfl,fun _=>rfl,fun _=>rfl,fun _=>rfl,fun _=>rfl,fun _=>rfl,fun _=>rfl,fun _=>rfl,fun _=>rfl,fun _=>rfl,fun _=>rfl,stm _⟩
    ·exact ⟨⟨rfl,rfl,rfl, fun _=>rfl⟩, ⟨rfl,rfl,rfl, fun ρ => congrArg (fun l => cellsL ρ (trsC l)) (mvL_0 P Q o.l).symm⟩, ⟨rfl,rfl,rfl, fun _=>rfl⟩, ⟨rfl,rfl,rfl, fun ρ => by rw [hQ]; rfl⟩, trivial⟩
   ·rintro ⟨⟨k, hk⟩, vs⟩
    have hk : k ≤ o.l.length := hk
    dsimp only
    conv => whnf
    refine bcase_intro (fun hlt => ?_) (fun hlt => ?_)
    ·have hlt : k < o.l.length := n_lt hlt
     have hnl : o.nl = false := by cases hh : o.nl with
      | false => rfl
      | true => have h1 := o.ok.1; have h2 := o.ok.2.2 hh; omega
     conv => whnf
     refine loop_st (G := {j : Nat // j ≤ 3} × (Nat → Value)) (fun g => (.c (.val (g.2 0)) :: .c (.val (g.2 1)) :: .c (.val (g.2 2)) :: .c (.ptr 0 0) :: .c (.val (g.2 4)) :: .c (.val (g.2 5)) :: .c (.val (g.2 6)) :: .c (.val (.bool true)) :: o.sl 1 :: .c (.val (g.2 9)) :: .c (.ptr 2 0) :: .c (.ptr 3 0) :: .c (.int (k : Nat) (lt_ir o.ok hk)) :: .c (.val (g.2 13)) :: .c (.val (g.2 14)) :: .c (.val (g.2 15)) :: .c (.val (g.2 16)) :: .c (.val (g.2 17)) :: .c (.val (g.2 18)) :: .c (.val (g.2 19)) :: .c (.val (g.2 20)) :: .c (.val (g.2 21)) :: .c (.val (g.2 22)) :: .c (.val (g.2 23)) :: .c (.val (g.2 24)) :: .c (.val (g.2 25)) :: .c (.val (g.2 26)) :: .c (.val (g.2 27)) :: .c (.val (g.2 28)) :: .c (.val (g.2 29)) :: .c (.val (g.2 30)) :: .c (.val (g.2 31)) :: .c (.val (g.2 32)) :: .c (.val (g.2 33)) :: .c (.val (g.2 34)) :: .c (.val (g.2 35)) :: .c (.val (g.2 36)) :: .c (.val (g.2 37)) :: .c (.val (g.2 38)) :: .c (.val (g.2 39)) :: .c (.val (g.2 40)) :: .c (.val (g.2 41)) :: .c (.val (g.2 42)) :: .c (.val (g.2 43)) :: .c (.val (g.2 44)) :: .c (.val (g.2 45)) :: .c (.val (g.2 46)) :: .c (.val (g.2 47)) :: .c (.val (g.2 48)) :: .c (.val (g.2 49)) :: .c (.val (g.2 50)) :: .c (.val (g.2 51)) :: .c (.val (g.2 52)) :: .c (.val (g.2 53)) :: .c (.val (g.2 54)) :: .c (.val (g.2 55)) :: .c (.val (g.2 56)) :: .c (.val (g.2 57)) :: .c (.val (g.2 58)) :: .c (.val (g.2 59)) :: .c (.val (g.2 60)) :: .c (.int (o.l.length : Nat) (lt_ir o.ok (Nat.le_refl _))) :: .c (.int (k : Nat) (lt_ir o.ok hk)) :: .c (.val (g.2 63)) :: .c (.val (g.2 64)) :: .c (.int (g.1.1 : Nat) (ir3j g.1.2)) :: .c (.val (g.2 66)) :: .c (.val (g.2 67)) :: .c (.val (g.2 68)) :: .c (.val (g.2 69)) :: .c (.val (g.2 70)) :: .c (.val (g.2 71)) :: .c (.val (g.2 72)) :: .c (.val (g.2 73)) :: .c (.val (g.2 74)) :: .c (.val (g.2 75)) :: .c (.val (g.2 76)) :: .c (.val (g.2 77)) :: .c (.val (g.2 78)) :: .c (.val (g.2 79)) :: .c (.val (g.2 80)) :: .c (.val (g.2 81)) :: .c (.val (g.2 82)) :: .c (.val (g.2 83)) :: .c (.val (g.2 84)) :: .c (.val (g.2 85)) :: .c (.val (g.2 86)) :: .c (.val (g.2 87)) :: .c (.val (g.2 88)) :: .c (.val (g.2 89)) :: .c (.val (g.2 90)) :: .c (.val (g.2 91)) :: .c (.val (g.2 92)) :: .c (.val (g.2 93)) :: .c (.val (g.2 94)) :: .c (.val (g.2 95)) :: .c (.val (g.2 96)) :: .c (.val (g.2 97)) :: .c (.val (g.2 98)) :: .c (.val (g.2 99)) :: .c (.val (g.2 100)) :: .c (.val (g.2 101)) :: .c (.val (g.2 102)) :: .c (.val (g.2 103)) :: .c (.val (g.2 104)) :: .c (.val (g.2 105)) :: .c (.val (g.2 106)) :: .c (.val (g.2 107)) :: .c (.val (g.2 108)) :: .c (.val (g.2 109)) :: .c (.val (g.2 110)) :: [])) (fun g => [⟨24, false, riC r, 0⟩, ⟨38, o.nl, trsC (mvL P Q o.l k g.1.1), (o.cap - o.l.length) * 9⟩, ⟨35, false, ptC P, 0⟩, ⟨35, false, ptC Q, 0⟩]) (fun g => 3 - g.1.1) ?_ ?_
     ·refine ⟨[0,1,2,3], [3,7,8,10,11,12,61,62,65], [1], fun vs2 => ?_⟩
      conv => whnf
      refine ⟨pureL_trs _, ?_⟩
      conv => whnf
      refine ⟨_, _, ?_, ?_, (⟨0, Nat.zero_le _⟩, vs2), rfl, rfl⟩
      ·exact ⟨fun _=>rfl,fun _=>rfl,fun _=>rfl,fun _=>rfl,fun _=>rfl,fun _=>rfl,fun _=>rfl,fun _=>rfl,fun _=>rfl,fun _=>rfl,fun _=>rfl,fun _=>rfl,fun _=>rfl,fun _=>rfl,fun _=>rfl,fun _=>rfl,fun _=>rfl,fun _=>rfl,fun _=>rfl,fun _=>rfl,fun _=>rfl,fun _=>rfl,fun _=>rfl,fun _=>rfl,fun _=>rfl,fun _=>rfl,fun _=>rfl,fun _=>rfl,fun _=>rfl,fun _=>rfl,fun _=>rfl,fun _=>rfl,fun _=>rfl,fun _=>rfl,fun _=>rfl,fun _=>rfl,fun _=>rfl,fun _=>rfl,fun _=>rfl,fun _=>rfl,fun _=>rfl,fun _=>rfl,fun _=>rfl,fun _=>rfl,fun _=>rfl,fun _=>rfl,fun _=>rfl,fun _=>rfl,fun _=>rfl,fun _=>rfl,fun _=>rfl,fun _=>rfl,fun _=>rfl,fun _=>rfl,fun _=>rfl,fun _=>rfl,fun _=>rfl,fun _=>rfl,fun _=>rfl,fun _=>rfl,fun _=>rfl,fun _=>rfl,fun _=>rfl,fun _=>rfl,fun _=>rfl,fun _=>rfl,stm _⟩
      ·exact ⟨⟨rfl,rfl,rfl, fun _=>rfl⟩, ⟨rfl,rfl,rfl, fun _=>rfl⟩, ⟨rfl,rfl,rfl, fun _=>rfl⟩, ⟨rfl,rfl,rfl, fun _=>rfl⟩, trivial⟩
     ·rintro ⟨⟨j, hj⟩, vs2⟩
      have hj : j ≤ 3 := hj
      dsimp only
      conv => whnf
      refine bcase_intro (fun hj3 => ?_) (fun hj3 => ?_)
      ·have hj3 : j < 3 := n_lt hj3
       conv => whnf
       conv =>
        arg 2
        tactic' =>
         apply eff_index_sli (k := k) (hi := (lt_ir o.ok hk)) (ho := ?how7) (hT := ?hTw7) (hx := ?hxw7) (hk := ?hkw7) (hlt := ?hltw7)
         case how7 => rfl
         case hTw7 => rfl
         case hxw7 => rfl
         case hkw7 => rfl
         case hltw7 => exact hlt
       conv => whnf
       conv =>
        arg 2
        tactic' =>
         apply eff_index_arr (k := j) (hi := ir3j hj) (ho := ?how8) (hT := ?hTw8) (hx := ?hxw8) (hk := ?hkw8) (hlt := ?hltw8)
         case how8 => rfl
         case hTw8 => rfl
         case hxw8 => rfl
         case hkw8 => rfl
         case hltw8 => exact hj3
       conv => whnf
       conv =>
        arg 2
        tactic' =>
         apply eff_load_sub (ho := ?how9) (hT := ?hTw9) (hx := ?hxw9) (hb := ?hbw9) (hm := ?hmw9) (hv := ?hvw9)
         case how9 => rfl
         case hTw9 => rfl
         case hxw9 => rfl
         case hbw9 => rfl
         case hmw9 => exact ld_crn P Q o.l hlt hj3
         case hvw9 => rfl
       conv => whnf
       refine bcase_intro (fun heq => ?_) (fun heq => ?_)
       ·have heq : eqP (cjT o.l[k] j) P = true := heq
        conv => whnf
        conv =>
         arg 2
         tactic' =>
          apply eff_index_sli (k := k) (hi := (lt_ir o.ok hk)) (ho := ?how10) (hT := ?hTw10) (hx := ?hxw10) (hk := ?hkw10) (hlt := ?hltw10)
          case how10 => rfl
          case hTw10 => rfl
          case hxw10 => rfl
          case hkw10 => rfl
          case hltw10 => exact hlt
        conv => whnf
        conv =>
         arg 2
         tactic' =>
          apply eff_index_arr (k := j) (hi := ir3j hj) (ho := ?how8) (hT := ?hTw8) (hx := ?hxw8) (hk := ?hkw8) (hlt := ?hltw8)
          case how8 => rfl
          case hTw8 => rfl
          case hxw8 => rfl
          case hkw8 => rfl
          case hltw8 => exact hj3
        conv => whnf
        conv =>
         arg 2
         tactic' =>
          apply eff_store_at (l := ptC Q) (cs := trsC (mvL P Q o.l k (j + 1))) (ho := ?how11) (hT := ?hTw11) (hx := ?hxw11) (hy := ?hyw11) (hl := ?hlw11) (hb := ?hbw11) (hro := ?hrow11) (hs := ?hsw11)
          case how11 => rfl
          case hTw11 => rfl
          case hxw11 => rfl
          case hyw11 => rfl
          case hlw11 => exact ⟨rfl, rfl⟩
          case hbw11 => rfl
          case hrow11 => exact hnl
          case hsw11 => exact mv_put P Q o.l hlt hj3 heq
        conv => whnf
        rw [forceL_eq]
        conv => whnf
        refine ⟨[0,1,2,3], [3,7,8,10,11,12,61,62,65], [1], fun vs3 => ?_⟩
        conv => whnf
        refine ⟨pureL_trs _, ?_⟩
        conv => whnf
        refine ⟨_, _, ?_, ?_, (⟨j + 1, hj3⟩, vs3), (by omega : 3 - (j + 1) < 3 - j), rfl, rfl⟩
        ·exact ⟨fun _=>rfl,fun _=>rfl,fun _=>rfl,fun _=>rfl,fun _=>rfl,fun _=>rfl,fun _=>rfl,fun _=>rfl,fun _=>rfl,fun _=>rfl,fun _=>rfl,fun _=>rfl,fun _=>rfl,fun _=>rfl,fun _=>rfl,fun _=>rfl,fun _=>rfl,fun _=>rfl,fun _=>rfl,fun _=>rfl,fun _=>rfl,fun _=>rfl,fun _=>rfl,fun _=>rfl,fun _=>rfl,fun _=>rfl,fun _=>rfl,fun _=>rfl,fun _=>rfl,fun _=>rfl,fun _=>rfl,fun _=>rfl,fun _=>rfl,fun _=>rfl,fun _=>rfl,fun _=>rfl,fun _=>rfl,fun _=>rfl,fun _=>rfl,fun _=>rfl,fun _=>rfl,fun _=>rfl,fun _=>rfl,fun _=>rfl,fun _=>rfl,fun _=>rfl,fun _=>rfl,fun _=>rfl,fun _=>rfl,fun _=>rfl,fun _=>rfl,fun _=>rfl,fun _=>rfl,fun _=>rfl,fun _=>rfl,fun _=>rfl,fun _=>rfl,fun _=>rfl,fun _=>rfl,fun _=>rfl,fun _=>rfl,fun _=>rfl,fun _=>rfl,fun _=>rfl,fun _=>rfl,fun ρ => sint_k (wrap_add1 hj3 (ir3j (Nat.le_refl 3))) ρ, stm _⟩
        ·exact ⟨⟨rfl,rfl,rfl, fun _=>rfl⟩, ⟨rfl,rfl,rfl, fun _=>rfl⟩, ⟨rfl,rfl,rfl, fun _=>rfl⟩, ⟨rfl,rfl,rfl, fun _=>rfl⟩, trivial⟩
       ·have heq : eqP (cjT o.l[k] j) P = false := heq
        conv => whnf
        refine ⟨[0,1,2,3], [3,7,8,10,11,12,61,62,65], [1], fun vs3 => ?_⟩
        conv => whnf
        refine ⟨pureL_trs _, ?_⟩
        conv => whnf
        refine ⟨_, _, ?_, ?_, (⟨j + 1, hj3⟩, vs3), (by omega : 3 - (j + 1) < 3 - j), rfl, rfl⟩
        ·exact ⟨fun _=>rfl,fun _=>rfl,fun _=>rfl,fun _=>rfl,fun _=>rfl,fun _=>rfl,fun _=>rfl,fun _=>rfl,fun _=>rfl,fun _=>rfl,fun _=>rfl,fun _=>rfl,fun _=>rfl,fun _=>rfl,fun _=>rfl,fun _=>rfl,fun _=>rfl,fun _=>rfl,fun _=>rfl,fun _=>rfl,fun _=>rfl,fun _=>rfl,fun _=>rfl,fun _=>rfl,fun _=>rfl,fun _=>rfl,fun _=>rfl,fun _=>rfl,fun _=>rfl,fun _=>rfl,fun _=>rfl,fun _=>rfl,fun _=>rfl,fun _=>rfl,fun _=>rfl,fun _=>rfl,fun _=>rfl,fun _=>rfl,fun _=>rfl,fun _=>rfl,fun _=>rfl,fun _=>rfl,fun _=>rfl,fun _=>rfl,fun _=>rfl,fun _=>rfl,fun _=>rfl,fun _=>rfl,fun _=>rfl,fun _=>rfl,fun _=>rfl,fun _=>rfl,fun _=>rfl,fun _=>rfl,fun _=>rfl,fun _=>rfl,fun _=>rfl,fun _=>rfl,fun _=>rfl,fun _=>rfl,fun _=>rfl,fun _=>rfl,fun _=>rfl,fun _=>rfl,fun _=>rfl,fun ρ => sint_k (wrap_add1 hj3 (ir3j (Nat.le_refl 3))) ρ, stm _⟩
        ·exact ⟨⟨rfl,rfl,rfl, fun _=>rfl⟩, ⟨rfl,rfl,rfl, fun ρ => congrArg (fun l => cellsL ρ (trsC l)) (mv_skip P Q o.l hlt hj3 heq).symm⟩, ⟨rfl,rfl,rfl, fun _=>rfl⟩, ⟨rfl,rfl,rfl, fun _=>rfl⟩, trivial⟩
      ·conv => whnf
       have h3 : 3 ≤ j := n_ge hj3
       obtain rfl : j = 3 := by omega
       refine ⟨[0,1,2,3], [3,7,8,10,11,61,62], [1], fun vs3 => ?_⟩
       conv => whnf
       refine ⟨pureL_trs _, ?_⟩
       conv => whnf
       refine ⟨_, _, ?_, ?_, (⟨k + 1, hlt⟩, vs3), (by omega : o.l.length - (k + 1) < o.l.length - k), rfl, rfl⟩
       ·exact ⟨fun _=>rfl,fun _=>rfl,fun _=>rfl,fun _=>rfl,fun _=>rfl,fun _=>rfl,fun _=>rfl,fun _=>rfl,fun _=>rfl,fun _=>rfl,fun _=>rfl,fun _=>rfl,fun _=>rfl,fun _=>rfl,fun _=>rfl,fun _=>rfl,fun _=>rfl,fun _=>rfl,fun _=>rfl,fun _=>rfl,fun _=>rfl,fun _=>rfl,fun _=>rfl,fun _=>rfl,fun _=>rfl,fun _=>rfl,fun _=>rfl,fun _=>rfl,fun _=>rfl,fun _=>rfl,fun _=>rfl,fun _=>rfl,fun _=>rfl,fun _=>rfl,fun _=>rfl,fun _=>rfl,fun _=>rfl,fun _=>rfl,fun _=>rfl,fun _=>rfl,fun _=>rfl,fun _=>rfl,fun _=>rfl,fun _=>rfl,fun _=>rfl,fun _=>rfl,fun _=>rfl,fun _=>rfl,fun _=>rfl,fun _=>rfl,fun _=>rfl,fun _=>rfl,fun _=>rfl,fun _=>rfl,fun _=>rfl,fun _=>rfl,fun _=>rfl,fun _=>rfl,fun _=>rfl,fun _=>rfl,fun _=>rfl,fun _=>rfl,fun ρ => sint_k (wrap_add1 hlt o.ok.ir) ρ, stm _⟩
       ·exact ⟨⟨rfl,rfl,rfl, fun _=>rfl⟩, ⟨rfl,rfl,rfl, fun ρ => congrArg (fun l => cellsL ρ (trsC l)) (mvL_next P Q o.l hlt)⟩, ⟨rfl,rfl,rfl, fun _=>rfl⟩, ⟨rfl,rfl,rfl, fun _=>rfl⟩, trivial⟩
    ·have hge : o.l.length ≤ k := n_ge hlt
     obtain rfl : k = o.l.length := Nat.le_antisymm hk hge
     conv => whnf
     refine .inl ⟨4, ?_⟩
     conv => whnf
     have hml1 : (mvL P Q o.l o.l.length 0).length ≤ 1000000 := (by rw [mvL_len P Q o.l (Nat.le_refl _) 0]; omega)
     conv =>
      arg 2
      tactic' =>
       apply dTh (l := mvL P Q o.l o.l.length 0) (R := nearI r) (hl := (mvL_len P Q o.l (Nat.le_refl _) 0)) (hn := hml1) (ha := ?haw12) (hb := ?hbw12)
       case haw12 => rfl
       case hbw12 => rfl
     conv => whnf
     conv =>
      arg 2
      tactic' =>
       apply dTh (l := mvL P Q o.l o.l.length 0) (R := backI r) (hl := (mvL_len P Q o.l (Nat.le_refl _) 0)) (hn := hml1) (ha := ?haw13) (hb := ?hbw13)
       case haw13 => rfl
       case hbw13 => rfl
     conv => whnf
     refine ⟨[], [], fun vs8 => ?_⟩
     conv => whnf
     refine ⟨_, [], rfl, trivial, trivial, _, fun ρ => ?_, hc⟩
     exact sbool_e (thru_val (R := nearI r) (R' := backI r) (back_z3 r) (thru_vox ho) hml1) ρ
theorem call_lawTh {f : FuncId} (hf : CSp Tryz.prog f cLawTh) {b : Int} (r : RI) (d : I4) (w : World) :
  Calls Tryz.prog f #[.agg #[.int .i64 r.x, .int .i64 r.y, .int .i64 r.z, .int .i64 r.w, .int .i64 r.a, .int .i64 r.b, .int .i64 r.c], .int .u32 b, .agg #[.int .i64 d.a, .int .i64 d.b, .int .i64 d.c, .int .i64 d.d]] w fun e w' => e = .returned (.bool true) ∧ Below w.heap.size w w' := by
 refine (hf.2 [.agg (riC r), .c (.val (.int .u32 b)), .agg (i4C d)] [] (fun u _ => u = .c (.val (.bool true))) ⟨⟨_, _, _, rfl, rfl⟩, rfl⟩ trivial trivial (fun _ => (0, 0)) w (fun i c hi => by simp [nthO] at hi)).mono ?_
 rintro e w' ⟨u, news, σ, rfl, _, hh, _, he⟩
 exact ⟨he σ (Agr.refl _ _), hh.bel.below⟩
end Go.Proofs.YtocbklodkcdhkaaGreatDoor
