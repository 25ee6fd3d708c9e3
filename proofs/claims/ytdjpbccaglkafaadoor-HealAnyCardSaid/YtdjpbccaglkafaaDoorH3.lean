/- law 05: heal.Heal walked. -/
import Derived.Test.YtdjpbccaglkafaaDoorH3p
namespace Go.Proofs.YtdjpbccaglkafaaDoor
open Go.RowKit
set_option maxRecDepth 100000

def baseH : List (FuncId × Dn) := (29, dRot) :: (32, dSameT) :: baseF4
theorem baseH_ok : AllOk baseH := .cons spRot <| .cons spSameT <| baseF4_ok
def clC : List (FuncId × NewC) := [(28, cClean)]
theorem clC_ok : AllC Tryd.prog clC := .cons csClean .nil
noncomputable def fxHe : FuncId → Option Func := lk [(27, Tryd.f27)]
theorem fxHe_ok : ∀ f fn, fxHe f = some fn → FnOk Tryd.prog f fn := lkF_ok fun x hx => by
  simp only [List.mem_cons, List.not_mem_nil, or_false] at hx
  subst hx
  · exact ⟨Tryd.func27, by kernel_rfl, by kernel_rfl⟩
def OT.t1 (o : OT) (b : Nat) : T1 := .c (.sli o.nl b 0 o.l.length o.cap o.ok)
def OF.t1 (o : OF) (b : Nat) : T1 := .c (.sli o.nl b 0 o.l.length o.cap o.ok)
/-- what is asked of polygons: their corners lie in the family, and there are not too many -/
def PysOk (fam : List Ent) (l : List PY) : Prop := l.length ≤ 1000 ∧ ∀ p ∈ l, p.len ≤ 1000 ∧ p.In fam
def cHeal : NewC := fun args ros K => ∃ nl cap ty fam l h, args = [.c (.sli nl 0 0 l.length cap h)] ∧ ros = [⟨.t ty, true, pysC l, 0⟩, ⟨.x fam, true, [], 3⟩] ∧ PysOk fam l ∧
  ∀ (o : OT) (f : OF), o.l = (healT l).out → f.l = (healT l).bad → K (.tup [o.t1 2, f.t1 3]) [o.blk, f.blk]
def faC (f : OF) : List C := [.sli f.nl 5 0 f.l.length f.cap f.ok]
def faB (f : OF) : Blk := ⟨.t 37, false, faC f, 0⟩
def maB (o : OT) : Blk := ⟨.m 62 (ents o.l) o.l.length, true, [], 1⟩
/-- behind k polygons -/
structure HeI (l : List PY) (k : Nat) (o : OT) (f : OF) : Prop where
  hk : k ≤ l.length
  out : o.l = (healT (l.take k)).out
  bad : f.l = (healT (l.take k)).bad
  kn : Known o.l
  len : o.l.length + f.l.length ≤ 1001 * k
theorem HeI.zero (l : List PY) : HeI l 0 OT.none OF.none := ⟨Nat.zero_le _, rfl, rfl, Known.nil, Nat.zero_le _⟩
theorem in_fam {hp : List Blk} {fb : Nat} {fam : List Ent} {b : Blk} {o : Bool} {p : PY} (h : p.In fam) (h1 : nthO hp fb = some b) (h2 : b.famOf = some (o, fam)) : ptsC p.full = [] ∨ famHas hp fb (p.r, p.o) (ptsC p.full) := h.imp id fun h => ⟨_, _, _, h1, h2, h⟩
theorem ir_k {k n : Nat} (h : k ≤ n) (hn : n ≤ 1000) : IR k := ir_g (by omega)
/-- inside a polygon: behind i triangles -/
structure FaI (pl : Int) (hp : IR pl) (c : List PT) (st : SH) (i : Nat) (o : OT) (f : OF) : Prop where
  hi : i + 2 ≤ c.length
  out : o.l = (fanT pl hp c st i).out
  bad : f.l = (fanT pl hp c st i).bad
  kn : Known o.l
  len : o.l.length + f.l.length ≤ st.out.length + st.bad.length + i
theorem pt_cut {l : List PT} {i : Nat} {o : Nat} (h : i < l.length) (ho : o = i * 3) : subC (ptsC l) o 3 = some (ptC (ptD l i)) := by rw [ptD_eq h]; exact subC_p h ho
theorem q_pt {q : OQ} {i : Nat} (h : i < q.k) : ptD q.full i = ptD q.l i := by
  have := q.hk
  unfold ptD OQ.l
  rw [List.getElem?_take, if_pos h]
theorem sub_add {a b : Nat} (h : a ≤ b) : a - b = 0 := Nat.sub_eq_zero_of_le h
theorem push_cell (f : OF) (x : FT) {c2 : Nat} (k2 : SliOk (f.nl && decide (1 = 0)) (f.l.length + 1) c2) (ρ : Rho) : cellsL ρ [.sli (f.nl && decide (1 = 0)) 5 0 (f.l.length + 1) c2 k2] = cellsL ρ (faC (f.push [x] rfl c2 k2)) := by
  simp [cellsL, C.cells, faC, OF.push]
theorem HeI.fault {l : List PY} {k : Nat} {o : OT} {f : OF} (h : HeI l k o f) (hlt : k < l.length) {pl kd : Int} {hp : IR pl} {hk : IR kd} (hs : polyT (healT (l.take k)) l[k] = (healT (l.take k)).fault pl hp kd hk) {c2 : Nat} (k2 : SliOk (f.nl && decide (1 = 0)) (f.l.length + 1) c2) : HeI l (k + 1) o (f.push [⟨pl, kd, hp, hk⟩] rfl c2 k2) := by
  refine ⟨hlt, ?_, ?_, h.kn, ?_⟩
  · rw [heal_take l hlt, hs]; exact h.out
  · rw [heal_take l hlt, hs]; show f.l ++ _ = _ ++ _; rw [h.bad]
  · have := h.len; show o.l.length + (f.l ++ [_]).length ≤ _; rw [List.length_append]; simp; omega
theorem HeI.start {l : List PY} {k : Nat} {o : OT} {f : OF} (h : HeI l k o f) {pl : Int} {hp : IR pl} {c : List PT} (hc : 2 ≤ c.length) : FaI pl hp c (healT (l.take k)) 0 o f :=
  ⟨hc, h.out, h.bad, h.kn, by rw [← h.out, ← h.bad]; exact Nat.le_refl _⟩
theorem HeI.next {l : List PY} {k : Nat} {o o2 : OT} {f f2 : OF} (h : HeI l k o f) (hlt : k < l.length) {pl : Int} {hp : IR pl} {c : List PT} {i : Nat} (hs : polyT (healT (l.take k)) l[k] = fanT pl hp c (healT (l.take k)) i) (hF : FaI pl hp c (healT (l.take k)) i o2 f2) (hi : i ≤ 1000) : HeI l (k + 1) o2 f2 := by
  refine ⟨hlt, ?_, ?_, hF.kn, ?_⟩
  · rw [heal_take l hlt, hs]; exact hF.out
  · rw [heal_take l hlt, hs]; exact hF.bad
  · have h1 := hF.len; have h2 := h.len; rw [← h.out, ← h.bad] at h1; omega
theorem FaI.fault {pl : Int} {hp : IR pl} {c : List PT} {st : SH} {i : Nat} {o : OT} {f : OF} (h : FaI pl hp c st i o f) (hi : i + 1 + 2 ≤ c.length) {kd : Int} {hk : IR kd} (hs : stepT pl hp (fanT pl hp c st i) (triK c i) = (fanT pl hp c st i).fault pl hp kd hk) {c2 : Nat} (k2 : SliOk (f.nl && decide (1 = 0)) (f.l.length + 1) c2) : FaI pl hp c st (i + 1) o (f.push [⟨pl, kd, hp, hk⟩] rfl c2 k2) := by
  refine ⟨hi, ?_, ?_, h.kn, ?_⟩
  · show o.l = (stepT pl hp (fanT pl hp c st i) (triK c i)).out; rw [hs]; exact h.out
  · show f.l ++ _ = (stepT pl hp (fanT pl hp c st i) (triK c i)).bad; rw [hs, h.bad]; rfl
  · have := h.len; show o.l.length + (f.l ++ [_]).length ≤ _; rw [List.length_append]; simp; omega
theorem FaI.keep {pl : Int} {hp : IR pl} {c : List PT} {st : SH} {i : Nat} {o : OT} {f : OF} (h : FaI pl hp c st i o f) (hi : i + 1 + 2 ≤ c.length) {t : TR} (hf : flatT t = false) (hn : ∀ s ∈ o.l, keyT s ≠ keyT t) (hs : stepT pl hp (fanT pl hp c st i) (triK c i) = ⟨(fanT pl hp c st i).out ++ [t], (fanT pl hp c st i).bad⟩) {c2 : Nat} (k2 : SliOk (o.nl && decide (1 = 0)) (o.l.length + 1) c2) : FaI pl hp c st (i + 1) (o.push [t] rfl c2 k2) f := by
  refine ⟨hi, ?_, ?_, h.kn.snoc hf hn, ?_⟩
  · show o.l ++ _ = (stepT pl hp (fanT pl hp c st i) (triK c i)).out; rw [hs, h.out]
  · show f.l = (stepT pl hp (fanT pl hp c st i) (triK c i)).bad; rw [hs, h.bad]
  · have := h.len; show (o.l ++ [t]).length + f.l.length ≤ _; rw [List.length_append]; simp; omega
theorem q_cut {q : OQ} {i o : Nat} (h : i < q.k) (ho : o = i * 3) : subC (ptsC q.full) o 3 = some (ptC (ptD q.l i)) := by rw [← q_pt h]; exact pt_cut (by have := q.hk; omega) ho
theorem ir_i {i n k : Nat} (h : i + 2 ≤ n) (hn : n = k) (hk : k ≤ 1000) : IR ((i + 1 : Nat) : Int) := ir_g (by omega)
theorem maB_push (o : OT) (t : TR) {c2 : Nat} (k2 : SliOk (o.nl && decide (1 = 0)) (o.l.length + 1) c2) : TyX.m 62 (ents o.l ++ [(trB (keyT t), trB (rotT t))]) (o.l.length + 1) = TyX.m 62 (ents (o.push [t] rfl c2 k2).l) (o.push [t] rfl c2 k2).l.length := by
  show _ = TyX.m _ (ents (o.l ++ [t])) (o.l ++ [t]).length
  rw [ents_snoc, List.length_append]; rfl
set_option maxHeartbeats 16000000 in
theorem csHeal : CSpX Tryd.prog 16 cHeal := csp_ofX (envH_ok baseH_ok .nil 0) mixed (himp_ok (mix_ok clC_ok (envH_ok baseH_ok .nil 0) mixed fxHe_ok 1) 1) ⟨Tryd.func16, by kernel_rfl, by kernel_rfl⟩ fun args ros K hc => by
  obtain ⟨nl, cap, ty, fam, l, hl, rfl, rfl, hpy, hc⟩ := hc
  refine ⟨fun ρ ρ' e => ?_, ?_⟩
  · have := e 0 (Nat.zero_lt_succ _)
    simp only [List.map, SV.den, C.den, C.cells, this]
  conv => whnf
  refine loop_st (G := {g : Nat × OT × OF // HeI l g.1 g.2.1 g.2.2} × (Nat → Value)) (fun g => (.c (.val (g.2 0)) :: .c (.val (g.2 1)) :: .c (.val (g.2 2)) :: .c (.val (g.2 3)) :: g.1.1.2.1.sl 4 :: .c (.ptr 2 0) :: .c (.mp 3) :: .c (.val (g.2 7)) :: .c (.val (g.2 8)) :: .c (.val (g.2 9)) :: .c (.val (g.2 10)) :: .c (.val (g.2 11)) :: .c (.val (g.2 12)) :: .c (.val (g.2 13)) :: .c (.val (g.2 14)) :: .c (.val (g.2 15)) :: .c (.val (g.2 16)) :: .c (.val (g.2 17)) :: .c (.sli nl 0 0 l.length cap hl) :: .c (.int (l.length : Nat) hl.ir) :: .c (.int (g.1.1.1 : Nat) (ir_k g.1.2.hk hpy.1)) :: .c (.val (g.2 21)) :: .c (.val (g.2 22)) :: .c (.val (g.2 23)) :: .c (.val (g.2 24)) :: .c (.val (g.2 25)) :: .c (.val (g.2 26)) :: .c (.val (g.2 27)) :: .c (.val (g.2 28)) :: .c (.val (g.2 29)) :: .c (.val (g.2 30)) :: .c (.val (g.2 31)) :: .c (.val (g.2 32)) :: .c (.val (g.2 33)) :: .c (.val (g.2 34)) :: .c (.val (g.2 35)) :: .c (.val (g.2 36)) :: .c (.val (g.2 37)) :: .c (.val (g.2 38)) :: .c (.val (g.2 39)) :: .c (.val (g.2 40)) :: .c (.val (g.2 41)) :: .c (.val (g.2 42)) :: .c (.val (g.2 43)) :: .c (.val (g.2 44)) :: .c (.val (g.2 45)) :: .c (.val (g.2 46)) :: .c (.val (g.2 47)) :: .c (.val (g.2 48)) :: .c (.val (g.2 49)) :: .c (.val (g.2 50)) :: .c (.val (g.2 51)) :: .c (.val (g.2 52)) :: .c (.val (g.2 53)) :: .c (.val (g.2 54)) :: .c (.val (g.2 55)) :: .c (.val (g.2 56)) :: .c (.val (g.2 57)) :: .c (.val (g.2 58)) :: .c (.val (g.2 59)) :: .c (.val (g.2 60)) :: .c (.val (g.2 61)) :: .c (.val (g.2 62)) :: .c (.val (g.2 63)) :: .c (.val (g.2 64)) :: .c (.val (g.2 65)) :: .c (.val (g.2 66)) :: .c (.val (g.2 67)) :: .c (.val (g.2 68)) :: .c (.val (g.2 69)) :: .c (.val (g.2 70)) :: .c (.val (g.2 71)) :: .c (.val (g.2 72)) :: .c (.val (g.2 73)) :: .c (.val (g.2 74)) :: .c (.val (g.2 75)) :: .c (.val (g.2 76)) :: .c (.val (g.2 77)) :: .c (.val (g.2 78)) :: .c (.val (g.2 79)) :: .c (.val (g.2 80)) :: .c (.val (g.2 81)) :: .c (.val (g.2 82)) :: .c (.val (g.2 83)) :: .c (.val (g.2 84)) :: .c (.val (g.2 85)) :: .c (.val (g.2 86)) :: .c (.val (g.2 87)) :: .c (.val (g.2 88)) :: .c (.val (g.2 89)) :: .c (.val (g.2 90)) :: .c (.val (g.2 91)) :: .c (.val (g.2 92)) :: .c (.val (g.2 93)) :: .c (.val (g.2 94)) :: .c (.val (g.2 95)) :: .c (.val (g.2 96)) :: .c (.val (g.2 97)) :: .c (.val (g.2 98)) :: .c (.val (g.2 99)) :: .c (.val (g.2 100)) :: .c (.val (g.2 101)) :: .c (.val (g.2 102)) :: .c (.val (g.2 103)) :: .c (.val (g.2 104)) :: .c (.val (g.2 105)) :: .c (.val (g.2 106)) :: [])) (fun g => [⟨.t ty, true, pysC l, 0⟩, ⟨.x fam, true, [], 3⟩, faB g.1.1.2.2, maB g.1.1.2.1, g.1.1.2.1.blk, g.1.1.2.2.blk]) (fun g => l.length - g.1.1.1) ?_ ?_
  · refine ⟨[0, 1, 2, 3, 1000 + 45, 1000 + 43], [4, 5, 6, 18, 19, 20], [0], fun vs => ?_⟩
    conv => whnf
    refine ⟨pysC_pure l, ?_⟩
    conv => whnf
    refine ⟨_, _, ?_, ?_, (⟨(0, OT.none, OF.none), HeI.zero l⟩, vs), rfl, rfl⟩
    · exact ⟨fun _ => rfl, fun _ => rfl, fun _ => rfl, fun _ => rfl, fun _ => rfl, fun _ => rfl, fun _ => rfl, fun _ => rfl, fun _ => rfl, fun _ => rfl, fun _ => rfl, fun _ => rfl, fun _ => rfl, fun _ => rfl, fun _ => rfl, fun _ => rfl, fun _ => rfl, fun _ => rfl, fun _ => rfl, fun _ => rfl, fun _ => rfl, stm _⟩
    · exact ⟨⟨rfl, rfl, rfl, fun _ => rfl⟩, ⟨rfl, rfl, rfl, fun _ => rfl⟩, ⟨rfl, rfl, rfl, fun _ => rfl⟩, ⟨rfl, rfl, rfl, fun _ => rfl⟩, ⟨rfl, rfl, rfl, fun _ => rfl⟩, ⟨rfl, rfl, rfl, fun _ => rfl⟩, trivial⟩
  · rintro ⟨⟨⟨k, o, f⟩, hI⟩, vs⟩
    have hI : HeI l k o f := hI
    dsimp only
    conv => whnf
    refine bcase_intro (fun hlt => ?_) (fun hlt => ?_)
    · have hlt : k < l.length := n_lt hlt
      conv => whnf
      obtain ⟨p, hp⟩ : ∃ p, p = l[k] := ⟨_, rfl⟩
      have hpm := hpy.2 p (hp ▸ List.getElem_mem hlt)
      conv =>
        arg 2
        tactic' =>
          apply eff_index_sli (ho := ?how1) (hT := ?hTw1) (hx := ?hxw1) (hk := ?hkw1) (hlt := ?hltw1)
          case how1 => rfl
          case hTw1 => rfl
          case hxw1 => rfl
          case hkw1 => rfl
          case hltw1 => exact hlt
      conv => whnf
      conv =>
        arg 2
        tactic' =>
          apply eff_load_sub (ho := ?how2) (hT := ?hTw2) (hx := ?hxw2) (hb := ?hbw2) (hm := ?hmw2) (hv := ?hvw2)
          case how2 => rfl
          case hTw2 => rfl
          case hxw2 => rfl
          case hbw2 => rfl
          case hmw2 => exact (by rw [Nat.zero_add]; exact subC_pys l hlt : subC (pysC l) (0 + k * 2) 2 = some (pyC l[k]))
          case hvw2 => rfl
      conv => whnf
      rw [← hp]
      conv => whnf
      refine .inr ⟨0, ?_⟩
      conv => whnf
      refine ⟨p.nl, p.r, p.o, p.len, p.cap, p.ok, 34, ptsC p.full, 1, rfl, in_fam hpm.2 rfl rfl, ?_⟩
      conv => whnf
      refine ⟨⟨ptsC_pure _, trivial⟩, ⟨_, _, _, _, _, _, rfl, rfl, p.hl, Nat.le_trans hpm.1 (by decide), fun q hq => ?_⟩⟩
      conv => whnf
      have hcl : (cleanP p.cor).length = q.k := by rw [← show q.l = cleanP p.cor from hq]; unfold OQ.l; rw [List.length_take]; have := q.hk; omega
      have hql : q.l.length = q.k := by unfold OQ.l; rw [List.length_take]; have := q.hk; omega
      have hqb : q.k ≤ 1000 := by
        have h1 := clean_len p.cor
        have h2 : p.cor.length ≤ p.len := by unfold PY.cor; rw [List.length_take]; omega
        omega
      have hln : o.l.length + f.l.length ≤ 1001000 := Nat.le_trans hI.len (by have := hpy.1; omega)
      conv => whnf
      refine bcase_intro (fun hq3 => ?_) (fun hq3 => ?_)
      · have hq3 : q.k < 3 := by have := of_decide_eq_true hq3; omega
        have hst : polyT (healT (l.take k)) p = (healT (l.take k)).fault p.pl p.hp 25 ir25 := by unfold polyT; rw [if_pos (by rw [hcl]; exact hq3)]
        conv => whnf
        refine .inl ?_
        conv => whnf
        refine .inl ?_
        conv => whnf
        refine ⟨rfl, ?_⟩
        conv => whnf
        refine ⟨OF.app f (m := 1) (by omega), fun c2 k2 => ?_⟩
        conv => whnf
        refine .inl ⟨1, ?_⟩
        conv => whnf
        refine bcase_intro (fun h => absurd (of_decide_eq_true h) (by rw [show IntKind.i64.wrap (1 + 1) = 2 by decide]; omega)) (fun _ => ?_)
        conv => whnf
        refine ⟨[0, 1, 2, 3, 4, 10], [4, 5, 6, 18, 19, 20], [0, 4, 5], fun vs2 => ?_⟩
        conv => whnf
        refine ⟨pysC_pure l, o.new.1.pure, pureL_append f.new.1.pure (fun _ _ => rfl), ?_⟩
        conv => whnf
        refine ⟨_, _, ?_, ?_, (⟨(k + 1, o, f.push [⟨p.pl, 25, p.hp, ir25⟩] rfl c2 k2), hI.fault hlt (hp ▸ hst) k2⟩, vs2), (by omega : l.length - (k + 1) < l.length - k), rfl, rfl⟩
        · exact ⟨fun _ => rfl, fun _ => rfl, fun _ => rfl, fun _ => rfl, fun _ => rfl, fun _ => rfl, fun _ => rfl, fun _ => rfl, fun _ => rfl, fun _ => rfl, fun _ => rfl, fun _ => rfl, fun _ => rfl, fun _ => rfl, fun _ => rfl, fun _ => rfl, fun _ => rfl, fun _ => rfl, fun _ => rfl, fun _ => rfl, fun ρ => sint_e (wrap_add1 hlt hl.ir) ρ, stm _⟩
        · exact ⟨⟨rfl, rfl, rfl, fun _ => rfl⟩, ⟨rfl, rfl, rfl, fun _ => rfl⟩, ⟨rfl, rfl, rfl, fun ρ => push_cell f _ k2 ρ⟩, ⟨rfl, rfl, rfl, fun _ => rfl⟩, ⟨rfl, rfl, rfl, fun _ => rfl⟩, f.push_blk [⟨p.pl, 25, p.hp, ir25⟩] rfl c2 k2 (fun _ => rfl), trivial⟩
      · have hq3 : 3 ≤ q.k := by have := of_decide_eq_false hq3; omega
        conv => whnf
        refine loop_st (G := {g : Nat × OT × OF // FaI p.pl p.hp q.l (healT (l.take k)) g.1 g.2.1 g.2.2} × (Nat → Value)) (fun g => (.c (.val (g.2 0)) :: .c (.val (g.2 1)) :: .c (.val (g.2 2)) :: .c (.val (g.2 3)) :: g.1.1.2.1.sl 4 :: .c (.ptr 2 0) :: .c (.mp 3) :: .c (.val (g.2 7)) :: .c (.val (g.2 8)) :: .c (.fn 27 [] [(2, 0), (6, 0)]) :: q.sl 7 :: .c (.int ((g.1.1.1 + 1 : Nat)) (ir_i g.1.2.hi hql hqb)) :: .c (.val (g.2 12)) :: .c (.val (g.2 13)) :: .c (.val (g.2 14)) :: .c (.val (g.2 15)) :: .c (.val (g.2 16)) :: .c (.val (g.2 17)) :: .c (.sli nl 0 0 l.length cap hl) :: .c (.int (l.length : Nat) hl.ir) :: .c (.int (k : Nat) (ir_k hI.hk hpy.1)) :: .c (.val (g.2 21)) :: .c (.val (g.2 22)) :: .c (.val (g.2 23)) :: .c (.val (g.2 24)) :: .c (.val (g.2 25)) :: .c (.val (g.2 26)) :: .c (.val (g.2 27)) :: .c (.val (g.2 28)) :: .c (.val (g.2 29)) :: .c (.val (g.2 30)) :: .c (.val (g.2 31)) :: .c (.val (g.2 32)) :: .c (.val (g.2 33)) :: .c (.val (g.2 34)) :: .c (.val (g.2 35)) :: .c (.val (g.2 36)) :: .c (.val (g.2 37)) :: .c (.val (g.2 38)) :: .c (.val (g.2 39)) :: .c (.val (g.2 40)) :: .c (.val (g.2 41)) :: .c (.val (g.2 42)) :: .c (.val (g.2 43)) :: .c (.val (g.2 44)) :: .c (.val (g.2 45)) :: .c (.val (g.2 46)) :: .c (.val (g.2 47)) :: .c (.val (g.2 48)) :: .c (.val (g.2 49)) :: .c (.val (g.2 50)) :: .c (.val (g.2 51)) :: .c (.val (g.2 52)) :: .c (.val (g.2 53)) :: .c (.val (g.2 54)) :: .c (.val (g.2 55)) :: .c (.val (g.2 56)) :: .c (.val (g.2 57)) :: .c (.val (g.2 58)) :: .c (.val (g.2 59)) :: .c (.val (g.2 60)) :: .c (.val (g.2 61)) :: .c (.val (g.2 62)) :: .c (.val (g.2 63)) :: .c (.val (g.2 64)) :: .c (.val (g.2 65)) :: .c (.val (g.2 66)) :: .c (.val (g.2 67)) :: .c (.val (g.2 68)) :: .c (.val (g.2 69)) :: .c (.val (g.2 70)) :: .c (.val (g.2 71)) :: .c (.val (g.2 72)) :: .c (.val (g.2 73)) :: .c (.val (g.2 74)) :: .c (.val (g.2 75)) :: .c (.val (g.2 76)) :: .c (.val (g.2 77)) :: .c (.val (g.2 78)) :: .c (.val (g.2 79)) :: .c (.val (g.2 80)) :: .c (.val (g.2 81)) :: .c (.val (g.2 82)) :: .c (.val (g.2 83)) :: .c (.val (g.2 84)) :: .c (.val (g.2 85)) :: .c (.val (g.2 86)) :: .c (.val (g.2 87)) :: .c (.val (g.2 88)) :: .c (.val (g.2 89)) :: .c (.val (g.2 90)) :: .c (.val (g.2 91)) :: .c (.val (g.2 92)) :: .c (.val (g.2 93)) :: .c (.val (g.2 94)) :: .c (.val (g.2 95)) :: .c (.val (g.2 96)) :: .c (.val (g.2 97)) :: .c (.val (g.2 98)) :: .c (.val (g.2 99)) :: .c (.val (g.2 100)) :: .c (.val (g.2 101)) :: .c (.val (g.2 102)) :: .c (.val (g.2 103)) :: .c (.val (g.2 104)) :: .c (.val (g.2 105)) :: .c (.val (g.2 106)) :: [])) (fun g => [⟨.t ty, true, pysC l, 0⟩, ⟨.x fam, true, [], 3⟩, faB g.1.1.2.2, maB g.1.1.2.1, g.1.1.2.1.blk, g.1.1.2.2.blk, ⟨31, false, pyC p, 0⟩, q.blk]) (fun g => q.k - g.1.1.1) ?_ ?_
        · refine ⟨[0, 1, 2, 3, 4, 5, 6, 8], [4, 5, 6, 9, 10, 11, 18, 19, 20], [0, 4, 5, 7], fun vs2 => ?_⟩
          conv => whnf
          refine ⟨pysC_pure l, o.new.1.pure, f.new.1.pure, q.new.1.pure, ?_⟩
          conv => whnf
          refine ⟨_, _, ?_, ?_, (⟨(0, o, f), hI.start (by omega)⟩, vs2), rfl, rfl⟩
          · exact ⟨fun _ => rfl, fun _ => rfl, fun _ => rfl, fun _ => rfl, fun _ => rfl, fun _ => rfl, fun _ => rfl, fun _ => rfl, fun _ => rfl, fun _ => rfl, fun _ => rfl, fun _ => rfl, fun _ => rfl, fun _ => rfl, fun _ => rfl, fun _ => rfl, fun _ => rfl, fun _ => rfl, fun _ => rfl, fun _ => rfl, fun _ => rfl, stm _⟩
          · exact ⟨⟨rfl, rfl, rfl, fun _ => rfl⟩, ⟨rfl, rfl, rfl, fun _ => rfl⟩, ⟨rfl, rfl, rfl, fun _ => rfl⟩, ⟨rfl, rfl, rfl, fun _ => rfl⟩, ⟨rfl, rfl, rfl, fun _ => rfl⟩, ⟨rfl, rfl, rfl, fun _ => rfl⟩, ⟨rfl, rfl, rfl, fun _ => rfl⟩, ⟨rfl, rfl, rfl, fun _ => rfl⟩, trivial⟩
        · rintro ⟨⟨⟨i, o2, f2⟩, hF⟩, vs2⟩
          have hF : FaI p.pl p.hp q.l (healT (l.take k)) i o2 f2 := hF
          have hi := hF.hi
          have hln2 : o2.l.length + f2.l.length ≤ 1002002 := by have := hF.len; rw [← hI.out, ← hI.bad] at this; omega
          have hw : IntKind.i64.wrap (((i + 1 : Nat) : Int) + 1) = ((i + 2 : Nat) : Int) := by rw [wrap_id (by unfold IR; omega)]; omega
          dsimp only
          conv => whnf
          refine bcase_intro (fun h2 => ?_) (fun h2 => ?_)
          · have hi2 : i + 2 < q.k := by have h := of_decide_eq_true h2; rw [hw] at h; omega
            obtain ⟨t, ht⟩ : ∃ t, t = triK q.l i := ⟨_, rfl⟩
            have ca : subC (ptsC q.full) (0 + 0 * 3) 3 = some (ptC t.a) := by subst ht; exact q_cut (by omega) (by omega)
            have cb : subC (ptsC q.full) (0 + (i + 1) * 3) 3 = some (ptC t.b) := by subst ht; exact q_cut (by omega) (by omega)
            have cc : subC (ptsC q.full) (0 + (i + 2) * 3) 3 = some (ptC t.c) := by subst ht; exact q_cut (by omega) (by omega)
            obtain ⟨S, hS⟩ : ∃ S, S = fanT p.pl p.hp q.l (healT (l.take k)) i := ⟨_, rfl⟩
            have hSo : S.out = o2.l := by rw [hS]; exact hF.out.symm
            have hSk : Known S.out := by rw [hSo]; exact hF.kn
            conv => whnf
            conv =>
              arg 2
              tactic' =>
                apply eff_index_sli (k := 0) (hi := ir_z0) (ho := ?how3) (hT := ?hTw3) (hx := ?hxw3) (hk := ?hkw3) (hlt := ?hltw3)
                case how3 => rfl
                case hTw3 => rfl
                case hxw3 => rfl
                case hkw3 => rfl
                case hltw3 => exact (by omega)
            conv => whnf
            conv =>
              arg 2
              tactic' =>
                apply eff_load_sub (ho := ?how4) (hT := ?hTw4) (hx := ?hxw4) (hb := ?hbw4) (hm := ?hmw4) (hv := ?hvw4)
                case how4 => rfl
                case hTw4 => rfl
                case hxw4 => rfl
                case hbw4 => rfl
                case hmw4 => exact ca
                case hvw4 => rfl
            conv => whnf
            conv =>
              arg 2
              tactic' =>
                apply eff_index_sli (k := i + 1) (hi := ir_g (by omega)) (ho := ?how5) (hT := ?hTw5) (hx := ?hxw5) (hk := ?hkw5) (hlt := ?hltw5)
                case how5 => rfl
                case hTw5 => rfl
                case hxw5 => rfl
                case hkw5 => rfl
                case hltw5 => exact (by omega)
            conv => whnf
            conv =>
              arg 2
              tactic' =>
                apply eff_load_sub (ho := ?how6) (hT := ?hTw6) (hx := ?hxw6) (hb := ?hbw6) (hm := ?hmw6) (hv := ?hvw6)
                case how6 => rfl
                case hTw6 => rfl
                case hxw6 => rfl
                case hbw6 => rfl
                case hmw6 => exact cb
                case hvw6 => rfl
            conv => whnf
            conv =>
              arg 2
              tactic' =>
                apply eff_index_sli (k := i + 2) (hi := ir_g (by omega)) (ho := ?how7) (hT := ?hTw7) (hx := ?hxw7) (hk := ?hkw7) (hlt := ?hltw7)
                case how7 => rfl
                case hTw7 => rfl
                case hxw7 => rfl
                case hkw7 => exact cint hw (ir_g (by omega))
                case hltw7 => exact hi2
            conv => whnf
            conv =>
              arg 2
              tactic' =>
                apply eff_load_sub (ho := ?how8) (hT := ?hTw8) (hx := ?hxw8) (hb := ?hbw8) (hm := ?hmw8) (hv := ?hvw8)
                case how8 => rfl
                case hTw8 => rfl
                case hxw8 => rfl
                case hbw8 => rfl
                case hmw8 => exact cc
                case hvw8 => rfl
            conv => whnf
            refine bcase_intro (fun hsw => ?_) (fun hsw => ?_)
            · have hsw : lessZ (rotT t).c.v (rotT t).b.v = true := hsw
              conv => whnf
              refine ⟨44, 45, trB (keyT t), trB trZ, by kernel_rfl, keyed3, fun ρ => by rw [keyT_y hsw]; rfl, key_ok _, ents_ok _, zero_tri, fun hn => ?_, fun e he hd => ?_⟩
              · have hn2 : ∀ s ∈ S.out, keyT s ≠ keyT t := by rw [hSo]; exact ents_none hn
                conv => whnf
                refine bcase_intro (fun hfl => ?_) (fun hfl => ?_)
                · have hfl : flatT t = true := hfl
                  conv => whnf
                  refine .inl ?_
                  conv => whnf
                  refine .inl ?_
                  conv => whnf
                  refine ⟨rfl, ?_⟩
                  conv => whnf
                  refine ⟨OF.app f2 (m := 1) (by omega), fun c2 k2 => ?_⟩
                  conv => whnf
                  refine ⟨[0, 1, 2, 3, 4, 13, 6, 7], [4, 5, 6, 9, 10, 11, 18, 19, 20], [0, 4, 5, 7], fun vs3 => ?_⟩
                  conv => whnf
                  refine ⟨pysC_pure l, o2.new.1.pure, pureL_append f2.new.1.pure (fun _ _ => rfl), q.new.1.pure, ?_⟩
                  conv => whnf
                  refine ⟨_, _, ?_, ?_, (⟨(i + 1, o2, f2.push [⟨p.pl, 25, p.hp, ir25⟩] rfl c2 k2), hF.fault (by omega) (ht ▸ hS ▸ step_flat hfl) k2⟩, vs3), (by omega : q.k - (i + 1) < q.k - i), rfl, rfl⟩
                  · exact ⟨fun _ => rfl, fun _ => rfl, fun _ => rfl, fun _ => rfl, fun _ => rfl, fun _ => rfl, fun _ => rfl, fun _ => rfl, fun _ => rfl, fun _ => rfl, fun _ => rfl, fun ρ => sint_e hw ρ, fun _ => rfl, fun _ => rfl, fun _ => rfl, fun _ => rfl, fun _ => rfl, fun _ => rfl, fun _ => rfl, fun _ => rfl, fun _ => rfl, stm _⟩
                  · exact ⟨⟨rfl, rfl, rfl, fun _ => rfl⟩, ⟨rfl, rfl, rfl, fun _ => rfl⟩, ⟨rfl, rfl, rfl, fun ρ => push_cell f2 _ k2 ρ⟩, ⟨rfl, rfl, rfl, fun _ => rfl⟩, ⟨rfl, rfl, rfl, fun _ => rfl⟩, f2.push_blk [⟨p.pl, 25, p.hp, ir25⟩] rfl c2 k2 (fun _ => rfl), ⟨rfl, rfl, rfl, fun _ => rfl⟩, ⟨rfl, rfl, rfl, fun _ => rfl⟩, trivial⟩
                · have hfl : flatT t = false := hfl
                  conv => whnf
                  refine ⟨44, 45, trB (keyT t), trB (rotT t), by kernel_rfl, keyed3, fun ρ => by rw [keyT_y hsw]; rfl, fun ρ => rfl, key_ok _, ents_ok _, (ents_len _).symm, ents_ne (ents_none hn), ?_⟩
                  conv => whnf
                  refine .inl ?_
                  conv => whnf
                  refine ⟨rfl, ?_⟩
                  conv => whnf
                  refine ⟨OT.app o2 (m := 1) (by omega), fun c2 k2 => ?_⟩
                  conv => whnf
                  refine ⟨[0, 1, 2, 3, 13, 5, 6, 7], [4, 5, 6, 9, 10, 11, 18, 19, 20], [0, 4, 5, 7], fun vs3 => ?_⟩
                  conv => whnf
                  refine ⟨pysC_pure l, pureL_append o2.new.1.pure (fun _ _ => rfl), f2.new.1.pure, q.new.1.pure, ?_⟩
                  conv => whnf
                  refine ⟨_, _, ?_, ?_, (⟨(i + 1, o2.push [t] rfl c2 k2, f2), hF.keep (by omega) hfl (hSo ▸ hn2) (ht ▸ hS ▸ step_new hSk hfl hn2) k2⟩, vs3), (by omega : q.k - (i + 1) < q.k - i), rfl, rfl⟩
                  · exact ⟨fun _ => rfl, fun _ => rfl, fun _ => rfl, fun _ => rfl, fun ρ => o2.push_sl [t] rfl c2 k2 4 ρ, fun _ => rfl, fun _ => rfl, fun _ => rfl, fun _ => rfl, fun _ => rfl, fun _ => rfl, fun ρ => sint_e hw ρ, fun _ => rfl, fun _ => rfl, fun _ => rfl, fun _ => rfl, fun _ => rfl, fun _ => rfl, fun _ => rfl, fun _ => rfl, fun _ => rfl, stm _⟩
                  · exact ⟨⟨rfl, rfl, rfl, fun _ => rfl⟩, ⟨rfl, rfl, rfl, fun _ => rfl⟩, ⟨rfl, rfl, rfl, fun _ => rfl⟩, ⟨maB_push o2 t k2, rfl, rfl, fun _ => rfl⟩, o2.push_blk [t] rfl c2 k2 (fun _ => rfl), ⟨rfl, rfl, rfl, fun _ => rfl⟩, ⟨rfl, rfl, rfl, fun _ => rfl⟩, ⟨rfl, rfl, rfl, fun _ => rfl⟩, trivial⟩
              · obtain ⟨s, hs, rfl⟩ := List.mem_map.1 he
                have hk : keyT s = keyT t := trB_inj hd
                have hs : s ∈ S.out := hSo ▸ hs
                conv => whnf
                refine bcase_intro (fun hfl => ?_) (fun hfl => ?_)
                · have hfl : flatT t = true := hfl
                  conv => whnf
                  refine .inl ?_
                  conv => whnf
                  refine .inl ?_
                  conv => whnf
                  refine ⟨rfl, ?_⟩
                  conv => whnf
                  refine ⟨OF.app f2 (m := 1) (by omega), fun c2 k2 => ?_⟩
                  conv => whnf
                  refine ⟨[0, 1, 2, 3, 4, 13, 6, 7], [4, 5, 6, 9, 10, 11, 18, 19, 20], [0, 4, 5, 7], fun vs3 => ?_⟩
                  conv => whnf
                  refine ⟨pysC_pure l, o2.new.1.pure, pureL_append f2.new.1.pure (fun _ _ => rfl), q.new.1.pure, ?_⟩
                  conv => whnf
                  refine ⟨_, _, ?_, ?_, (⟨(i + 1, o2, f2.push [⟨p.pl, 25, p.hp, ir25⟩] rfl c2 k2), hF.fault (by omega) (ht ▸ hS ▸ step_flat hfl) k2⟩, vs3), (by omega : q.k - (i + 1) < q.k - i), rfl, rfl⟩
                  · exact ⟨fun _ => rfl, fun _ => rfl, fun _ => rfl, fun _ => rfl, fun _ => rfl, fun _ => rfl, fun _ => rfl, fun _ => rfl, fun _ => rfl, fun _ => rfl, fun _ => rfl, fun ρ => sint_e hw ρ, fun _ => rfl, fun _ => rfl, fun _ => rfl, fun _ => rfl, fun _ => rfl, fun _ => rfl, fun _ => rfl, fun _ => rfl, fun _ => rfl, stm _⟩
                  · exact ⟨⟨rfl, rfl, rfl, fun _ => rfl⟩, ⟨rfl, rfl, rfl, fun _ => rfl⟩, ⟨rfl, rfl, rfl, fun ρ => push_cell f2 _ k2 ρ⟩, ⟨rfl, rfl, rfl, fun _ => rfl⟩, ⟨rfl, rfl, rfl, fun _ => rfl⟩, f2.push_blk [⟨p.pl, 25, p.hp, ir25⟩] rfl c2 k2 (fun _ => rfl), ⟨rfl, rfl, rfl, fun _ => rfl⟩, ⟨rfl, rfl, rfl, fun _ => rfl⟩, trivial⟩
                · have hfl : flatT t = false := hfl
                  conv => whnf
                  refine bcase_intro (fun hr => ?_) (fun hr => ?_)
                  · have hr : eqT (rotT s) (rotT t) = true := hr
                    conv => whnf
                    refine .inl ?_
                    conv => whnf
                    refine .inl ?_
                    conv => whnf
                    refine ⟨rfl, ?_⟩
                    conv => whnf
                    refine ⟨OF.app f2 (m := 1) (by omega), fun c2 k2 => ?_⟩
                    conv => whnf
                    refine ⟨[0, 1, 2, 3, 4, 13, 6, 7], [4, 5, 6, 9, 10, 11, 18, 19, 20], [0, 4, 5, 7], fun vs3 => ?_⟩
                    conv => whnf
                    refine ⟨pysC_pure l, o2.new.1.pure, pureL_append f2.new.1.pure (fun _ _ => rfl), q.new.1.pure, ?_⟩
                    conv => whnf
                    refine ⟨_, _, ?_, ?_, (⟨(i + 1, o2, f2.push [⟨p.pl, 24, p.hp, ir24⟩] rfl c2 k2), hF.fault (by omega) (ht ▸ hS ▸ step_same hSk hfl hs hk hr) k2⟩, vs3), (by omega : q.k - (i + 1) < q.k - i), rfl, rfl⟩
                    · exact ⟨fun _ => rfl, fun _ => rfl, fun _ => rfl, fun _ => rfl, fun _ => rfl, fun _ => rfl, fun _ => rfl, fun _ => rfl, fun _ => rfl, fun _ => rfl, fun _ => rfl, fun ρ => sint_e hw ρ, fun _ => rfl, fun _ => rfl, fun _ => rfl, fun _ => rfl, fun _ => rfl, fun _ => rfl, fun _ => rfl, fun _ => rfl, fun _ => rfl, stm _⟩
                    · exact ⟨⟨rfl, rfl, rfl, fun _ => rfl⟩, ⟨rfl, rfl, rfl, fun _ => rfl⟩, ⟨rfl, rfl, rfl, fun ρ => push_cell f2 _ k2 ρ⟩, ⟨rfl, rfl, rfl, fun _ => rfl⟩, ⟨rfl, rfl, rfl, fun _ => rfl⟩, f2.push_blk [⟨p.pl, 24, p.hp, ir24⟩] rfl c2 k2 (fun _ => rfl), ⟨rfl, rfl, rfl, fun _ => rfl⟩, ⟨rfl, rfl, rfl, fun _ => rfl⟩, trivial⟩
                  · have hr : eqT (rotT s) (rotT t) = false := hr
                    conv => whnf
                    refine .inl ?_
                    conv => whnf
                    refine .inl ?_
                    conv => whnf
                    refine ⟨rfl, ?_⟩
                    conv => whnf
                    refine ⟨OF.app f2 (m := 1) (by omega), fun c2 k2 => ?_⟩
                    conv => whnf
                    refine ⟨[0, 1, 2, 3, 4, 13, 6, 7], [4, 5, 6, 9, 10, 11, 18, 19, 20], [0, 4, 5, 7], fun vs3 => ?_⟩
                    conv => whnf
                    refine ⟨pysC_pure l, o2.new.1.pure, pureL_append f2.new.1.pure (fun _ _ => rfl), q.new.1.pure, ?_⟩
                    conv => whnf
                    refine ⟨_, _, ?_, ?_, (⟨(i + 1, o2, f2.push [⟨p.pl, 26, p.hp, ir26⟩] rfl c2 k2), hF.fault (by omega) (ht ▸ hS ▸ step_turn hSk hfl hs hk hr) k2⟩, vs3), (by omega : q.k - (i + 1) < q.k - i), rfl, rfl⟩
                    · exact ⟨fun _ => rfl, fun _ => rfl, fun _ => rfl, fun _ => rfl, fun _ => rfl, fun _ => rfl, fun _ => rfl, fun _ => rfl, fun _ => rfl, fun _ => rfl, fun _ => rfl, fun ρ => sint_e hw ρ, fun _ => rfl, fun _ => rfl, fun _ => rfl, fun _ => rfl, fun _ => rfl, fun _ => rfl, fun _ => rfl, fun _ => rfl, fun _ => rfl, stm _⟩
                    · exact ⟨⟨rfl, rfl, rfl, fun _ => rfl⟩, ⟨rfl, rfl, rfl, fun _ => rfl⟩, ⟨rfl, rfl, rfl, fun ρ => push_cell f2 _ k2 ρ⟩, ⟨rfl, rfl, rfl, fun _ => rfl⟩, ⟨rfl, rfl, rfl, fun _ => rfl⟩, f2.push_blk [⟨p.pl, 26, p.hp, ir26⟩] rfl c2 k2 (fun _ => rfl), ⟨rfl, rfl, rfl, fun _ => rfl⟩, ⟨rfl, rfl, rfl, fun _ => rfl⟩, trivial⟩
            · have hsw : lessZ (rotT t).c.v (rotT t).b.v = false := hsw
              conv => whnf
              refine ⟨44, 45, trB (keyT t), trB trZ, by kernel_rfl, keyed3, fun ρ => by rw [keyT_n hsw]; rfl, key_ok _, ents_ok _, zero_tri, fun hn => ?_, fun e he hd => ?_⟩
              · have hn2 : ∀ s ∈ S.out, keyT s ≠ keyT t := by rw [hSo]; exact ents_none hn
                conv => whnf
                refine bcase_intro (fun hfl => ?_) (fun hfl => ?_)
                · have hfl : flatT t = true := hfl
                  conv => whnf
                  refine .inl ?_
                  conv => whnf
                  refine .inl ?_
                  conv => whnf
                  refine ⟨rfl, ?_⟩
                  conv => whnf
                  refine ⟨OF.app f2 (m := 1) (by omega), fun c2 k2 => ?_⟩
                  conv => whnf
                  refine ⟨[0, 1, 2, 3, 4, 13, 6, 7], [4, 5, 6, 9, 10, 11, 18, 19, 20], [0, 4, 5, 7], fun vs3 => ?_⟩
                  conv => whnf
                  refine ⟨pysC_pure l, o2.new.1.pure, pureL_append f2.new.1.pure (fun _ _ => rfl), q.new.1.pure, ?_⟩
                  conv => whnf
                  refine ⟨_, _, ?_, ?_, (⟨(i + 1, o2, f2.push [⟨p.pl, 25, p.hp, ir25⟩] rfl c2 k2), hF.fault (by omega) (ht ▸ hS ▸ step_flat hfl) k2⟩, vs3), (by omega : q.k - (i + 1) < q.k - i), rfl, rfl⟩
                  · exact ⟨fun _ => rfl, fun _ => rfl, fun _ => rfl, fun _ => rfl, fun _ => rfl, fun _ => rfl, fun _ => rfl, fun _ => rfl, fun _ => rfl, fun _ => rfl, fun _ => rfl, fun ρ => sint_e hw ρ, fun _ => rfl, fun _ => rfl, fun _ => rfl, fun _ => rfl, fun _ => rfl, fun _ => rfl, fun _ => rfl, fun _ => rfl, fun _ => rfl, stm _⟩
                  · exact ⟨⟨rfl, rfl, rfl, fun _ => rfl⟩, ⟨rfl, rfl, rfl, fun _ => rfl⟩, ⟨rfl, rfl, rfl, fun ρ => push_cell f2 _ k2 ρ⟩, ⟨rfl, rfl, rfl, fun _ => rfl⟩, ⟨rfl, rfl, rfl, fun _ => rfl⟩, f2.push_blk [⟨p.pl, 25, p.hp, ir25⟩] rfl c2 k2 (fun _ => rfl), ⟨rfl, rfl, rfl, fun _ => rfl⟩, ⟨rfl, rfl, rfl, fun _ => rfl⟩, trivial⟩
                · have hfl : flatT t = false := hfl
                  conv => whnf
                  refine ⟨44, 45, trB (keyT t), trB (rotT t), by kernel_rfl, keyed3, fun ρ => by rw [keyT_n hsw]; rfl, fun ρ => rfl, key_ok _, ents_ok _, (ents_len _).symm, ents_ne (ents_none hn), ?_⟩
                  conv => whnf
                  refine .inl ?_
                  conv => whnf
                  refine ⟨rfl, ?_⟩
                  conv => whnf
                  refine ⟨OT.app o2 (m := 1) (by omega), fun c2 k2 => ?_⟩
                  conv => whnf
                  refine ⟨[0, 1, 2, 3, 13, 5, 6, 7], [4, 5, 6, 9, 10, 11, 18, 19, 20], [0, 4, 5, 7], fun vs3 => ?_⟩
                  conv => whnf
                  refine ⟨pysC_pure l, pureL_append o2.new.1.pure (fun _ _ => rfl), f2.new.1.pure, q.new.1.pure, ?_⟩
                  conv => whnf
                  refine ⟨_, _, ?_, ?_, (⟨(i + 1, o2.push [t] rfl c2 k2, f2), hF.keep (by omega) hfl (hSo ▸ hn2) (ht ▸ hS ▸ step_new hSk hfl hn2) k2⟩, vs3), (by omega : q.k - (i + 1) < q.k - i), rfl, rfl⟩
                  · exact ⟨fun _ => rfl, fun _ => rfl, fun _ => rfl, fun _ => rfl, fun ρ => o2.push_sl [t] rfl c2 k2 4 ρ, fun _ => rfl, fun _ => rfl, fun _ => rfl, fun _ => rfl, fun _ => rfl, fun _ => rfl, fun ρ => sint_e hw ρ, fun _ => rfl, fun _ => rfl, fun _ => rfl, fun _ => rfl, fun _ => rfl, fun _ => rfl, fun _ => rfl, fun _ => rfl, fun _ => rfl, stm _⟩
                  · exact ⟨⟨rfl, rfl, rfl, fun _ => rfl⟩, ⟨rfl, rfl, rfl, fun _ => rfl⟩, ⟨rfl, rfl, rfl, fun _ => rfl⟩, ⟨maB_push o2 t k2, rfl, rfl, fun _ => rfl⟩, o2.push_blk [t] rfl c2 k2 (fun _ => rfl), ⟨rfl, rfl, rfl, fun _ => rfl⟩, ⟨rfl, rfl, rfl, fun _ => rfl⟩, ⟨rfl, rfl, rfl, fun _ => rfl⟩, trivial⟩
              · obtain ⟨s, hs, rfl⟩ := List.mem_map.1 he
                have hk : keyT s = keyT t := trB_inj hd
                have hs : s ∈ S.out := hSo ▸ hs
                conv => whnf
                refine bcase_intro (fun hfl => ?_) (fun hfl => ?_)
                · have hfl : flatT t = true := hfl
                  conv => whnf
                  refine .inl ?_
                  conv => whnf
                  refine .inl ?_
                  conv => whnf
                  refine ⟨rfl, ?_⟩
                  conv => whnf
                  refine ⟨OF.app f2 (m := 1) (by omega), fun c2 k2 => ?_⟩
                  conv => whnf
                  refine ⟨[0, 1, 2, 3, 4, 13, 6, 7], [4, 5, 6, 9, 10, 11, 18, 19, 20], [0, 4, 5, 7], fun vs3 => ?_⟩
                  conv => whnf
                  refine ⟨pysC_pure l, o2.new.1.pure, pureL_append f2.new.1.pure (fun _ _ => rfl), q.new.1.pure, ?_⟩
                  conv => whnf
                  refine ⟨_, _, ?_, ?_, (⟨(i + 1, o2, f2.push [⟨p.pl, 25, p.hp, ir25⟩] rfl c2 k2), hF.fault (by omega) (ht ▸ hS ▸ step_flat hfl) k2⟩, vs3), (by omega : q.k - (i + 1) < q.k - i), rfl, rfl⟩
                  · exact ⟨fun _ => rfl, fun _ => rfl, fun _ => rfl, fun _ => rfl, fun _ => rfl, fun _ => rfl, fun _ => rfl, fun _ => rfl, fun _ => rfl, fun _ => rfl, fun _ => rfl, fun ρ => sint_e hw ρ, fun _ => rfl, fun _ => rfl, fun _ => rfl, fun _ => rfl, fun _ => rfl, fun _ => rfl, fun _ => rfl, fun _ => rfl, fun _ => rfl, stm _⟩
                  · exact ⟨⟨rfl, rfl, rfl, fun _ => rfl⟩, ⟨rfl, rfl, rfl, fun _ => rfl⟩, ⟨rfl, rfl, rfl, fun ρ => push_cell f2 _ k2 ρ⟩, ⟨rfl, rfl, rfl, fun _ => rfl⟩, ⟨rfl, rfl, rfl, fun _ => rfl⟩, f2.push_blk [⟨p.pl, 25, p.hp, ir25⟩] rfl c2 k2 (fun _ => rfl), ⟨rfl, rfl, rfl, fun _ => rfl⟩, ⟨rfl, rfl, rfl, fun _ => rfl⟩, trivial⟩
                · have hfl : flatT t = false := hfl
                  conv => whnf
                  refine bcase_intro (fun hr => ?_) (fun hr => ?_)
                  · have hr : eqT (rotT s) (rotT t) = true := hr
                    conv => whnf
                    refine .inl ?_
                    conv => whnf
                    refine .inl ?_
                    conv => whnf
                    refine ⟨rfl, ?_⟩
                    conv => whnf
                    refine ⟨OF.app f2 (m := 1) (by omega), fun c2 k2 => ?_⟩
                    conv => whnf
                    refine ⟨[0, 1, 2, 3, 4, 13, 6, 7], [4, 5, 6, 9, 10, 11, 18, 19, 20], [0, 4, 5, 7], fun vs3 => ?_⟩
                    conv => whnf
                    refine ⟨pysC_pure l, o2.new.1.pure, pureL_append f2.new.1.pure (fun _ _ => rfl), q.new.1.pure, ?_⟩
                    conv => whnf
                    refine ⟨_, _, ?_, ?_, (⟨(i + 1, o2, f2.push [⟨p.pl, 24, p.hp, ir24⟩] rfl c2 k2), hF.fault (by omega) (ht ▸ hS ▸ step_same hSk hfl hs hk hr) k2⟩, vs3), (by omega : q.k - (i + 1) < q.k - i), rfl, rfl⟩
                    · exact ⟨fun _ => rfl, fun _ => rfl, fun _ => rfl, fun _ => rfl, fun _ => rfl, fun _ => rfl, fun _ => rfl, fun _ => rfl, fun _ => rfl, fun _ => rfl, fun _ => rfl, fun ρ => sint_e hw ρ, fun _ => rfl, fun _ => rfl, fun _ => rfl, fun _ => rfl, fun _ => rfl, fun _ => rfl, fun _ => rfl, fun _ => rfl, fun _ => rfl, stm _⟩
                    · exact ⟨⟨rfl, rfl, rfl, fun _ => rfl⟩, ⟨rfl, rfl, rfl, fun _ => rfl⟩, ⟨rfl, rfl, rfl, fun ρ => push_cell f2 _ k2 ρ⟩, ⟨rfl, rfl, rfl, fun _ => rfl⟩, ⟨rfl, rfl, rfl, fun _ => rfl⟩, f2.push_blk [⟨p.pl, 24, p.hp, ir24⟩] rfl c2 k2 (fun _ => rfl), ⟨rfl, rfl, rfl, fun _ => rfl⟩, ⟨rfl, rfl, rfl, fun _ => rfl⟩, trivial⟩
                  · have hr : eqT (rotT s) (rotT t) = false := hr
                    conv => whnf
                    refine .inl ?_
                    conv => whnf
                    refine .inl ?_
                    conv => whnf
                    refine ⟨rfl, ?_⟩
                    conv => whnf
                    refine ⟨OF.app f2 (m := 1) (by omega), fun c2 k2 => ?_⟩
                    conv => whnf
                    refine ⟨[0, 1, 2, 3, 4, 13, 6, 7], [4, 5, 6, 9, 10, 11, 18, 19, 20], [0, 4, 5, 7], fun vs3 => ?_⟩
                    conv => whnf
                    refine ⟨pysC_pure l, o2.new.1.pure, pureL_append f2.new.1.pure (fun _ _ => rfl), q.new.1.pure, ?_⟩
                    conv => whnf
                    refine ⟨_, _, ?_, ?_, (⟨(i + 1, o2, f2.push [⟨p.pl, 26, p.hp, ir26⟩] rfl c2 k2), hF.fault (by omega) (ht ▸ hS ▸ step_turn hSk hfl hs hk hr) k2⟩, vs3), (by omega : q.k - (i + 1) < q.k - i), rfl, rfl⟩
                    · exact ⟨fun _ => rfl, fun _ => rfl, fun _ => rfl, fun _ => rfl, fun _ => rfl, fun _ => rfl, fun _ => rfl, fun _ => rfl, fun _ => rfl, fun _ => rfl, fun _ => rfl, fun ρ => sint_e hw ρ, fun _ => rfl, fun _ => rfl, fun _ => rfl, fun _ => rfl, fun _ => rfl, fun _ => rfl, fun _ => rfl, fun _ => rfl, fun _ => rfl, stm _⟩
                    · exact ⟨⟨rfl, rfl, rfl, fun _ => rfl⟩, ⟨rfl, rfl, rfl, fun _ => rfl⟩, ⟨rfl, rfl, rfl, fun ρ => push_cell f2 _ k2 ρ⟩, ⟨rfl, rfl, rfl, fun _ => rfl⟩, ⟨rfl, rfl, rfl, fun _ => rfl⟩, f2.push_blk [⟨p.pl, 26, p.hp, ir26⟩] rfl c2 k2 (fun _ => rfl), ⟨rfl, rfl, rfl, fun _ => rfl⟩, ⟨rfl, rfl, rfl, fun _ => rfl⟩, trivial⟩
          · have hi2 : i + 2 = q.k := by have h := of_decide_eq_false h2; rw [hw] at h; omega
            have hst : polyT (healT (l.take k)) p = fanT p.pl p.hp q.l (healT (l.take k)) i := by unfold polyT; rw [if_neg (by rw [hcl]; omega), hcl, show q.k - 2 = i by omega, ← show q.l = cleanP p.cor from hq]
            conv => whnf
            refine ⟨[0, 1, 2, 3, 4, 5], [4, 5, 6, 18, 19, 20], [0, 4, 5], fun vs3 => ?_⟩
            conv => whnf
            refine ⟨pysC_pure l, o2.new.1.pure, f2.new.1.pure, ?_⟩
            conv => whnf
            refine ⟨_, _, ?_, ?_, (⟨(k + 1, o2, f2), hI.next hlt (hp ▸ hst) hF (by omega)⟩, vs3), (by omega : l.length - (k + 1) < l.length - k), rfl, rfl⟩
            · exact ⟨fun _ => rfl, fun _ => rfl, fun _ => rfl, fun _ => rfl, fun _ => rfl, fun _ => rfl, fun _ => rfl, fun _ => rfl, fun _ => rfl, fun _ => rfl, fun _ => rfl, fun _ => rfl, fun _ => rfl, fun _ => rfl, fun _ => rfl, fun _ => rfl, fun _ => rfl, fun _ => rfl, fun _ => rfl, fun _ => rfl, fun ρ => sint_e (wrap_add1 hlt hl.ir) ρ, stm _⟩
            · exact ⟨⟨rfl, rfl, rfl, fun _ => rfl⟩, ⟨rfl, rfl, rfl, fun _ => rfl⟩, ⟨rfl, rfl, rfl, fun _ => rfl⟩, ⟨rfl, rfl, rfl, fun _ => rfl⟩, ⟨rfl, rfl, rfl, fun _ => rfl⟩, ⟨rfl, rfl, rfl, fun _ => rfl⟩, trivial⟩
    · have hkk : k = l.length := Nat.le_antisymm hI.hk (n_ge hlt)
      conv => whnf
      refine ⟨[0, 1, 4, 5], [0, 2, 3], fun vs2 => ?_⟩
      conv => whnf
      refine ⟨pysC_pure l, o.new.1.pure, f.new.1.pure, ?_⟩
      conv => whnf
      exact ⟨_, [o.blk, f.blk], rfl, ⟨⟨rfl, rfl, rfl, fun _ => rfl⟩, ⟨rfl, rfl, rfl, fun _ => rfl⟩, ⟨rfl, rfl, rfl, fun _ => rfl⟩, ⟨rfl, rfl, rfl, fun _ => rfl⟩, trivial⟩, ⟨o.new, f.new, trivial⟩, .tup [o.t1 2, f.t1 3], fun _ => rfl, hc o f (by rw [hI.out, hkk, List.take_length]) (by rw [hI.bad, hkk, List.take_length])⟩
end Go.Proofs.YtdjpbccaglkafaaDoor
