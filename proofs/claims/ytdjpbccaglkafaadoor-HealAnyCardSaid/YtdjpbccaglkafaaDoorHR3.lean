/- law 05: the reference's Heal. -/
import Derived.Test.YtdjpbccaglkafaaDoorHR2
namespace Go.Proofs.YtdjpbccaglkafaaDoor
open Go.RowKit
set_option maxRecDepth 100000

def clK : List (FuncId × NewC) := [(35, cClean), (36, cKind)]
theorem clK_ok : AllC Tryd.prog clK := .cons csCleanR <| .cons csKind .nil
theorem pys_split (l : List PY) {k : Nat} (hk : k < l.length) : pysC l = pysC (l.take k) ++ ([.val l[k].val] ++ ([.int l[k].pl l[k].hp] ++ pysC (l.drop (k + 1)))) := by
  have h : l = l.take k ++ (l[k] :: l.drop (k + 1)) := by rw [← List.drop_eq_getElem_cons hk, List.take_append_drop]
  conv => lhs; rw [h]
  rw [pysC_append]; rfl
theorem pys_len (l : List PY) {k : Nat} (hk : k < l.length) : sizeC (pysC (l.take k)) = 0 + k * 2 + 0 := by rw [pysC_size, List.length_take]; omega
theorem py_a (l : List PY) {k : Nat} (hk : k < l.length) : subC (pysC l) (0 + k * 2 + 0) 1 = some [.val l[k].val] := by
  rw [← pys_len l hk, pys_split l hk]
  exact subC_app _ [.val l[k].val] _
theorem py_b (l : List PY) {k : Nat} (hk : k < l.length) : subC (pysC l) (0 + k * 2 + 1) 1 = some [.int l[k].pl l[k].hp] := by
  have e : 0 + k * 2 + 1 = sizeC (pysC (l.take k) ++ [.val l[k].val]) := by rw [sizeC_append, pys_len l hk]; rfl
  rw [e, pys_split l hk, ← List.append_assoc]
  exact subC_app _ [.int l[k].pl l[k].hp] _
theorem step_zero {pl : Int} {hp : IR pl} {st : SH} {t : TR} (h : kindZ t st.out = 0) : stepT pl hp st t = ⟨st.out ++ [t], st.bad⟩ := by
  unfold kindZ at h
  unfold stepT
  split at h
  · cases h
  · split at h
    · cases h
    · split at h
      · cases h
      · rename_i h1 h2 h3
        rw [if_neg h1, if_neg h2, if_neg h3]
theorem step_kind {pl : Int} {hp : IR pl} {st : SH} {t : TR} (h : kindZ t st.out ≠ 0) : stepT pl hp st t = st.fault pl hp (kindZ t st.out) (ir_kind t st.out) := by
  unfold stepT
  by_cases h1 : flatT t = true
  · have e : kindZ t st.out = 25 := by unfold kindZ; rw [if_pos h1]
    rw [if_pos h1]; simp only [e]
  · by_cases h2 : firstAl t st.out = 1
    · have e : kindZ t st.out = 24 := by unfold kindZ; rw [if_neg h1, if_pos h2]
      rw [if_neg h1, if_pos h2]; simp only [e]
    · by_cases h3 : firstAl t st.out = 2
      · have e : kindZ t st.out = 26 := by unfold kindZ; rw [if_neg h1, if_neg h2, if_pos h3]
        rw [if_neg h1, if_neg h2, if_pos h3]; simp only [e]
      · exact absurd (show kindZ t st.out = 0 by unfold kindZ; rw [if_neg h1, if_neg h2, if_neg h3]) h
structure HrI (l : List PY) (k : Nat) (o : OT) (f : OF) : Prop where
  hk : k ≤ l.length
  out : o.l = (healT (l.take k)).out
  bad : f.l = (healT (l.take k)).bad
  len : o.l.length + f.l.length ≤ 1001 * k
theorem HrI.zero (l : List PY) : HrI l 0 OT.none OF.none := ⟨Nat.zero_le _, rfl, rfl, Nat.le_refl _⟩
structure FbI (pl : Int) (hp : IR pl) (c : List PT) (st : SH) (i : Nat) (o : OT) (f : OF) : Prop where
  hi : i + 2 ≤ c.length
  out : o.l = (fanT pl hp c st i).out
  bad : f.l = (fanT pl hp c st i).bad
  len : o.l.length + f.l.length ≤ st.out.length + st.bad.length + i
theorem HrI.fault {l : List PY} {k : Nat} {o : OT} {f : OF} (h : HrI l k o f) (hlt : k < l.length) {pl kd : Int} {hp : IR pl} {hk : IR kd} (hs : polyT (healT (l.take k)) l[k] = (healT (l.take k)).fault pl hp kd hk) {c2 : Nat} (k2 : SliOk (f.nl && decide (1 = 0)) (f.l.length + 1) c2) : HrI l (k + 1) o (f.push [⟨pl, kd, hp, hk⟩] rfl c2 k2) := by
  refine ⟨hlt, ?_, ?_, ?_⟩
  · rw [heal_take l hlt, hs]; exact h.out
  · rw [heal_take l hlt, hs]; show f.l ++ _ = _ ++ _; rw [h.bad]
  · have := h.len; show o.l.length + (f.l ++ [_]).length ≤ _; rw [List.length_append]; simp; omega
theorem HrI.start {l : List PY} {k : Nat} {o : OT} {f : OF} (h : HrI l k o f) {pl : Int} {hp : IR pl} {c : List PT} (hc : 2 ≤ c.length) : FbI pl hp c (healT (l.take k)) 0 o f :=
  ⟨hc, h.out, h.bad, by rw [← h.out, ← h.bad]; exact Nat.le_refl _⟩
theorem HrI.next {l : List PY} {k : Nat} {o o2 : OT} {f f2 : OF} (h : HrI l k o f) (hlt : k < l.length) {pl : Int} {hp : IR pl} {c : List PT} {i : Nat} (hs : polyT (healT (l.take k)) l[k] = fanT pl hp c (healT (l.take k)) i) (hF : FbI pl hp c (healT (l.take k)) i o2 f2) (hi : i ≤ 1000) : HrI l (k + 1) o2 f2 := by
  refine ⟨hlt, ?_, ?_, ?_⟩
  · rw [heal_take l hlt, hs]; exact hF.out
  · rw [heal_take l hlt, hs]; exact hF.bad
  · have h1 := hF.len; have h2 := h.len; rw [← h.out, ← h.bad] at h1; omega
theorem FbI.fault {pl : Int} {hp : IR pl} {c : List PT} {st : SH} {i : Nat} {o : OT} {f : OF} (h : FbI pl hp c st i o f) (hi : i + 1 + 2 ≤ c.length) (hs : kindZ (triK c i) o.l ≠ 0) {hk : IR (kindZ (triK c i) o.l)} {c2 : Nat} (k2 : SliOk (f.nl && decide (1 = 0)) (f.l.length + 1) c2) : FbI pl hp c st (i + 1) o (f.push [⟨pl, kindZ (triK c i) o.l, hp, hk⟩] rfl c2 k2) := by
  have e : stepT pl hp (fanT pl hp c st i) (triK c i) = (fanT pl hp c st i).fault pl hp (kindZ (triK c i) o.l) hk := by
    have ho := h.out
    have hs2 : kindZ (triK c i) (fanT pl hp c st i).out ≠ 0 := by rw [← ho]; exact hs
    rw [step_kind hs2]
    unfold SH.fault
    simp only [ho]
  refine ⟨hi, ?_, ?_, ?_⟩
  · show o.l = (stepT pl hp (fanT pl hp c st i) (triK c i)).out; rw [e]; exact h.out
  · show f.l ++ _ = (stepT pl hp (fanT pl hp c st i) (triK c i)).bad; rw [e, h.bad]; rfl
  · have := h.len; show o.l.length + (f.l ++ [_]).length ≤ _; rw [List.length_append]; simp; omega
theorem FbI.keep {pl : Int} {hp : IR pl} {c : List PT} {st : SH} {i : Nat} {o : OT} {f : OF} (h : FbI pl hp c st i o f) (hi : i + 1 + 2 ≤ c.length) (hs : kindZ (triK c i) o.l = 0) {c2 : Nat} (k2 : SliOk (o.nl && decide (1 = 0)) (o.l.length + 1) c2) : FbI pl hp c st (i + 1) (o.push [triK c i] rfl c2 k2) f := by
  have e : stepT pl hp (fanT pl hp c st i) (triK c i) = ⟨(fanT pl hp c st i).out ++ [triK c i], (fanT pl hp c st i).bad⟩ := step_zero (by rw [← h.out]; exact hs)
  refine ⟨hi, ?_, ?_, ?_⟩
  · show o.l ++ _ = (stepT pl hp (fanT pl hp c st i) (triK c i)).out; rw [e, h.out]
  · show f.l = (stepT pl hp (fanT pl hp c st i) (triK c i)).bad; rw [e, h.bad]
  · have := h.len; show (o.l ++ [_]).length + f.l.length ≤ _; rw [List.length_append]; simp; omega
theorem ht_fault {pl : Int} {hp : IR pl} {c : List PT} {st : SH} {i : Nat} {o : OT} {f : OF} {t : TR} (ht : t = triK c i) (h : FbI pl hp c st i o f) (hi : i + 1 + 2 ≤ c.length) (hs : kindZ t o.l ≠ 0) {c2 : Nat} (k2 : SliOk (f.nl && decide (1 = 0)) (f.l.length + 1) c2) : FbI pl hp c st (i + 1) o (f.push [⟨pl, kindZ t o.l, hp, ir_kind t o.l⟩] rfl c2 k2) := by
  subst ht; exact h.fault hi hs k2
set_option maxHeartbeats 16000000 in
theorem csHealR : CSpX Tryd.prog 26 cHeal := csp_ofX (envH_ok baseH_ok .nil 0) mixed (himp_ok (mix_ok clK_ok (envH_ok baseH_ok .nil 0) mixed noF_ok 0) 1) ⟨Tryd.func26, by kernel_rfl, by kernel_rfl⟩ fun args ros K hc => by
  obtain ⟨nl, cap, ty, fam, l, hl, rfl, rfl, hpy, hc⟩ := hc
  refine ⟨fun ρ ρ' e => ?_, ?_⟩
  · have := e 0 (Nat.zero_lt_succ _)
    simp only [List.map, SV.den, C.den, C.cells, this]
  conv => whnf
  refine loop_st (G := {g : Nat × OT × OF // HrI l g.1 g.2.1 g.2.2} × (Nat → Value)) (fun g => (.c (.sli nl 0 0 l.length cap hl) :: .c (.val (g.2 1)) :: .c (.val (g.2 2)) :: .c (.val (g.2 3)) :: g.1.1.2.1.sl 2 :: g.1.1.2.2.sl 3 :: .c (.int (g.1.1.1 : Nat) (ir_k g.1.2.hk hpy.1)) :: .c (.val (g.2 7)) :: .c (.val (g.2 8)) :: .c (.val (g.2 9)) :: .c (.val (g.2 10)) :: .c (.val (g.2 11)) :: .c (.val (g.2 12)) :: .c (.val (g.2 13)) :: .c (.val (g.2 14)) :: .c (.val (g.2 15)) :: .c (.val (g.2 16)) :: .c (.val (g.2 17)) :: .c (.val (g.2 18)) :: .c (.val (g.2 19)) :: .c (.val (g.2 20)) :: .c (.val (g.2 21)) :: .c (.val (g.2 22)) :: .c (.val (g.2 23)) :: .c (.val (g.2 24)) :: .c (.val (g.2 25)) :: .c (.val (g.2 26)) :: .c (.val (g.2 27)) :: .c (.val (g.2 28)) :: .c (.val (g.2 29)) :: .c (.val (g.2 30)) :: .c (.val (g.2 31)) :: .c (.val (g.2 32)) :: .c (.val (g.2 33)) :: .c (.val (g.2 34)) :: .c (.val (g.2 35)) :: .c (.val (g.2 36)) :: .c (.val (g.2 37)) :: .c (.val (g.2 38)) :: .c (.val (g.2 39)) :: .c (.val (g.2 40)) :: .c (.val (g.2 41)) :: .c (.val (g.2 42)) :: .c (.val (g.2 43)) :: .c (.val (g.2 44)) :: .c (.val (g.2 45)) :: .c (.val (g.2 46)) :: .c (.val (g.2 47)) :: .c (.val (g.2 48)) :: .c (.val (g.2 49)) :: .c (.val (g.2 50)) :: .c (.val (g.2 51)) :: .c (.val (g.2 52)) :: .c (.val (g.2 53)) :: .c (.val (g.2 54)) :: .c (.val (g.2 55)) :: .c (.val (g.2 56)) :: .c (.val (g.2 57)) :: .c (.val (g.2 58)) :: .c (.val (g.2 59)) :: .c (.val (g.2 60)) :: .c (.val (g.2 61)) :: .c (.val (g.2 62)) :: .c (.val (g.2 63)) :: .c (.val (g.2 64)) :: .c (.val (g.2 65)) :: .c (.val (g.2 66)) :: .c (.val (g.2 67)) :: .c (.val (g.2 68)) :: .c (.val (g.2 69)) :: .c (.val (g.2 70)) :: .c (.val (g.2 71)) :: .c (.val (g.2 72)) :: .c (.val (g.2 73)) :: .c (.val (g.2 74)) :: .c (.val (g.2 75)) :: [])) (fun g => [⟨.t ty, true, pysC l, 0⟩, ⟨.x fam, true, [], 3⟩, g.1.1.2.1.blk, g.1.1.2.2.blk]) (fun g => l.length - g.1.1.1) ?_ ?_
  · refine ⟨[0, 1, 1000 + 45, 1000 + 43], [0, 4, 5, 6], [0], fun vs => ?_⟩
    conv => whnf
    refine ⟨pysC_pure l, ?_⟩
    conv => whnf
    refine ⟨_, _, ?_, ?_, (⟨(0, OT.none, OF.none), HrI.zero l⟩, vs), rfl, rfl⟩
    · exact ⟨fun _ => rfl, fun _ => rfl, fun _ => rfl, fun _ => rfl, fun _ => rfl, fun _ => rfl, fun _ => rfl, stm _⟩
    · exact ⟨⟨rfl, rfl, rfl, fun _ => rfl⟩, ⟨rfl, rfl, rfl, fun _ => rfl⟩, ⟨rfl, rfl, rfl, fun _ => rfl⟩, ⟨rfl, rfl, rfl, fun _ => rfl⟩, trivial⟩
  · rintro ⟨⟨⟨k, o, f⟩, hI⟩, vs⟩
    have hI : HrI l k o f := hI
    dsimp only
    conv => whnf
    refine bcase_intro (fun hlt => ?_) (fun hlt => ?_)
    · have hlt : k < l.length := n_lt hlt
      conv => whnf
      obtain ⟨p, hp⟩ : ∃ p, p = l[k] := ⟨_, rfl⟩
      have hpm := hpy.2 p (hp ▸ List.getElem_mem hlt)
      have pa : subC (pysC l) (0 + k * 2 + 0) 1 = some [.val p.val] := by subst hp; exact py_a l hlt
      have pb : subC (pysC l) (0 + k * 2 + 1) 1 = some [.int p.pl p.hp] := by subst hp; exact py_b l hlt
      conv => whnf
      conv =>
        arg 2
        tactic' =>
          apply eff_index_sli (k := k) (hi := ir_k hI.hk hpy.1) (ho := ?how14) (hT := ?hTw14) (hx := ?hxw14) (hk := ?hkw14) (hlt := ?hltw14)
          case how14 => rfl
          case hTw14 => rfl
          case hxw14 => rfl
          case hkw14 => rfl
          case hltw14 => exact hlt
      conv => whnf
      conv =>
        arg 2
        tactic' =>
          apply eff_load_sub (ho := ?how15) (hT := ?hTw15) (hx := ?hxw15) (hb := ?hbw15) (hm := ?hmw15) (hv := ?hvw15)
          case how15 => rfl
          case hTw15 => rfl
          case hxw15 => rfl
          case hbw15 => rfl
          case hmw15 => exact pa
          case hvw15 => rfl
      conv => whnf
      refine .inr ⟨0, ?_⟩
      conv => whnf
      refine ⟨p.nl, p.r, p.o, p.len, p.cap, p.ok, 34, ptsC p.full, 1, rfl, in_fam hpm.2 rfl rfl, ?_⟩
      conv => whnf
      refine ⟨⟨ptsC_pure _, trivial⟩, ⟨_, _, _, _, _, _, rfl, rfl, p.hl, Nat.le_trans hpm.1 (by decide), fun q hq => ?_⟩⟩
      have hcl : (cleanP p.cor).length = q.k := by rw [← show q.l = cleanP p.cor from hq]; unfold OQ.l; rw [List.length_take]; have := q.hk; omega
      have hql : q.l.length = q.k := by unfold OQ.l; rw [List.length_take]; have := q.hk; omega
      have hqb : q.k ≤ 1000 := by
        have h1 := clean_len p.cor
        have h2 : p.cor.length ≤ p.len := by unfold PY.cor; rw [List.length_take]; omega
        omega
      have hln : o.l.length + f.l.length ≤ 1001000 := Nat.le_trans hI.len (by have := hpy.1; omega)
      conv => whnf
      refine bcase_intro (fun hq3 => ?_) (fun hq3 => ?_)
      · have hq3 : q.k < 3 := by have h : ((q.k : Nat) : Int) < 3 := of_decide_eq_true hq3; omega
        have hst : polyT (healT (l.take k)) p = (healT (l.take k)).fault p.pl p.hp 25 ir25 := by unfold polyT; rw [if_pos (by rw [hcl]; exact hq3)]
        conv => whnf
        conv =>
          arg 2
          tactic' =>
            apply eff_index_sli (k := k) (hi := ir_k hI.hk hpy.1) (ho := ?how16) (hT := ?hTw16) (hx := ?hxw16) (hk := ?hkw16) (hlt := ?hltw16)
            case how16 => rfl
            case hTw16 => rfl
            case hxw16 => rfl
            case hkw16 => rfl
            case hltw16 => exact hlt
        conv => whnf
        conv =>
          arg 2
          tactic' =>
            apply eff_load_sub (ho := ?how17) (hT := ?hTw17) (hx := ?hxw17) (hb := ?hbw17) (hm := ?hmw17) (hv := ?hvw17)
            case how17 => rfl
            case hTw17 => rfl
            case hxw17 => rfl
            case hbw17 => rfl
            case hmw17 => exact pb
            case hvw17 => rfl
        conv => whnf
        refine .inl ?_
        conv => whnf
        refine ⟨rfl, ?_⟩
        conv => whnf
        refine ⟨OF.app f (m := 1) (by omega), fun c2 k2 => ?_⟩
        conv => whnf
        refine .inl ⟨1, ?_⟩
        conv => whnf
        refine bcase_intro (fun h => absurd (of_decide_eq_true h) (by rw [show IntKind.i64.wrap (1 + 1) = 2 by decide]; omega)) (fun _ => ?_)
        conv => whnf
        refine ⟨[0, 1, 2, 7], [0, 4, 5, 6], [0, 2, 3], fun vs3 => ?_⟩
        conv => whnf
        refine ⟨pysC_pure l, o.new.1.pure, pureL_append f.new.1.pure (fun _ _ => rfl), ?_⟩
        conv => whnf
        refine ⟨_, _, ?_, ?_, (⟨(k + 1, o, f.push [⟨p.pl, 25, p.hp, ir25⟩] rfl c2 k2), hI.fault hlt (hp ▸ hst) k2⟩, vs3), (by omega : l.length - (k + 1) < l.length - k), rfl, rfl⟩
        · exact ⟨fun _ => rfl, fun _ => rfl, fun _ => rfl, fun _ => rfl, fun _ => rfl, fun ρ => f.push_sl (n := 1) [⟨p.pl, 25, p.hp, ir25⟩] rfl c2 k2 3 ρ, fun ρ => sint_e (wrap_add1 hlt hl.ir) ρ, stm _⟩
        · exact ⟨⟨rfl, rfl, rfl, fun _ => rfl⟩, ⟨rfl, rfl, rfl, fun _ => rfl⟩, ⟨rfl, rfl, rfl, fun _ => rfl⟩, f.push_blk (n := 1) [⟨p.pl, 25, p.hp, ir25⟩] rfl c2 k2 (fun _ => rfl), trivial⟩
      · have hq3 : 3 ≤ q.k := by have h : ¬ ((q.k : Nat) : Int) < 3 := of_decide_eq_false hq3; omega
        conv => whnf
        refine loop_st (G := {g : Nat × OT × OF // FbI p.pl p.hp q.l (healT (l.take k)) g.1 g.2.1 g.2.2} × (Nat → Value)) (fun g => (.c (.sli nl 0 0 l.length cap hl) :: .c (.val (g.2 1)) :: .c (.val (g.2 2)) :: .c (.val (g.2 3)) :: g.1.1.2.1.sl 2 :: g.1.1.2.2.sl 3 :: .c (.int (k : Nat) (ir_k hI.hk hpy.1)) :: q.sl 4 :: .c (.int ((g.1.1.1 + 1 : Nat)) (ir_i g.1.2.hi hql hqb)) :: .c (.val (g.2 9)) :: .c (.val (g.2 10)) :: .c (.val (g.2 11)) :: .c (.val (g.2 12)) :: .c (.val (g.2 13)) :: .c (.val (g.2 14)) :: .c (.val (g.2 15)) :: .c (.val (g.2 16)) :: .c (.val (g.2 17)) :: .c (.val (g.2 18)) :: .c (.val (g.2 19)) :: .c (.val (g.2 20)) :: .c (.val (g.2 21)) :: .c (.val (g.2 22)) :: .c (.val (g.2 23)) :: .c (.val (g.2 24)) :: .c (.val (g.2 25)) :: .c (.val (g.2 26)) :: .c (.val (g.2 27)) :: .c (.val (g.2 28)) :: .c (.val (g.2 29)) :: .c (.val (g.2 30)) :: .c (.val (g.2 31)) :: .c (.val (g.2 32)) :: .c (.val (g.2 33)) :: .c (.val (g.2 34)) :: .c (.val (g.2 35)) :: .c (.val (g.2 36)) :: .c (.val (g.2 37)) :: .c (.val (g.2 38)) :: .c (.val (g.2 39)) :: .c (.val (g.2 40)) :: .c (.val (g.2 41)) :: .c (.val (g.2 42)) :: .c (.val (g.2 43)) :: .c (.val (g.2 44)) :: .c (.val (g.2 45)) :: .c (.val (g.2 46)) :: .c (.val (g.2 47)) :: .c (.val (g.2 48)) :: .c (.val (g.2 49)) :: .c (.val (g.2 50)) :: .c (.val (g.2 51)) :: .c (.val (g.2 52)) :: .c (.val (g.2 53)) :: .c (.val (g.2 54)) :: .c (.val (g.2 55)) :: .c (.val (g.2 56)) :: .c (.val (g.2 57)) :: .c (.val (g.2 58)) :: .c (.val (g.2 59)) :: .c (.val (g.2 60)) :: .c (.val (g.2 61)) :: .c (.val (g.2 62)) :: .c (.val (g.2 63)) :: .c (.val (g.2 64)) :: .c (.val (g.2 65)) :: .c (.val (g.2 66)) :: .c (.val (g.2 67)) :: .c (.val (g.2 68)) :: .c (.val (g.2 69)) :: .c (.val (g.2 70)) :: .c (.val (g.2 71)) :: .c (.val (g.2 72)) :: .c (.val (g.2 73)) :: .c (.val (g.2 74)) :: .c (.val (g.2 75)) :: [])) (fun g => [⟨.t ty, true, pysC l, 0⟩, ⟨.x fam, true, [], 3⟩, g.1.1.2.1.blk, g.1.1.2.2.blk, q.blk]) (fun g => q.k - g.1.1.1) ?_ ?_
        · refine ⟨[0, 1, 2, 3, 5], [0, 4, 5, 6, 7, 8], [0, 2, 3, 4], fun vs2 => ?_⟩
          conv => whnf
          refine ⟨pysC_pure l, o.new.1.pure, f.new.1.pure, q.new.1.pure, ?_⟩
          conv => whnf
          refine ⟨_, _, ?_, ?_, (⟨(0, o, f), hI.start (by omega)⟩, vs2), rfl, rfl⟩
          · exact ⟨fun _ => rfl, fun _ => rfl, fun _ => rfl, fun _ => rfl, fun _ => rfl, fun _ => rfl, fun _ => rfl, fun _ => rfl, fun _ => rfl, stm _⟩
          · exact ⟨⟨rfl, rfl, rfl, fun _ => rfl⟩, ⟨rfl, rfl, rfl, fun _ => rfl⟩, ⟨rfl, rfl, rfl, fun _ => rfl⟩, ⟨rfl, rfl, rfl, fun _ => rfl⟩, ⟨rfl, rfl, rfl, fun _ => rfl⟩, trivial⟩
        · rintro ⟨⟨⟨i, o2, f2⟩, hF⟩, vs2⟩
          have hF : FbI p.pl p.hp q.l (healT (l.take k)) i o2 f2 := hF
          have hi := hF.hi
          have hln2 : o2.l.length + f2.l.length ≤ 1002002 := by have := hF.len; rw [← hI.out, ← hI.bad] at this; omega
          have hw : IntKind.i64.wrap (((i + 1 : Nat) : Int) + 1) = ((i + 2 : Nat) : Int) := by rw [wrap_id (by unfold IR; omega)]; omega
          dsimp only
          conv => whnf
          refine bcase_intro (fun h2 => ?_) (fun h2 => ?_)
          · have hi2 : i + 2 < q.k := by have h := of_decide_eq_true h2; rw [hw] at h; omega
            obtain ⟨t, ht⟩ : ∃ t, t = triK q.l i := ⟨_, rfl⟩
            have ca : subC (ptsC q.full) (0 + 0 * 3) 3 = some (ptC t.a) := by subst ht; exact q_cut (by omega) (by omega)
            have cb : subC (ptsC q.full) (0 + (i + 1) * 3) 3 = some (ptC t.b) := by subst ht; exact q_cut (by omega) (by omega)
            have cc : subC (ptsC q.full) (0 + (i + 2) * 3) 3 = some (ptC t.c) := by subst ht; exact q_cut (by omega) (by omega)
            conv => whnf
            conv =>
              arg 2
              tactic' =>
                apply eff_index_sli (k := 0) (hi := ir_z0) (ho := ?how18) (hT := ?hTw18) (hx := ?hxw18) (hk := ?hkw18) (hlt := ?hltw18)
                case how18 => rfl
                case hTw18 => rfl
                case hxw18 => rfl
                case hkw18 => rfl
                case hltw18 => exact (by omega)
            conv => whnf
            conv =>
              arg 2
              tactic' =>
                apply eff_load_sub (ho := ?how19) (hT := ?hTw19) (hx := ?hxw19) (hb := ?hbw19) (hm := ?hmw19) (hv := ?hvw19)
                case how19 => rfl
                case hTw19 => rfl
                case hxw19 => rfl
                case hbw19 => rfl
                case hmw19 => exact ca
                case hvw19 => rfl
            conv => whnf
            conv =>
              arg 2
              tactic' =>
                apply eff_index_sli (k := i + 1) (hi := ir_g (by omega)) (ho := ?how20) (hT := ?hTw20) (hx := ?hxw20) (hk := ?hkw20) (hlt := ?hltw20)
                case how20 => rfl
                case hTw20 => rfl
                case hxw20 => rfl
                case hkw20 => rfl
                case hltw20 => exact (by omega)
            conv => whnf
            conv =>
              arg 2
              tactic' =>
                apply eff_load_sub (ho := ?how21) (hT := ?hTw21) (hx := ?hxw21) (hb := ?hbw21) (hm := ?hmw21) (hv := ?hvw21)
                case how21 => rfl
                case hTw21 => rfl
                case hxw21 => rfl
                case hbw21 => rfl
                case hmw21 => exact cb
                case hvw21 => rfl
            conv => whnf
            conv =>
              arg 2
              tactic' =>
                apply eff_index_sli (k := i + 2) (hi := ir_g (by omega)) (ho := ?how22) (hT := ?hTw22) (hx := ?hxw22) (hk := ?hkw22) (hlt := ?hltw22)
                case how22 => rfl
                case hTw22 => rfl
                case hxw22 => rfl
                case hkw22 => exact cint hw (ir_g (by omega))
                case hltw22 => exact hi2
            conv => whnf
            conv =>
              arg 2
              tactic' =>
                apply eff_load_sub (ho := ?how23) (hT := ?hTw23) (hx := ?hxw23) (hb := ?hbw23) (hm := ?hmw23) (hv := ?hvw23)
                case how23 => rfl
                case hTw23 => rfl
                case hxw23 => rfl
                case hbw23 => rfl
                case hmw23 => exact cc
                case hvw23 => rfl
            conv => whnf
            refine .inl ?_
            conv => whnf
            refine ⟨fun _ _ => rfl, ⟨trsC_pure _, trivial⟩, ⟨_, _, o2.l, _, _, t, rfl, rfl, ?_⟩⟩
            conv => whnf
            refine bcase_intro (fun h0 => ?_) (fun h0 => ?_)
            · have h0 : kindZ t o2.l = 0 := of_decide_eq_true h0
              conv => whnf
              refine .inl ?_
              conv => whnf
              refine ⟨rfl, ?_⟩
              conv => whnf
              refine ⟨OT.app o2 (m := 1) (by omega), fun c2 k2 => ?_⟩
              conv => whnf
              refine ⟨[0, 1, 7, 3, 4], [0, 4, 5, 6, 7, 8], [0, 2, 3, 4], fun vs3 => ?_⟩
              conv => whnf
              refine ⟨pysC_pure l, pureL_append o2.new.1.pure (fun _ _ => rfl), f2.new.1.pure, q.new.1.pure, ?_⟩
              conv => whnf
              refine ⟨_, _, ?_, ?_, (⟨(i + 1, o2.push [t] rfl c2 k2, f2), ht ▸ hF.keep (by omega) (ht ▸ h0) k2⟩, vs3), (by omega : q.k - (i + 1) < q.k - i), rfl, rfl⟩
              · exact ⟨fun _ => rfl, fun _ => rfl, fun _ => rfl, fun _ => rfl, fun ρ => o2.push_sl (n := 1) [t] rfl c2 k2 2 ρ, fun _ => rfl, fun _ => rfl, fun _ => rfl, fun ρ => sint_e hw ρ, stm _⟩
              · exact ⟨⟨rfl, rfl, rfl, fun _ => rfl⟩, ⟨rfl, rfl, rfl, fun _ => rfl⟩, o2.push_blk (n := 1) [t] rfl c2 k2 (fun _ => rfl), ⟨rfl, rfl, rfl, fun _ => rfl⟩, ⟨rfl, rfl, rfl, fun _ => rfl⟩, trivial⟩
            · have h0 : ¬ kindZ t o2.l = 0 := of_decide_eq_false h0
              conv => whnf
              conv =>
                arg 2
                tactic' =>
                  apply eff_index_sli (k := k) (hi := ir_k hI.hk hpy.1) (ho := ?how24) (hT := ?hTw24) (hx := ?hxw24) (hk := ?hkw24) (hlt := ?hltw24)
                  case how24 => rfl
                  case hTw24 => rfl
                  case hxw24 => rfl
                  case hkw24 => rfl
                  case hltw24 => exact hlt
              conv => whnf
              conv =>
                arg 2
                tactic' =>
                  apply eff_load_sub (ho := ?how25) (hT := ?hTw25) (hx := ?hxw25) (hb := ?hbw25) (hm := ?hmw25) (hv := ?hvw25)
                  case how25 => rfl
                  case hTw25 => rfl
                  case hxw25 => rfl
                  case hbw25 => rfl
                  case hmw25 => exact pb
                  case hvw25 => rfl
              conv => whnf
              refine .inl ?_
              conv => whnf
              refine ⟨rfl, ?_⟩
              conv => whnf
              refine ⟨OF.app f2 (m := 1) (by omega), fun c2 k2 => ?_⟩
              conv => whnf
              refine ⟨[0, 1, 2, 7, 4], [0, 4, 5, 6, 7, 8], [0, 2, 3, 4], fun vs3 => ?_⟩
              conv => whnf
              refine ⟨pysC_pure l, o2.new.1.pure, pureL_append f2.new.1.pure (fun _ _ => rfl), q.new.1.pure, ?_⟩
              conv => whnf
              refine ⟨_, _, ?_, ?_, (⟨(i + 1, o2, f2.push [⟨p.pl, kindZ t o2.l, p.hp, ir_kind t o2.l⟩] rfl c2 k2), ht_fault ht hF (by omega) h0 k2⟩, vs3), (by omega : q.k - (i + 1) < q.k - i), rfl, rfl⟩
              · exact ⟨fun _ => rfl, fun _ => rfl, fun _ => rfl, fun _ => rfl, fun _ => rfl, fun ρ => f2.push_sl (n := 1) [⟨p.pl, kindZ t o2.l, p.hp, ir_kind t o2.l⟩] rfl c2 k2 3 ρ, fun _ => rfl, fun _ => rfl, fun ρ => sint_e hw ρ, stm _⟩
              · exact ⟨⟨rfl, rfl, rfl, fun _ => rfl⟩, ⟨rfl, rfl, rfl, fun _ => rfl⟩, ⟨rfl, rfl, rfl, fun _ => rfl⟩, f2.push_blk (n := 1) [⟨p.pl, kindZ t o2.l, p.hp, ir_kind t o2.l⟩] rfl c2 k2 (fun _ => rfl), ⟨rfl, rfl, rfl, fun _ => rfl⟩, trivial⟩
          · have hi2 : i + 2 = q.k := by have h := of_decide_eq_false h2; rw [hw] at h; omega
            have hst : polyT (healT (l.take k)) p = fanT p.pl p.hp q.l (healT (l.take k)) i := by unfold polyT; rw [if_neg (by rw [hcl]; omega), hcl, show q.k - 2 = i by omega, ← show q.l = cleanP p.cor from hq]
            conv => whnf
            refine ⟨[0, 1, 2, 3], [0, 4, 5, 6], [0, 2, 3], fun vs3 => ?_⟩
            conv => whnf
            refine ⟨pysC_pure l, o2.new.1.pure, f2.new.1.pure, ?_⟩
            conv => whnf
            refine ⟨_, _, ?_, ?_, (⟨(k + 1, o2, f2), hI.next hlt (hp ▸ hst) hF (by omega)⟩, vs3), (by omega : l.length - (k + 1) < l.length - k), rfl, rfl⟩
            · exact ⟨fun _ => rfl, fun _ => rfl, fun _ => rfl, fun _ => rfl, fun _ => rfl, fun _ => rfl, fun ρ => sint_e (wrap_add1 hlt hl.ir) ρ, stm _⟩
            · exact ⟨⟨rfl, rfl, rfl, fun _ => rfl⟩, ⟨rfl, rfl, rfl, fun _ => rfl⟩, ⟨rfl, rfl, rfl, fun _ => rfl⟩, ⟨rfl, rfl, rfl, fun _ => rfl⟩, trivial⟩
    · have hlt : l.length ≤ k := n_ge hlt
      obtain rfl : k = l.length := Nat.le_antisymm hI.hk hlt
      conv => whnf
      refine ⟨[0, 1, 2, 3], [0, 2, 3], fun vs2 => ?_⟩
      conv => whnf
      refine ⟨pysC_pure l, o.new.1.pure, f.new.1.pure, ?_⟩
      conv => whnf
      exact ⟨_, [o.blk, f.blk], rfl, ⟨⟨rfl, rfl, rfl, fun _ => rfl⟩, ⟨rfl, rfl, rfl, fun _ => rfl⟩, ⟨rfl, rfl, rfl, fun _ => rfl⟩, ⟨rfl, rfl, rfl, fun _ => rfl⟩, trivial⟩, ⟨o.new, f.new, trivial⟩, .tup [o.t1 2, f.t1 3], fun _ => rfl, hc o f (by rw [hI.out, List.take_length]) (by rw [hI.bad, List.take_length])⟩
end Go.Proofs.YtdjpbccaglkafaaDoor
