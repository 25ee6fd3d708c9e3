/- law 05: the reference's Cleaned. -/
import Derived.Test.YtdjpbccaglkafaaDoorH4
namespace Go.Proofs.YtdjpbccaglkafaaDoor
open Go.RowKit
set_option maxRecDepth 100000

theorem pt_at (l : List PT) {i : Nat} (h : i < l.length) : subC (ptsC l) (0 + i * 3) 3 = some (ptC l[i]) := by rw [Nat.zero_add]; exact subC_pts l h
structure ClI (L : List PT) (k : Nat) (o : OP) : Prop where
  k1 : k ≤ L.length
  e : o.l = cmpT L k
theorem ClI.le {L : List PT} {k : Nat} {o : OP} {len : Nat} (h : ClI L k o) (hN : L.length = len) : k ≤ len := by rw [← hN]; exact h.k1
theorem ClI.zero (L : List PT) : ClI L 0 OP.none := ⟨Nat.zero_le _, rfl⟩
theorem ClI.len {L : List PT} {k : Nat} {o : OP} (h : ClI L k o) : o.l.length ≤ k := by rw [h.e]; exact cmpT_len L k
theorem ClI.push {L : List PT} {k : Nat} {o : OP} (h : ClI L k o) (hk : k < L.length) {p : PT} (hp : p = L[k]) (he : k = 0 ∨ eqP L[k] (L[k - 1]'(by omega)) = false) {c2 : Nat} (k2 : SliOk (o.nl && decide (1 = 0)) (o.l.length + 1) c2) : ClI L (k + 1) (o.push [p] rfl c2 k2) := by
  subst hp
  exact ⟨hk, by show o.l ++ [_] = _; rw [cmpT_s hk he, h.e]⟩
theorem ClI.keep {L : List PT} {k : Nat} {o : OP} (h : ClI L k o) (hk : k < L.length) (h0 : k ≠ 0) (he : eqP L[k] (L[k - 1]'(by omega)) = true) : ClI L (k + 1) o := ⟨hk, by rw [cmpT_e hk h0 he, h.e]⟩
set_option maxHeartbeats 16000000 in
theorem csCleanR : CSp Tryd.prog 35 cClean := csp_of (envH_ok baseF4_ok .nil 0) mixed (inl_ok (envH_ok baseF4_ok .nil 0) mixed noF_ok 0) ⟨Tryd.func35, by kernel_rfl, by kernel_rfl⟩ fun args ros K hc => by
  obtain ⟨nl, len, cap, hl, ty, full, rfl, rfl, hlen, hbig, hc⟩ := hc
  refine ⟨fun ρ ρ' e => ?_, ?_⟩
  · have := e 0 (Nat.zero_lt_one)
    simp only [List.map, SV.den, C.den, C.cells, this]
  have hN : (full.take len).length = len := by rw [List.length_take]; omega
  conv => whnf
  refine loop_st (G := {g : Nat × OP // ClI (full.take len) g.1 g.2} × (Nat → Value)) (fun g => (.c (.sli nl 0 0 len cap hl) :: .c (.val (g.2 1)) :: .c (.val (g.2 2)) :: g.1.1.2.sl 1 :: .c (.int (g.1.1.1 : Nat) (ir_g (Nat.le_trans (g.1.2.le hN) hbig))) :: .c (.val (g.2 5)) :: .c (.val (g.2 6)) :: .c (.val (g.2 7)) :: .c (.val (g.2 8)) :: .c (.val (g.2 9)) :: .c (.val (g.2 10)) :: .c (.val (g.2 11)) :: .c (.val (g.2 12)) :: .c (.val (g.2 13)) :: .c (.val (g.2 14)) :: .c (.val (g.2 15)) :: .c (.val (g.2 16)) :: .c (.val (g.2 17)) :: .c (.val (g.2 18)) :: .c (.val (g.2 19)) :: .c (.val (g.2 20)) :: .c (.val (g.2 21)) :: .c (.val (g.2 22)) :: .c (.val (g.2 23)) :: .c (.val (g.2 24)) :: .c (.val (g.2 25)) :: .c (.val (g.2 26)) :: .c (.val (g.2 27)) :: .c (.val (g.2 28)) :: .c (.val (g.2 29)) :: .c (.val (g.2 30)) :: .c (.val (g.2 31)) :: .c (.val (g.2 32)) :: .c (.val (g.2 33)) :: .c (.val (g.2 34)) :: .c (.val (g.2 35)) :: .c (.val (g.2 36)) :: .c (.val (g.2 37)) :: .c (.val (g.2 38)) :: .c (.val (g.2 39)) :: .c (.val (g.2 40)) :: .c (.val (g.2 41)) :: .c (.val (g.2 42)) :: .c (.val (g.2 43)) :: .c (.val (g.2 44)) :: .c (.val (g.2 45)) :: .c (.val (g.2 46)) :: .c (.val (g.2 47)) :: .c (.val (g.2 48)) :: .c (.val (g.2 49)) :: .c (.val (g.2 50)) :: .c (.val (g.2 51)) :: .c (.val (g.2 52)) :: [])) (fun g => [⟨.t ty, true, ptsC full, 0⟩, g.1.1.2.blk]) (fun g => len - g.1.1.1) ?_ ?_
  · refine ⟨[0, 1000 + 34], [0, 3, 4], [0], fun vs => ?_⟩
    conv => whnf
    refine ⟨ptsC_pure _, ?_⟩
    conv => whnf
    refine ⟨_, _, ?_, ?_, (⟨(0, OP.none), ClI.zero _⟩, vs), rfl, rfl⟩
    · exact ⟨fun _ => rfl, fun _ => rfl, fun _ => rfl, fun _ => rfl, fun _ => rfl, stm _⟩
    · exact ⟨⟨rfl, rfl, rfl, fun _ => rfl⟩, ⟨rfl, rfl, rfl, fun _ => rfl⟩, trivial⟩
  · rintro ⟨⟨⟨k, o⟩, hC⟩, vs⟩
    have hC : ClI (full.take len) k o := hC
    have hkb : k ≤ len := hC.le hN
    dsimp only
    conv => whnf
    refine bcase_intro (fun hlt => ?_) (fun hlt => ?_)
    · have hlt : k < len := n_lt hlt
      have hkl : k < (full.take len).length := by omega
      conv => whnf
      refine bcase_intro (fun h0 => ?_) (fun h0 => ?_)
      · have hk0 : k = 0 := by have h : ((k : Nat) : Int) = 0 := of_decide_eq_true h0; omega
        conv => whnf
        conv =>
          arg 2
          tactic' =>
            apply eff_index_sli (k := k) (hi := ir_g (by omega)) (ho := ?how1) (hT := ?hTw1) (hx := ?hxw1) (hk := ?hkw1) (hlt := ?hltw1)
            case how1 => rfl
            case hTw1 => rfl
            case hxw1 => rfl
            case hkw1 => rfl
            case hltw1 => exact hlt
        conv => whnf
        conv =>
          arg 2
          tactic' =>
            apply eff_load_sub (ho := ?how2) (hT := ?hTw2) (hx := ?hxw2) (hb := ?hbw2) (hm := ?hmw2) (hv := ?hvw2)
            case how2 => rfl
            case hTw2 => rfl
            case hxw2 => rfl
            case hbw2 => rfl
            case hmw2 => exact pt_at full (i := k) (by omega)
            case hvw2 => rfl
        conv => whnf
        refine .inl ?_
        conv => whnf
        refine ⟨rfl, ?_⟩
        conv => whnf
        refine ⟨OP.app o (m := 1) (by have := hC.len; omega), fun c2 k2 => ?_⟩
        conv => whnf
        refine ⟨[0, 3], [0, 3, 4], [0, 1], fun vs2 => ?_⟩
        conv => whnf
        refine ⟨ptsC_pure _, pureL_append (ptsC_pure _) (fun _ _ => rfl), ?_⟩
        conv => whnf
        refine ⟨_, _, ?_, ?_, (⟨(k + 1, o.push [full[k]'(by omega)] rfl c2 k2), hC.push hkl (List.getElem_take).symm (.inl hk0) k2⟩, vs2), (by omega : len - (k + 1) < len - k), rfl, rfl⟩
        · exact ⟨fun _ => rfl, fun _ => rfl, fun _ => rfl, fun ρ => o.push_sl (n := 1) [full[k]'(by omega)] rfl c2 k2 1 ρ, fun ρ => sint_e (wrap_add1 hlt hl.ir) ρ, stm _⟩
        · exact ⟨⟨rfl, rfl, rfl, fun _ => rfl⟩, o.push_blk (n := 1) [full[k]'(by omega)] rfl c2 k2 (fun _ => rfl), trivial⟩
      · have hk0 : k ≠ 0 := by have h : ¬ ((k : Nat) : Int) = 0 := of_decide_eq_false h0; omega
        conv => whnf
        conv =>
          arg 2
          tactic' =>
            apply eff_index_sli (k := k) (hi := ir_g (by omega)) (ho := ?how3) (hT := ?hTw3) (hx := ?hxw3) (hk := ?hkw3) (hlt := ?hltw3)
            case how3 => rfl
            case hTw3 => rfl
            case hxw3 => rfl
            case hkw3 => rfl
            case hltw3 => exact hlt
        conv => whnf
        conv =>
          arg 2
          tactic' =>
            apply eff_load_sub (ho := ?how4) (hT := ?hTw4) (hx := ?hxw4) (hb := ?hbw4) (hm := ?hmw4) (hv := ?hvw4)
            case how4 => rfl
            case hTw4 => rfl
            case hxw4 => rfl
            case hbw4 => rfl
            case hmw4 => exact pt_at full (i := k) (by omega)
            case hvw4 => rfl
        conv => whnf
        conv =>
          arg 2
          tactic' =>
            apply eff_index_sli (k := k - 1) (hi := ir_g (by omega)) (ho := ?how5) (hT := ?hTw5) (hx := ?hxw5) (hk := ?hkw5) (hlt := ?hltw5)
            case how5 => rfl
            case hTw5 => rfl
            case hxw5 => rfl
            case hkw5 => exact cint (wrap_sub1 (m := k) (by omega) (by omega)) (ir_g (by omega))
            case hltw5 => exact (by omega)
        conv => whnf
        conv =>
          arg 2
          tactic' =>
            apply eff_load_sub (ho := ?how6) (hT := ?hTw6) (hx := ?hxw6) (hb := ?hbw6) (hm := ?hmw6) (hv := ?hvw6)
            case how6 => rfl
            case hTw6 => rfl
            case hxw6 => rfl
            case hbw6 => rfl
            case hmw6 => exact pt_at full (i := (k - 1)) (by omega)
            case hvw6 => rfl
        conv => whnf
        refine bcase_intro (fun hE => ?_) (fun hE => ?_)
        · have hE : (!eqP (full[k]'(by omega)) (full[k - 1]'(by omega))) = true := hE
          have hE : eqP (full[k]'(by omega)) (full[k - 1]'(by omega)) = false := by simpa using hE
          have hE : eqP ((full.take len)[k]'hkl) ((full.take len)[k - 1]'(by omega)) = false := by rw [List.getElem_take, List.getElem_take]; exact hE
          conv => whnf
          conv =>
            arg 2
            tactic' =>
              apply eff_index_sli (k := k) (hi := ir_g (by omega)) (ho := ?how7) (hT := ?hTw7) (hx := ?hxw7) (hk := ?hkw7) (hlt := ?hltw7)
              case how7 => rfl
              case hTw7 => rfl
              case hxw7 => rfl
              case hkw7 => rfl
              case hltw7 => exact hlt
          conv => whnf
          conv =>
            arg 2
            tactic' =>
              apply eff_load_sub (ho := ?how8) (hT := ?hTw8) (hx := ?hxw8) (hb := ?hbw8) (hm := ?hmw8) (hv := ?hvw8)
              case how8 => rfl
              case hTw8 => rfl
              case hxw8 => rfl
              case hbw8 => rfl
              case hmw8 => exact pt_at full (i := k) (by omega)
              case hvw8 => rfl
          conv => whnf
          refine .inl ?_
          conv => whnf
          refine ⟨rfl, ?_⟩
          conv => whnf
          refine ⟨OP.app o (m := 1) (by have := hC.len; omega), fun c2 k2 => ?_⟩
          conv => whnf
          refine ⟨[0, 3], [0, 3, 4], [0, 1], fun vs2 => ?_⟩
          conv => whnf
          refine ⟨ptsC_pure _, pureL_append (ptsC_pure _) (fun _ _ => rfl), ?_⟩
          conv => whnf
          refine ⟨_, _, ?_, ?_, (⟨(k + 1, o.push [full[k]'(by omega)] rfl c2 k2), hC.push hkl (List.getElem_take).symm (.inr hE) k2⟩, vs2), (by omega : len - (k + 1) < len - k), rfl, rfl⟩
          · exact ⟨fun _ => rfl, fun _ => rfl, fun _ => rfl, fun ρ => o.push_sl (n := 1) [full[k]'(by omega)] rfl c2 k2 1 ρ, fun ρ => sint_e (wrap_add1 hlt hl.ir) ρ, stm _⟩
          · exact ⟨⟨rfl, rfl, rfl, fun _ => rfl⟩, o.push_blk (n := 1) [full[k]'(by omega)] rfl c2 k2 (fun _ => rfl), trivial⟩
        · have hE : (!eqP (full[k]'(by omega)) (full[k - 1]'(by omega))) = false := hE
          have hE : eqP (full[k]'(by omega)) (full[k - 1]'(by omega)) = true := by simpa using hE
          have hE : eqP ((full.take len)[k]'hkl) ((full.take len)[k - 1]'(by omega)) = true := by rw [List.getElem_take, List.getElem_take]; exact hE
          conv => whnf
          refine ⟨[0, 1], [0, 3, 4], [0, 1], fun vs2 => ?_⟩
          conv => whnf
          refine ⟨ptsC_pure _, ptsC_pure _, ?_⟩
          conv => whnf
          refine ⟨_, _, ?_, ?_, (⟨(k + 1, o), hC.keep hkl hk0 hE⟩, vs2), (by omega : len - (k + 1) < len - k), rfl, rfl⟩
          · exact ⟨fun _ => rfl, fun _ => rfl, fun _ => rfl, fun _ => rfl, fun ρ => sint_e (wrap_add1 hlt hl.ir) ρ, stm _⟩
          · exact ⟨⟨rfl, rfl, rfl, fun _ => rfl⟩, ⟨rfl, rfl, rfl, fun _ => rfl⟩, trivial⟩
    · have hlt : len ≤ k := n_ge hlt
      obtain rfl : k = len := Nat.le_antisymm (hC.le hN) hlt
      obtain ⟨ol, onl, oc, ook⟩ := o
      have he : ol = cmpT (full.take k) (full.take k).length := by have := hC.e; rw [hN]; exact this
      have hol : ol.length ≤ k := hC.len
      cases onl with
      | true =>
        obtain rfl : ol = [] := List.length_eq_zero_iff.1 (by have h1 := ook.2.2 rfl; have h2 : ol.length ≤ oc := ook.1; omega)
        conv => whnf
        refine .inl ⟨1, ?_⟩
        conv => whnf
        refine ⟨[0, 1], [0, 1], fun vs4 => ?_⟩
        conv => whnf
        refine ⟨ptsC_pure _, fun _ _ => rfl, ?_⟩
        conv => whnf
        exact ⟨_, [(OQ.mk [] 0 true oc ((oc - 0) * 3) ook (Nat.le_refl _) (fun _ => rfl)).blk], rfl, ⟨⟨rfl, rfl, rfl, fun _ => rfl⟩, ⟨rfl, rfl, rfl, fun _ => rfl⟩, trivial⟩, ⟨OQ.new _, trivial⟩, (OQ.mk [] 0 true oc ((oc - 0) * 3) ook (Nat.le_refl _) (fun _ => rfl)).sl 1, fun _ => rfl, hc _ (by unfold cleanP; rw [← he]; rfl)⟩
      | false =>
        conv => whnf
        refine loop_st (G := {m : Nat // m ≤ ol.length ∧ trimN ol ol.length = trimN ol m} × (Nat → Value)) (fun g => (.c (.val (g.2 0)) :: .c (.val (g.2 1)) :: .c (.val (g.2 2)) :: .c (.sli false 1 0 g.1.1 oc (ook.mono g.1.2.1)) :: .c (.val (g.2 4)) :: .c (.val (g.2 5)) :: .c (.val (g.2 6)) :: .c (.val (g.2 7)) :: .c (.val (g.2 8)) :: .c (.val (g.2 9)) :: .c (.val (g.2 10)) :: .c (.val (g.2 11)) :: .c (.val (g.2 12)) :: .c (.val (g.2 13)) :: .c (.val (g.2 14)) :: .c (.val (g.2 15)) :: .c (.val (g.2 16)) :: .c (.val (g.2 17)) :: .c (.val (g.2 18)) :: .c (.val (g.2 19)) :: .c (.val (g.2 20)) :: .c (.val (g.2 21)) :: .c (.val (g.2 22)) :: .c (.val (g.2 23)) :: .c (.val (g.2 24)) :: .c (.val (g.2 25)) :: .c (.val (g.2 26)) :: .c (.val (g.2 27)) :: .c (.val (g.2 28)) :: .c (.val (g.2 29)) :: .c (.val (g.2 30)) :: .c (.val (g.2 31)) :: .c (.val (g.2 32)) :: .c (.val (g.2 33)) :: .c (.val (g.2 34)) :: .c (.val (g.2 35)) :: .c (.val (g.2 36)) :: .c (.val (g.2 37)) :: .c (.val (g.2 38)) :: .c (.val (g.2 39)) :: .c (.val (g.2 40)) :: .c (.val (g.2 41)) :: .c (.val (g.2 42)) :: .c (.val (g.2 43)) :: .c (.val (g.2 44)) :: .c (.val (g.2 45)) :: .c (.val (g.2 46)) :: .c (.val (g.2 47)) :: .c (.val (g.2 48)) :: .c (.val (g.2 49)) :: .c (.val (g.2 50)) :: .c (.val (g.2 51)) :: .c (.val (g.2 52)) :: [])) (fun g => [⟨.t ty, true, ptsC full, 0⟩, ⟨34, false, ptsC ol, (oc - ol.length) * 3⟩]) (fun g => g.1.1) ?_ ?_
        · refine ⟨[0, 1], [3], [0, 1], fun vs3 => ?_⟩
          conv => whnf
          refine ⟨ptsC_pure _, ptsC_pure _, ?_⟩
          conv => whnf
          refine ⟨_, _, ?_, ?_, (⟨ol.length, Nat.le_refl _, rfl⟩, vs3), rfl, rfl⟩
          · exact ⟨fun _ => rfl, fun _ => rfl, fun _ => rfl, fun _ => rfl, stm _⟩
          · exact ⟨⟨rfl, rfl, rfl, fun _ => rfl⟩, ⟨rfl, rfl, rfl, fun _ => rfl⟩, trivial⟩
        · rintro ⟨⟨m, hm, ht⟩, vs3⟩
          have hm : m ≤ ol.length := hm
          have ht : trimN ol ol.length = trimN ol m := ht
          dsimp only
          conv => whnf
          refine bcase_intro (fun h2 => ?_) (fun h2 => ?_)
          · have h2 : 2 ≤ m := by have h : ((m : Nat) : Int) ≥ 2 := of_decide_eq_true h2; omega
            conv => whnf
            conv =>
              arg 2
              tactic' =>
                apply eff_index_sli (k := 0) (hi := ir_z0) (ho := ?how9) (hT := ?hTw9) (hx := ?hxw9) (hk := ?hkw9) (hlt := ?hltw9)
                case how9 => rfl
                case hTw9 => rfl
                case hxw9 => rfl
                case hkw9 => rfl
                case hltw9 => exact (by omega)
            conv => whnf
            conv =>
              arg 2
              tactic' =>
                apply eff_load_sub (ho := ?how10) (hT := ?hTw10) (hx := ?hxw10) (hb := ?hbw10) (hm := ?hmw10) (hv := ?hvw10)
                case how10 => rfl
                case hTw10 => rfl
                case hxw10 => rfl
                case hbw10 => rfl
                case hmw10 => exact pt_at ol (i := 0) (by omega)
                case hvw10 => rfl
            conv => whnf
            conv =>
              arg 2
              tactic' =>
                apply eff_index_sli (k := m - 1) (hi := ir_g (by omega)) (ho := ?how11) (hT := ?hTw11) (hx := ?hxw11) (hk := ?hkw11) (hlt := ?hltw11)
                case how11 => rfl
                case hTw11 => rfl
                case hxw11 => rfl
                case hkw11 => exact cint (wrap_sub1 (m := m) (by omega) (by omega)) (ir_g (by omega))
                case hltw11 => exact (by omega)
            conv => whnf
            conv =>
              arg 2
              tactic' =>
                apply eff_load_sub (ho := ?how12) (hT := ?hTw12) (hx := ?hxw12) (hb := ?hbw12) (hm := ?hmw12) (hv := ?hvw12)
                case how12 => rfl
                case hTw12 => rfl
                case hxw12 => rfl
                case hbw12 => rfl
                case hmw12 => exact pt_at ol (i := (m - 1)) (by omega)
                case hvw12 => rfl
            conv => whnf
            refine bcase_intro (fun hE => ?_) (fun hE => ?_)
            · have hE : eqP (ol[0]'(by omega)) (ol[m - 1]'(by omega)) = true := hE
              conv => whnf
              conv =>
                arg 2
                tactic' =>
                  apply eff_slice_hi (k := m - 1) (hi := ir_g (by omega)) (h2 := ook.mono (by omega)) (ho := ?how13) (hT := ?hTw13) (hx := ?hxw13) (hk := ?hkw13) (hlt := ?hltw13)
                  case how13 => rfl
                  case hTw13 => rfl
                  case hxw13 => rfl
                  case hkw13 => exact cint (wrap_sub1 (m := m) (by omega) (by omega)) (ir_g (by omega))
                  case hltw13 => exact (by have h : ol.length ≤ oc := ook.1; omega)
              conv => whnf
              refine ⟨[0, 1], [3], [0, 1], fun vs4 => ?_⟩
              conv => whnf
              refine ⟨ptsC_pure _, ptsC_pure _, ?_⟩
              conv => whnf
              refine ⟨_, _, ?_, ?_, (⟨m - 1, by omega, ht.trans (trim_eq h2 hm hE)⟩, vs4), (by omega : m - 1 < m), rfl, rfl⟩
              · exact ⟨fun _ => rfl, fun _ => rfl, fun _ => rfl, fun _ => rfl, stm _⟩
              · exact ⟨⟨rfl, rfl, rfl, fun _ => rfl⟩, ⟨rfl, rfl, rfl, fun _ => rfl⟩, trivial⟩
            · have hE : eqP (ol[0]'(by omega)) (ol[m - 1]'(by omega)) = false := hE
              conv => whnf
              refine ⟨[0, 1], [0, 1], fun vs4 => ?_⟩
              conv => whnf
              refine ⟨ptsC_pure _, ptsC_pure _, ?_⟩
              conv => whnf
              exact ⟨_, [(OQ.mk ol m false oc ((oc - ol.length) * 3) (ook.mono hm) hm (fun h => by cases h)).blk], rfl, ⟨⟨rfl, rfl, rfl, fun _ => rfl⟩, ⟨rfl, rfl, rfl, fun _ => rfl⟩, trivial⟩, ⟨OQ.new _, trivial⟩, (OQ.mk ol m false oc ((oc - ol.length) * 3) (ook.mono hm) hm (fun h => by cases h)).sl 1, fun _ => rfl, hc _ (by show ol.take m = _; unfold cleanP; rw [← he, ht, trim_ne h2 hm hE])⟩
          · have h2 : m < 2 := by have h : ¬ ((m : Nat) : Int) ≥ 2 := of_decide_eq_false h2; omega
            conv => whnf
            refine ⟨[0, 1], [0, 1], fun vs4 => ?_⟩
            conv => whnf
            refine ⟨ptsC_pure _, ptsC_pure _, ?_⟩
            conv => whnf
            exact ⟨_, [(OQ.mk ol m false oc ((oc - ol.length) * 3) (ook.mono hm) hm (fun h => by cases h)).blk], rfl, ⟨⟨rfl, rfl, rfl, fun _ => rfl⟩, ⟨rfl, rfl, rfl, fun _ => rfl⟩, trivial⟩, ⟨OQ.new _, trivial⟩, (OQ.mk ol m false oc ((oc - ol.length) * 3) (ook.mono hm) hm (fun h => by cases h)).sl 1, fun _ => rfl, hc _ (by show ol.take m = _; unfold cleanP; rw [← he, ht, trim_lt2 h2])⟩
end Go.Proofs.YtdjpbccaglkafaaDoor
