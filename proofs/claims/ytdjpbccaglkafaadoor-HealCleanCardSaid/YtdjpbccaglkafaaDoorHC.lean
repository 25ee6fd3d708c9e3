/- law 05: HealClean. -/
import Derived.Test.YtdjpbccaglkafaaDoorHQ
import Derived.Test.YtdjpbccaglkafaaDoorHCp
namespace Go.Proofs.YtdjpbccaglkafaaDoor
open Go.RowKit
set_option maxRecDepth 100000

structure HcI (T : List TR) (k : Nat) (fam : List Ent) (o : OY) : Prop where
  k1 : k ≤ T.length
  len : o.l.length = k
  ps : ∀ p ∈ o.l, p.len ≤ 1000 ∧ p.In fam
  st : healT o.l = ⟨T.take k, []⟩
theorem HcI.zero (T : List TR) : HcI T 0 [] OY.none := ⟨Nat.zero_le _, rfl, fun p hp => (by cases hp), rfl⟩
def trPt (t : TR) : List PT := [t.a, t.b, t.c]
theorem HcI.next {T : List TR} (hT : CleanT T) {k : Nat} {fam : List Ent} {o : OY} (h : HcI T k fam o) (hk : k < T.length) (r : Nat) {hx : IR (k : Nat)} {c2 : Nat} (k2 : SliOk (o.nl && decide (1 = 0)) (o.l.length + 1) c2) :
    HcI T (k + 1) (fam ++ [⟨(r, 0), ptsC (trPt T[k])⟩]) (o.push [⟨false, r, 0, 3, 3, by unfold SliOk; decide, trPt T[k], Nat.le_refl _, (k : Nat), hx⟩] rfl c2 k2) := by
  refine ⟨hk, ?_, fun p hp => ?_, ?_⟩
  · show (o.l ++ [_]).length = _; rw [List.length_append, h.len]; rfl
  · rcases List.mem_append.1 (show p ∈ o.l ++ [_] from hp) with hp | hp
    · exact ⟨(h.ps p hp).1, (h.ps p hp).2.imp id fun h => List.mem_append_left _ h⟩
    · obtain rfl := List.mem_singleton.1 hp
      exact ⟨by simp, .inr (List.mem_append_right _ (List.mem_singleton.2 rfl))⟩
  · show healT (o.l ++ [_]) = _
    unfold healT
    rw [List.foldl_append]
    show polyT (healT o.l) _ = _
    rw [h.st, poly3 (a := T[k].a) (b := T[k].b) (c := T[k].c) rfl]
    exact step_again hT hk
set_option maxHeartbeats 16000000 in
theorem csCl : CSpX Tryd.prog 6 cLawR := csp_ofX (envL_ok 0) mixed (hLX_ok plX_ok lawC_ok (envL_ok 0)) ⟨Tryd.func6, by kernel_rfl, by kernel_rfl⟩ fun args ros K hc => by
  obtain ⟨⟨v, ty, fam, L, rfl, rfl, ⟨nl, cap, hl, rfl⟩ | ⟨a, c, rfl, rfl⟩, hin⟩, hc⟩ := hc
  · refine ⟨fun ρ ρ' e => ?_, ?_⟩
    · have := e 0 (Nat.zero_lt_succ _)
      simp only [List.map, SV.den, C.den, C.cells, this]
    conv => whnf
    refine .inl ?_
    conv => whnf
    refine .inl ?_
    conv => whnf
    refine ⟨trivial, ⟨rfl, rfl, ?_⟩⟩
    conv => whnf
    refine .inl ?_
    conv => whnf
    refine .inl ?_
    conv => whnf
    refine ⟨1, ?_⟩
    conv => whnf
    refine ⟨.inr rfl, ⟨lnsC_pure L, trivial⟩, .inl ⟨_, _, _, _, _, L, _, rfl, rfl, Nat.le_refl _, hin, fun o fam2 hI => ?_⟩⟩
    conv => whnf
    refine .inl ?_
    conv => whnf
    refine .inl ?_
    conv => whnf
    refine ⟨3, ?_⟩
    conv => whnf
    refine ⟨.inl rfl, ⟨pysC_pure o.l, trivial⟩, ⟨_, _, _, _, o.l, _, rfl, rfl, ⟨by rw [hI.len]; have := Nat.min_le_right L.length 30; omega, fun p hp => ⟨Nat.le_trans (hI.ps p hp).1 (by decide), (hI.ps p hp).2⟩⟩, fun t f ht hf => ?_⟩⟩
    have hcl : CleanT t.l := by rw [ht]; exact heal_clean _
    have hms : t.l.length + f.l.length ≤ 240 ∧ min L.length 30 ≤ t.l.length + f.l.length := by
      have h1 := heal_less o.l fun p hp => (hI.ps p hp).1
      have h2 := heal_more o.l
      rw [hI.len] at h1 h2
      rw [ht, hf]
      have := Nat.min_le_right L.length 30; omega
    have hT1 : t.l.length ≤ 1000000 := by omega
    conv => whnf
    refine loop_st (G := {g : Nat × List Ent × OY // HcI t.l g.1 g.2.1 g.2.2} × (Nat → Value)) (fun g => (.c (.sli nl 0 0 L.length cap hl) :: .c (.val (g.2 1)) :: .c (.val (.bool false)) :: .c (.val (.bool true)) :: t.sl 2 :: f.sl 3 :: g.1.1.2.2.sl 5 :: .c (.int (g.1.1.1 : Nat) (ir_m g.1.2.k1 hT1)) :: .c (.val (g.2 8)) :: .c (.val (g.2 9)) :: .c (.val (g.2 10)) :: .c (.val (g.2 11)) :: .c (.val (g.2 12)) :: .c (.val (g.2 13)) :: .c (.val (g.2 14)) :: .c (.val (g.2 15)) :: .c (.val (g.2 16)) :: .c (.val (g.2 17)) :: .c (.val (g.2 18)) :: .c (.val (g.2 19)) :: .c (.val (g.2 20)) :: .c (.val (g.2 21)) :: .c (.val (g.2 22)) :: .c (.val (g.2 23)) :: .c (.val (g.2 24)) :: .c (.val (g.2 25)) :: .c (.val (g.2 26)) :: .c (.val (g.2 27)) :: .c (.val (g.2 28)) :: .c (.val (g.2 29)) :: .c (.val (g.2 30)) :: .c (.val (g.2 31)) :: .c (.val (g.2 32)) :: .c (.val (g.2 33)) :: .c (.val (g.2 34)) :: .c (.val (g.2 35)) :: .c (.val (g.2 36)) :: .c (.val (g.2 37)) :: .c (.val (g.2 38)) :: .c (.val (g.2 39)) :: .c (.val (g.2 40)) :: .c (.val (g.2 41)) :: .c (.val (g.2 42)) :: .c (.val (g.2 43)) :: .c (.val (g.2 44)) :: .c (.val (g.2 45)) :: .c (.val (g.2 46)) :: .c (.val (g.2 47)) :: .c (.val (g.2 48)) :: .c (.val (g.2 49)) :: .c (.val (g.2 50)) :: .c (.val (g.2 51)) :: .c (.val (g.2 52)) :: .c (.val (g.2 53)) :: .c (.val (g.2 54)) :: .c (.val (g.2 55)) :: .c (.val (g.2 56)) :: .c (.val (g.2 57)) :: .c (.val (g.2 58)) :: .c (.val (g.2 59)) :: .c (.val (g.2 60)) :: .c (.val (g.2 61)) :: .c (.val (g.2 62)) :: .c (.val (g.2 63)) :: .c (.val (g.2 64)) :: .c (.val (g.2 65)) :: .c (.val (g.2 66)) :: .c (.val (g.2 67)) :: .c (.val (g.2 68)) :: .c (.val (g.2 69)) :: .c (.val (g.2 70)) :: .c (.val (g.2 71)) :: .c (.val (g.2 72)) :: .c (.val (g.2 73)) :: .c (.val (g.2 74)) :: .c (.val (g.2 75)) :: .c (.val (g.2 76)) :: .c (.val (g.2 77)) :: .c (.val (g.2 78)) :: .c (.val (g.2 79)) :: .c (.val (g.2 80)) :: .c (.val (g.2 81)) :: .c (.val (g.2 82)) :: .c (.val (g.2 83)) :: .c (.val (g.2 84)) :: .c (.val (g.2 85)) :: .c (.val (g.2 86)) :: .c (.val (g.2 87)) :: .c (.val (g.2 88)) :: .c (.val (g.2 89)) :: .c (.val (g.2 90)) :: .c (.val (g.2 91)) :: [])) (fun g => [⟨.t ty, true, lnsC L, 0⟩, ⟨.x fam, true, [], 3⟩, t.blk, f.blk, ⟨.x g.1.1.2.1, true, [], 2⟩, g.1.1.2.2.blk]) (fun g => t.l.length - g.1.1.1) ?_ ?_
    · refine ⟨[0, 1, 4, 5, 1000000, 1000 + 31], [0, 2, 3, 4, 5, 6, 7], [0, 2, 3], fun vs => ?_⟩
      conv => whnf
      refine ⟨lnsC_pure L, trsC_pure _, ftsC_pure _, ?_⟩
      conv => whnf
      refine ⟨_, _, ?_, ?_, (⟨(0, [], OY.none), HcI.zero t.l⟩, vs), rfl, rfl⟩
      · exact ⟨fun _ => rfl, fun _ => rfl, fun _ => rfl, fun _ => rfl, fun _ => rfl, fun _ => rfl, fun _ => rfl, fun _ => rfl, stm _⟩
      · exact ⟨⟨rfl, rfl, rfl, fun _ => rfl⟩, ⟨rfl, rfl, rfl, fun _ => rfl⟩, ⟨rfl, rfl, rfl, fun _ => rfl⟩, ⟨rfl, rfl, rfl, fun _ => rfl⟩, ⟨rfl, rfl, rfl, fun _ => rfl⟩, ⟨rfl, rfl, rfl, fun _ => rfl⟩, trivial⟩
    · rintro ⟨⟨⟨k, fam3, o2⟩, hI2⟩, vs⟩
      have hI2 : HcI t.l k fam3 o2 := hI2
      dsimp only
      conv => whnf
      refine bcase_intro (fun hlt => ?_) (fun hlt => ?_)
      · have hlt : k < t.l.length := n_lt hlt
        have hk2 : k ≤ 240 := by omega
        have hck := hcl k hlt
        conv => whnf
        conv =>
          arg 2
          tactic' =>
            apply eff_index_sli (k := k) (hi := (ir_m hI2.k1 hT1)) (ho := ?how1) (hT := ?hTw1) (hx := ?hxw1) (hk := ?hkw1) (hlt := ?hltw1)
            case how1 => rfl
            case hTw1 => rfl
            case hxw1 => rfl
            case hkw1 => rfl
            case hltw1 => exact hlt
        conv => whnf
        conv =>
          arg 2
          tactic' =>
            apply eff_load_sub (ho := ?how2) (hT := ?hTw2) (hx := ?hxw2) (hb := ?hbw2) (hm := ?hmw2) (hv := ?hvw2)
            case how2 => rfl
            case hTw2 => rfl
            case hxw2 => rfl
            case hbw2 => rfl
            case hmw2 => exact (by rw [Nat.zero_add]; exact subC_trs t.l hlt : subC (trsC t.l) (0 + k * 9) 9 = some (trC t.l[k]))
            case hvw2 => rfl
        conv => whnf
        refine bcase_intro (fun h => absurd ((show flatT t.l[k] = true from h).symm.trans hck.1) (by decide)) (fun _ => ?_)
        conv => whnf
        refine loop_st (G := {j : Nat // j ≤ k} × (Nat → Value)) (fun g => (.c (.sli nl 0 0 L.length cap hl) :: .c (.val (g.2 1)) :: .c (.val (.bool false)) :: .c (.val (.bool true)) :: t.sl 2 :: f.sl 3 :: o2.sl 5 :: .c (.int (k : Nat) (ir_m hI2.k1 hT1)) :: .c (.int (g.1.1 : Nat) (ir_m g.1.2 (Nat.le_trans hI2.k1 hT1))) :: .c (.val (g.2 9)) :: .c (.val (g.2 10)) :: .c (.val (g.2 11)) :: .c (.val (g.2 12)) :: .c (.val (g.2 13)) :: .c (.val (g.2 14)) :: .c (.val (g.2 15)) :: .c (.val (g.2 16)) :: .c (.val (g.2 17)) :: .c (.val (g.2 18)) :: .c (.val (g.2 19)) :: .c (.val (g.2 20)) :: .c (.val (g.2 21)) :: .c (.val (g.2 22)) :: .c (.val (g.2 23)) :: .c (.val (g.2 24)) :: .c (.val (g.2 25)) :: .c (.val (g.2 26)) :: .c (.val (g.2 27)) :: .c (.val (g.2 28)) :: .c (.val (g.2 29)) :: .c (.val (g.2 30)) :: .c (.val (g.2 31)) :: .c (.val (g.2 32)) :: .c (.val (g.2 33)) :: .c (.val (g.2 34)) :: .c (.val (g.2 35)) :: .c (.val (g.2 36)) :: .c (.val (g.2 37)) :: .c (.val (g.2 38)) :: .c (.val (g.2 39)) :: .c (.val (g.2 40)) :: .c (.val (g.2 41)) :: .c (.val (g.2 42)) :: .c (.val (g.2 43)) :: .c (.val (g.2 44)) :: .c (.val (g.2 45)) :: .c (.val (g.2 46)) :: .c (.val (g.2 47)) :: .c (.val (g.2 48)) :: .c (.val (g.2 49)) :: .c (.val (g.2 50)) :: .c (.val (g.2 51)) :: .c (.val (g.2 52)) :: .c (.val (g.2 53)) :: .c (.val (g.2 54)) :: .c (.val (g.2 55)) :: .c (.val (g.2 56)) :: .c (.val (g.2 57)) :: .c (.val (g.2 58)) :: .c (.val (g.2 59)) :: .c (.val (g.2 60)) :: .c (.val (g.2 61)) :: .c (.val (g.2 62)) :: .c (.val (g.2 63)) :: .c (.val (g.2 64)) :: .c (.val (g.2 65)) :: .c (.val (g.2 66)) :: .c (.val (g.2 67)) :: .c (.val (g.2 68)) :: .c (.val (g.2 69)) :: .c (.val (g.2 70)) :: .c (.val (g.2 71)) :: .c (.val (g.2 72)) :: .c (.val (g.2 73)) :: .c (.val (g.2 74)) :: .c (.val (g.2 75)) :: .c (.val (g.2 76)) :: .c (.val (g.2 77)) :: .c (.val (g.2 78)) :: .c (.val (g.2 79)) :: .c (.val (g.2 80)) :: .c (.val (g.2 81)) :: .c (.val (g.2 82)) :: .c (.val (g.2 83)) :: .c (.val (g.2 84)) :: .c (.val (g.2 85)) :: .c (.val (g.2 86)) :: .c (.val (g.2 87)) :: .c (.val (g.2 88)) :: .c (.val (g.2 89)) :: .c (.val (g.2 90)) :: .c (.val (g.2 91)) :: [])) (fun g => [⟨.t ty, true, lnsC L, 0⟩, ⟨.x fam, true, [], 3⟩, t.blk, f.blk, ⟨.x fam3, true, [], 2⟩, o2.blk]) (fun g => k - g.1.1) ?_ ?_
        · refine ⟨[0, 1, 2, 3, 4, 5], [0, 2, 3, 4, 5, 6, 7, 8], [0, 2, 3, 5], fun vs2 => ?_⟩
          conv => whnf
          refine ⟨lnsC_pure L, trsC_pure _, ftsC_pure _, o2.new.1.pure, ?_⟩
          conv => whnf
          refine ⟨_, _, ?_, ?_, (⟨0, Nat.zero_le _⟩, vs2), rfl, rfl⟩
          · exact ⟨fun _ => rfl, fun _ => rfl, fun _ => rfl, fun _ => rfl, fun _ => rfl, fun _ => rfl, fun _ => rfl, fun _ => rfl, fun _ => rfl, stm _⟩
          · exact ⟨⟨rfl, rfl, rfl, fun _ => rfl⟩, ⟨rfl, rfl, rfl, fun _ => rfl⟩, ⟨rfl, rfl, rfl, fun _ => rfl⟩, ⟨rfl, rfl, rfl, fun _ => rfl⟩, ⟨rfl, rfl, rfl, fun _ => rfl⟩, ⟨rfl, rfl, rfl, fun _ => rfl⟩, trivial⟩
        · rintro ⟨⟨j, hj⟩, vs2⟩
          have hj : j ≤ k := hj
          dsimp only
          conv => whnf
          refine bcase_intro (fun hjk => ?_) (fun hjk => ?_)
          · have hjk : j < k := n_lt hjk
            have hjl : j < t.l.length := by omega
            conv => whnf
            conv =>
              arg 2
              tactic' =>
                apply eff_index_sli (k := k) (hi := (ir_m hI2.k1 hT1)) (ho := ?how3) (hT := ?hTw3) (hx := ?hxw3) (hk := ?hkw3) (hlt := ?hltw3)
                case how3 => rfl
                case hTw3 => rfl
                case hxw3 => rfl
                case hkw3 => rfl
                case hltw3 => exact hlt
            conv => whnf
            conv =>
              arg 2
              tactic' =>
                apply eff_load_sub (ho := ?how4) (hT := ?hTw4) (hx := ?hxw4) (hb := ?hbw4) (hm := ?hmw4) (hv := ?hvw4)
                case how4 => rfl
                case hTw4 => rfl
                case hxw4 => rfl
                case hbw4 => rfl
                case hmw4 => exact (by rw [Nat.zero_add]; exact subC_trs t.l hlt : subC (trsC t.l) (0 + k * 9) 9 = some (trC t.l[k]))
                case hvw4 => rfl
            conv => whnf
            conv =>
              arg 2
              tactic' =>
                apply eff_index_sli (k := j) (hi := (ir_m hj (Nat.le_trans hI2.k1 hT1))) (ho := ?how5) (hT := ?hTw5) (hx := ?hxw5) (hk := ?hkw5) (hlt := ?hltw5)
                case how5 => rfl
                case hTw5 => rfl
                case hxw5 => rfl
                case hkw5 => rfl
                case hltw5 => exact hjl
            conv => whnf
            conv =>
              arg 2
              tactic' =>
                apply eff_load_sub (ho := ?how6) (hT := ?hTw6) (hx := ?hxw6) (hb := ?hbw6) (hm := ?hmw6) (hv := ?hvw6)
                case how6 => rfl
                case hTw6 => rfl
                case hxw6 => rfl
                case hbw6 => rfl
                case hmw6 => exact (by rw [Nat.zero_add]; exact subC_trs t.l hjl : subC (trsC t.l) (0 + j * 9) 9 = some (trC t.l[j]))
                case hvw6 => rfl
            conv => whnf
            refine bcase_intro (fun h => absurd (hck.2 j hjk) (by simpa using h)) (fun _ => ?_)
            conv => whnf
            refine ⟨[0, 1, 2, 3, 4, 5], [0, 2, 3, 4, 5, 6, 7, 8], [0, 2, 3, 5], fun vs3 => ?_⟩
            conv => whnf
            refine ⟨lnsC_pure L, trsC_pure _, ftsC_pure _, o2.new.1.pure, ?_⟩
            conv => whnf
            refine ⟨_, _, ?_, ?_, (⟨j + 1, hjk⟩, vs3), (by omega : k - (j + 1) < k - j), rfl, rfl⟩
            · exact ⟨fun _ => rfl, fun _ => rfl, fun _ => rfl, fun _ => rfl, fun _ => rfl, fun _ => rfl, fun _ => rfl, fun _ => rfl, fun ρ => sint_e (wrap_add1 hjk (ir_m hI2.k1 hT1)) ρ, stm _⟩
            · exact ⟨⟨rfl, rfl, rfl, fun _ => rfl⟩, ⟨rfl, rfl, rfl, fun _ => rfl⟩, ⟨rfl, rfl, rfl, fun _ => rfl⟩, ⟨rfl, rfl, rfl, fun _ => rfl⟩, ⟨rfl, rfl, rfl, fun _ => rfl⟩, ⟨rfl, rfl, rfl, fun _ => rfl⟩, trivial⟩
          · have hjk : k ≤ j := n_ge hjk
            have hjk2 : j = k := Nat.le_antisymm hj hjk
            conv => whnf
            conv =>
              arg 2
              tactic' =>
                apply eff_index_sli (k := k) (hi := (ir_m hI2.k1 hT1)) (ho := ?how7) (hT := ?hTw7) (hx := ?hxw7) (hk := ?hkw7) (hlt := ?hltw7)
                case how7 => rfl
                case hTw7 => rfl
                case hxw7 => rfl
                case hkw7 => rfl
                case hltw7 => exact hlt
            conv => whnf
            conv =>
              arg 2
              tactic' =>
                apply eff_load_sub (ho := ?how8) (hT := ?hTw8) (hx := ?hxw8) (hb := ?hbw8) (hm := ?hmw8) (hv := ?hvw8)
                case how8 => rfl
                case hTw8 => rfl
                case hxw8 => rfl
                case hbw8 => rfl
                case hmw8 => exact subC_pt t.l hlt 0 rfl
                case hvw8 => rfl
            conv => whnf
            conv =>
              arg 2
              tactic' =>
                apply eff_index_sli (k := k) (hi := (ir_m hI2.k1 hT1)) (ho := ?how9) (hT := ?hTw9) (hx := ?hxw9) (hk := ?hkw9) (hlt := ?hltw9)
                case how9 => rfl
                case hTw9 => rfl
                case hxw9 => rfl
                case hkw9 => rfl
                case hltw9 => exact hlt
            conv => whnf
            conv =>
              arg 2
              tactic' =>
                apply eff_load_sub (ho := ?how10) (hT := ?hTw10) (hx := ?hxw10) (hb := ?hbw10) (hm := ?hmw10) (hv := ?hvw10)
                case how10 => rfl
                case hTw10 => rfl
                case hxw10 => rfl
                case hbw10 => rfl
                case hmw10 => exact subC_pt t.l hlt 3 rfl
                case hvw10 => rfl
            conv => whnf
            conv =>
              arg 2
              tactic' =>
                apply eff_index_sli (k := k) (hi := (ir_m hI2.k1 hT1)) (ho := ?how11) (hT := ?hTw11) (hx := ?hxw11) (hk := ?hkw11) (hlt := ?hltw11)
                case how11 => rfl
                case hTw11 => rfl
                case hxw11 => rfl
                case hkw11 => rfl
                case hltw11 => exact hlt
            conv => whnf
            conv =>
              arg 2
              tactic' =>
                apply eff_load_sub (ho := ?how12) (hT := ?hTw12) (hx := ?hxw12) (hb := ?hbw12) (hm := ?hmw12) (hv := ?hvw12)
                case how12 => rfl
                case hTw12 => rfl
                case hxw12 => rfl
                case hbw12 => rfl
                case hmw12 => exact subC_pt t.l hlt 6 rfl
                case hvw12 => rfl
            conv => whnf
            refine .inr ⟨4, 6, 7, ?_⟩
            conv => whnf
            refine ⟨⟨fun _ _ => rfl, rfl, rfl⟩, fun r => ?_⟩
            conv => whnf
            refine .inl ?_
            conv => whnf
            refine .inl ?_
            conv => whnf
            refine ⟨rfl, ?_⟩
            conv => whnf
            refine ⟨OY.app o2 (m := 1) (by rw [hI2.len]; omega), fun c2 k2 => ?_⟩
            conv => whnf
            refine ⟨[0, 1, 2, 3, 4, 8], [0, 2, 3, 4, 5, 6, 7], [0, 2, 3, 5], fun vs3 => ?_⟩
            conv => whnf
            refine ⟨lnsC_pure L, trsC_pure _, ftsC_pure _, pureL_append (pysC_pure _) (fun _ _ => rfl), ?_⟩
            conv => whnf
            refine ⟨_, _, ?_, ?_, (⟨(k + 1, _, o2.push [⟨false, r, 0, 3, 3, by unfold SliOk; decide, trPt t.l[k], Nat.le_refl _, (k : Nat), (ir_m hI2.k1 hT1)⟩] rfl c2 k2), hI2.next hcl hlt r k2⟩, vs3), (by omega : t.l.length - (k + 1) < t.l.length - k), rfl, rfl⟩
            · exact ⟨fun _ => rfl, fun _ => rfl, fun _ => rfl, fun _ => rfl, fun _ => rfl, fun _ => rfl, fun ρ => o2.push_sl (n := 1) [⟨false, r, 0, 3, 3, by unfold SliOk; decide, trPt t.l[k], Nat.le_refl _, (k : Nat), (ir_m hI2.k1 hT1)⟩] rfl c2 k2 5 ρ, fun ρ => sint_e (wrap_add1 hlt (ir_m (Nat.le_refl _) hT1)) ρ, stm _⟩
            · exact ⟨⟨rfl, rfl, rfl, fun _ => rfl⟩, ⟨rfl, rfl, rfl, fun _ => rfl⟩, ⟨rfl, rfl, rfl, fun _ => rfl⟩, ⟨rfl, rfl, rfl, fun _ => rfl⟩, ⟨rfl, rfl, rfl, fun _ => rfl⟩, o2.push_blk (n := 1) [⟨false, r, 0, 3, 3, by unfold SliOk; decide, trPt t.l[k], Nat.le_refl _, (k : Nat), (ir_m hI2.k1 hT1)⟩] rfl c2 k2 (fun _ => rfl), trivial⟩
      · have hlt : t.l.length ≤ k := n_ge hlt
        obtain rfl : k = t.l.length := Nat.le_antisymm hI2.k1 hlt
        conv => whnf
        refine .inl ?_
        conv => whnf
        refine .inl ?_
        conv => whnf
        refine ⟨4, ?_⟩
        conv => whnf
        refine ⟨.inl rfl, ⟨o2.new.1.pure, trivial⟩, ⟨_, _, _, _, o2.l, _, rfl, rfl, ⟨by rw [hI2.len]; omega, hI2.ps⟩, fun u g hu hg => ?_⟩⟩
        rw [hI2.st] at hu hg
        dsimp only at hu hg
        rw [List.take_length] at hu
        conv => whnf
        refine .inl ?_
        conv => whnf
        refine .inl ?_
        conv => whnf
        refine ⟨⟨trsC_pure _, trsC_pure _, trivial⟩, ⟨_, _, _, _, _, _, _, _, _, _, t.l, u.l, true, rfl, rfl, Nat.le_refl _, Nat.le_refl _, (by rw [List.take_length, List.take_length, hu]; exact eqTs_iff.2 rfl), ?_⟩⟩
        conv => whnf
        refine bcase_intro (fun _ => ?_) (fun h => absurd h (by rw [hg]; decide))
        conv => whnf
        have hmin : minI (L.length : Int) 30 = ((min L.length 30 : Nat) : Int) := by unfold minI; split <;> omega
        have hw : IntKind.i64.wrap (((t.l.length : Nat) : Int) + (f.l.length : Nat)) = ((t.l.length + f.l.length : Nat) : Int) := by rw [wrap_id (by unfold IR; omega)]; omega
        refine ⟨[0, 1], [0], fun _ => ?_⟩
        conv => whnf
        refine ⟨lnsC_pure L, ?_⟩
        conv => whnf
        exact ⟨_, [], rfl, ⟨⟨rfl, rfl, rfl, fun _ => rfl⟩, ⟨rfl, rfl, rfl, fun _ => rfl⟩, trivial⟩, trivial, _, fun ρ => sbool_e (decide_eq_true (by rw [hw, hmin]; omega)) ρ, hc⟩
  · refine ⟨fun ρ ρ' e => rfl, ?_⟩
    conv => whnf
    refine .inl ?_
    conv => whnf
    refine .inl ?_
    conv => whnf
    refine ⟨trivial, ⟨rfl, rfl, ?_⟩⟩
    conv => whnf
    refine .inl ?_
    conv => whnf
    refine .inl ?_
    conv => whnf
    refine ⟨1, ?_⟩
    conv => whnf
    refine ⟨.inr rfl, trivial, .inr ⟨_, _, _, rfl, rfl, fun o fam2 hI => ?_⟩⟩
    conv => whnf
    refine .inl ?_
    conv => whnf
    refine .inl ?_
    conv => whnf
    refine ⟨3, ?_⟩
    conv => whnf
    refine ⟨.inl rfl, ⟨pysC_pure o.l, trivial⟩, ⟨_, _, _, _, o.l, _, rfl, rfl, ⟨by rw [hI.len]; decide, fun p hp => ⟨Nat.le_trans (hI.ps p hp).1 (by decide), (hI.ps p hp).2⟩⟩, fun t f ht hf => ?_⟩⟩
    have hcl : CleanT t.l := by rw [ht]; exact heal_clean _
    have hms : t.l.length + f.l.length ≤ 240 ∧ 0 ≤ t.l.length + f.l.length := by
      have h1 := heal_less o.l fun p hp => (hI.ps p hp).1
      have h2 := heal_more o.l
      rw [hI.len] at h1 h2
      rw [ht, hf]
      omega
    have hT1 : t.l.length ≤ 1000000 := by omega
    conv => whnf
    refine loop_st (G := {g : Nat × List Ent × OY // HcI t.l g.1 g.2.1 g.2.2} × (Nat → Value)) (fun g => (.c (.val (.slice a 0 c)) :: .c (.val (g.2 1)) :: .c (.val (.bool false)) :: .c (.val (.bool true)) :: t.sl 2 :: f.sl 3 :: g.1.1.2.2.sl 5 :: .c (.int (g.1.1.1 : Nat) (ir_m g.1.2.k1 hT1)) :: .c (.val (g.2 8)) :: .c (.val (g.2 9)) :: .c (.val (g.2 10)) :: .c (.val (g.2 11)) :: .c (.val (g.2 12)) :: .c (.val (g.2 13)) :: .c (.val (g.2 14)) :: .c (.val (g.2 15)) :: .c (.val (g.2 16)) :: .c (.val (g.2 17)) :: .c (.val (g.2 18)) :: .c (.val (g.2 19)) :: .c (.val (g.2 20)) :: .c (.val (g.2 21)) :: .c (.val (g.2 22)) :: .c (.val (g.2 23)) :: .c (.val (g.2 24)) :: .c (.val (g.2 25)) :: .c (.val (g.2 26)) :: .c (.val (g.2 27)) :: .c (.val (g.2 28)) :: .c (.val (g.2 29)) :: .c (.val (g.2 30)) :: .c (.val (g.2 31)) :: .c (.val (g.2 32)) :: .c (.val (g.2 33)) :: .c (.val (g.2 34)) :: .c (.val (g.2 35)) :: .c (.val (g.2 36)) :: .c (.val (g.2 37)) :: .c (.val (g.2 38)) :: .c (.val (g.2 39)) :: .c (.val (g.2 40)) :: .c (.val (g.2 41)) :: .c (.val (g.2 42)) :: .c (.val (g.2 43)) :: .c (.val (g.2 44)) :: .c (.val (g.2 45)) :: .c (.val (g.2 46)) :: .c (.val (g.2 47)) :: .c (.val (g.2 48)) :: .c (.val (g.2 49)) :: .c (.val (g.2 50)) :: .c (.val (g.2 51)) :: .c (.val (g.2 52)) :: .c (.val (g.2 53)) :: .c (.val (g.2 54)) :: .c (.val (g.2 55)) :: .c (.val (g.2 56)) :: .c (.val (g.2 57)) :: .c (.val (g.2 58)) :: .c (.val (g.2 59)) :: .c (.val (g.2 60)) :: .c (.val (g.2 61)) :: .c (.val (g.2 62)) :: .c (.val (g.2 63)) :: .c (.val (g.2 64)) :: .c (.val (g.2 65)) :: .c (.val (g.2 66)) :: .c (.val (g.2 67)) :: .c (.val (g.2 68)) :: .c (.val (g.2 69)) :: .c (.val (g.2 70)) :: .c (.val (g.2 71)) :: .c (.val (g.2 72)) :: .c (.val (g.2 73)) :: .c (.val (g.2 74)) :: .c (.val (g.2 75)) :: .c (.val (g.2 76)) :: .c (.val (g.2 77)) :: .c (.val (g.2 78)) :: .c (.val (g.2 79)) :: .c (.val (g.2 80)) :: .c (.val (g.2 81)) :: .c (.val (g.2 82)) :: .c (.val (g.2 83)) :: .c (.val (g.2 84)) :: .c (.val (g.2 85)) :: .c (.val (g.2 86)) :: .c (.val (g.2 87)) :: .c (.val (g.2 88)) :: .c (.val (g.2 89)) :: .c (.val (g.2 90)) :: .c (.val (g.2 91)) :: [])) (fun g => [⟨.t ty, true, lnsC [], 0⟩, ⟨.x fam, true, [], 3⟩, t.blk, f.blk, ⟨.x g.1.1.2.1, true, [], 2⟩, g.1.1.2.2.blk]) (fun g => t.l.length - g.1.1.1) ?_ ?_
    · refine ⟨[0, 1, 4, 5, 1000000, 1000 + 31], [0, 2, 3, 4, 5, 6, 7], [0, 2, 3], fun vs => ?_⟩
      conv => whnf
      refine ⟨fun _ _ => rfl, trsC_pure _, ftsC_pure _, ?_⟩
      conv => whnf
      refine ⟨_, _, ?_, ?_, (⟨(0, [], OY.none), HcI.zero t.l⟩, vs), rfl, rfl⟩
      · exact ⟨fun _ => rfl, fun _ => rfl, fun _ => rfl, fun _ => rfl, fun _ => rfl, fun _ => rfl, fun _ => rfl, fun _ => rfl, stm _⟩
      · exact ⟨⟨rfl, rfl, rfl, fun _ => rfl⟩, ⟨rfl, rfl, rfl, fun _ => rfl⟩, ⟨rfl, rfl, rfl, fun _ => rfl⟩, ⟨rfl, rfl, rfl, fun _ => rfl⟩, ⟨rfl, rfl, rfl, fun _ => rfl⟩, ⟨rfl, rfl, rfl, fun _ => rfl⟩, trivial⟩
    · rintro ⟨⟨⟨k, fam3, o2⟩, hI2⟩, vs⟩
      have hI2 : HcI t.l k fam3 o2 := hI2
      dsimp only
      conv => whnf
      refine bcase_intro (fun hlt => ?_) (fun hlt => ?_)
      · have hlt : k < t.l.length := n_lt hlt
        have hk2 : k ≤ 240 := by omega
        have hck := hcl k hlt
        conv => whnf
        conv =>
          arg 2
          tactic' =>
            apply eff_index_sli (k := k) (hi := (ir_m hI2.k1 hT1)) (ho := ?how13) (hT := ?hTw13) (hx := ?hxw13) (hk := ?hkw13) (hlt := ?hltw13)
            case how13 => rfl
            case hTw13 => rfl
            case hxw13 => rfl
            case hkw13 => rfl
            case hltw13 => exact hlt
        conv => whnf
        conv =>
          arg 2
          tactic' =>
            apply eff_load_sub (ho := ?how14) (hT := ?hTw14) (hx := ?hxw14) (hb := ?hbw14) (hm := ?hmw14) (hv := ?hvw14)
            case how14 => rfl
            case hTw14 => rfl
            case hxw14 => rfl
            case hbw14 => rfl
            case hmw14 => exact (by rw [Nat.zero_add]; exact subC_trs t.l hlt : subC (trsC t.l) (0 + k * 9) 9 = some (trC t.l[k]))
            case hvw14 => rfl
        conv => whnf
        refine bcase_intro (fun h => absurd ((show flatT t.l[k] = true from h).symm.trans hck.1) (by decide)) (fun _ => ?_)
        conv => whnf
        refine loop_st (G := {j : Nat // j ≤ k} × (Nat → Value)) (fun g => (.c (.val (.slice a 0 c)) :: .c (.val (g.2 1)) :: .c (.val (.bool false)) :: .c (.val (.bool true)) :: t.sl 2 :: f.sl 3 :: o2.sl 5 :: .c (.int (k : Nat) (ir_m hI2.k1 hT1)) :: .c (.int (g.1.1 : Nat) (ir_m g.1.2 (Nat.le_trans hI2.k1 hT1))) :: .c (.val (g.2 9)) :: .c (.val (g.2 10)) :: .c (.val (g.2 11)) :: .c (.val (g.2 12)) :: .c (.val (g.2 13)) :: .c (.val (g.2 14)) :: .c (.val (g.2 15)) :: .c (.val (g.2 16)) :: .c (.val (g.2 17)) :: .c (.val (g.2 18)) :: .c (.val (g.2 19)) :: .c (.val (g.2 20)) :: .c (.val (g.2 21)) :: .c (.val (g.2 22)) :: .c (.val (g.2 23)) :: .c (.val (g.2 24)) :: .c (.val (g.2 25)) :: .c (.val (g.2 26)) :: .c (.val (g.2 27)) :: .c (.val (g.2 28)) :: .c (.val (g.2 29)) :: .c (.val (g.2 30)) :: .c (.val (g.2 31)) :: .c (.val (g.2 32)) :: .c (.val (g.2 33)) :: .c (.val (g.2 34)) :: .c (.val (g.2 35)) :: .c (.val (g.2 36)) :: .c (.val (g.2 37)) :: .c (.val (g.2 38)) :: .c (.val (g.2 39)) :: .c (.val (g.2 40)) :: .c (.val (g.2 41)) :: .c (.val (g.2 42)) :: .c (.val (g.2 43)) :: .c (.val (g.2 44)) :: .c (.val (g.2 45)) :: .c (.val (g.2 46)) :: .c (.val (g.2 47)) :: .c (.val (g.2 48)) :: .c (.val (g.2 49)) :: .c (.val (g.2 50)) :: .c (.val (g.2 51)) :: .c (.val (g.2 52)) :: .c (.val (g.2 53)) :: .c (.val (g.2 54)) :: .c (.val (g.2 55)) :: .c (.val (g.2 56)) :: .c (.val (g.2 57)) :: .c (.val (g.2 58)) :: .c (.val (g.2 59)) :: .c (.val (g.2 60)) :: .c (.val (g.2 61)) :: .c (.val (g.2 62)) :: .c (.val (g.2 63)) :: .c (.val (g.2 64)) :: .c (.val (g.2 65)) :: .c (.val (g.2 66)) :: .c (.val (g.2 67)) :: .c (.val (g.2 68)) :: .c (.val (g.2 69)) :: .c (.val (g.2 70)) :: .c (.val (g.2 71)) :: .c (.val (g.2 72)) :: .c (.val (g.2 73)) :: .c (.val (g.2 74)) :: .c (.val (g.2 75)) :: .c (.val (g.2 76)) :: .c (.val (g.2 77)) :: .c (.val (g.2 78)) :: .c (.val (g.2 79)) :: .c (.val (g.2 80)) :: .c (.val (g.2 81)) :: .c (.val (g.2 82)) :: .c (.val (g.2 83)) :: .c (.val (g.2 84)) :: .c (.val (g.2 85)) :: .c (.val (g.2 86)) :: .c (.val (g.2 87)) :: .c (.val (g.2 88)) :: .c (.val (g.2 89)) :: .c (.val (g.2 90)) :: .c (.val (g.2 91)) :: [])) (fun g => [⟨.t ty, true, lnsC [], 0⟩, ⟨.x fam, true, [], 3⟩, t.blk, f.blk, ⟨.x fam3, true, [], 2⟩, o2.blk]) (fun g => k - g.1.1) ?_ ?_
        · refine ⟨[0, 1, 2, 3, 4, 5], [0, 2, 3, 4, 5, 6, 7, 8], [0, 2, 3, 5], fun vs2 => ?_⟩
          conv => whnf
          refine ⟨fun _ _ => rfl, trsC_pure _, ftsC_pure _, o2.new.1.pure, ?_⟩
          conv => whnf
          refine ⟨_, _, ?_, ?_, (⟨0, Nat.zero_le _⟩, vs2), rfl, rfl⟩
          · exact ⟨fun _ => rfl, fun _ => rfl, fun _ => rfl, fun _ => rfl, fun _ => rfl, fun _ => rfl, fun _ => rfl, fun _ => rfl, fun _ => rfl, stm _⟩
          · exact ⟨⟨rfl, rfl, rfl, fun _ => rfl⟩, ⟨rfl, rfl, rfl, fun _ => rfl⟩, ⟨rfl, rfl, rfl, fun _ => rfl⟩, ⟨rfl, rfl, rfl, fun _ => rfl⟩, ⟨rfl, rfl, rfl, fun _ => rfl⟩, ⟨rfl, rfl, rfl, fun _ => rfl⟩, trivial⟩
        · rintro ⟨⟨j, hj⟩, vs2⟩
          have hj : j ≤ k := hj
          dsimp only
          conv => whnf
          refine bcase_intro (fun hjk => ?_) (fun hjk => ?_)
          · have hjk : j < k := n_lt hjk
            have hjl : j < t.l.length := by omega
            conv => whnf
            conv =>
              arg 2
              tactic' =>
                apply eff_index_sli (k := k) (hi := (ir_m hI2.k1 hT1)) (ho := ?how15) (hT := ?hTw15) (hx := ?hxw15) (hk := ?hkw15) (hlt := ?hltw15)
                case how15 => rfl
                case hTw15 => rfl
                case hxw15 => rfl
                case hkw15 => rfl
                case hltw15 => exact hlt
            conv => whnf
            conv =>
              arg 2
              tactic' =>
                apply eff_load_sub (ho := ?how16) (hT := ?hTw16) (hx := ?hxw16) (hb := ?hbw16) (hm := ?hmw16) (hv := ?hvw16)
                case how16 => rfl
                case hTw16 => rfl
                case hxw16 => rfl
                case hbw16 => rfl
                case hmw16 => exact (by rw [Nat.zero_add]; exact subC_trs t.l hlt : subC (trsC t.l) (0 + k * 9) 9 = some (trC t.l[k]))
                case hvw16 => rfl
            conv => whnf
            conv =>
              arg 2
              tactic' =>
                apply eff_index_sli (k := j) (hi := (ir_m hj (Nat.le_trans hI2.k1 hT1))) (ho := ?how17) (hT := ?hTw17) (hx := ?hxw17) (hk := ?hkw17) (hlt := ?hltw17)
                case how17 => rfl
                case hTw17 => rfl
                case hxw17 => rfl
                case hkw17 => rfl
                case hltw17 => exact hjl
            conv => whnf
            conv =>
              arg 2
              tactic' =>
                apply eff_load_sub (ho := ?how18) (hT := ?hTw18) (hx := ?hxw18) (hb := ?hbw18) (hm := ?hmw18) (hv := ?hvw18)
                case how18 => rfl
                case hTw18 => rfl
                case hxw18 => rfl
                case hbw18 => rfl
                case hmw18 => exact (by rw [Nat.zero_add]; exact subC_trs t.l hjl : subC (trsC t.l) (0 + j * 9) 9 = some (trC t.l[j]))
                case hvw18 => rfl
            conv => whnf
            refine bcase_intro (fun h => absurd (hck.2 j hjk) (by simpa using h)) (fun _ => ?_)
            conv => whnf
            refine ⟨[0, 1, 2, 3, 4, 5], [0, 2, 3, 4, 5, 6, 7, 8], [0, 2, 3, 5], fun vs3 => ?_⟩
            conv => whnf
            refine ⟨fun _ _ => rfl, trsC_pure _, ftsC_pure _, o2.new.1.pure, ?_⟩
            conv => whnf
            refine ⟨_, _, ?_, ?_, (⟨j + 1, hjk⟩, vs3), (by omega : k - (j + 1) < k - j), rfl, rfl⟩
            · exact ⟨fun _ => rfl, fun _ => rfl, fun _ => rfl, fun _ => rfl, fun _ => rfl, fun _ => rfl, fun _ => rfl, fun _ => rfl, fun ρ => sint_e (wrap_add1 hjk (ir_m hI2.k1 hT1)) ρ, stm _⟩
            · exact ⟨⟨rfl, rfl, rfl, fun _ => rfl⟩, ⟨rfl, rfl, rfl, fun _ => rfl⟩, ⟨rfl, rfl, rfl, fun _ => rfl⟩, ⟨rfl, rfl, rfl, fun _ => rfl⟩, ⟨rfl, rfl, rfl, fun _ => rfl⟩, ⟨rfl, rfl, rfl, fun _ => rfl⟩, trivial⟩
          · have hjk : k ≤ j := n_ge hjk
            have hjk2 : j = k := Nat.le_antisymm hj hjk
            conv => whnf
            conv =>
              arg 2
              tactic' =>
                apply eff_index_sli (k := k) (hi := (ir_m hI2.k1 hT1)) (ho := ?how19) (hT := ?hTw19) (hx := ?hxw19) (hk := ?hkw19) (hlt := ?hltw19)
                case how19 => rfl
                case hTw19 => rfl
                case hxw19 => rfl
                case hkw19 => rfl
                case hltw19 => exact hlt
            conv => whnf
            conv =>
              arg 2
              tactic' =>
                apply eff_load_sub (ho := ?how20) (hT := ?hTw20) (hx := ?hxw20) (hb := ?hbw20) (hm := ?hmw20) (hv := ?hvw20)
                case how20 => rfl
                case hTw20 => rfl
                case hxw20 => rfl
                case hbw20 => rfl
                case hmw20 => exact subC_pt t.l hlt 0 rfl
                case hvw20 => rfl
            conv => whnf
            conv =>
              arg 2
              tactic' =>
                apply eff_index_sli (k := k) (hi := (ir_m hI2.k1 hT1)) (ho := ?how21) (hT := ?hTw21) (hx := ?hxw21) (hk := ?hkw21) (hlt := ?hltw21)
                case how21 => rfl
                case hTw21 => rfl
                case hxw21 => rfl
                case hkw21 => rfl
                case hltw21 => exact hlt
            conv => whnf
            conv =>
              arg 2
              tactic' =>
                apply eff_load_sub (ho := ?how22) (hT := ?hTw22) (hx := ?hxw22) (hb := ?hbw22) (hm := ?hmw22) (hv := ?hvw22)
                case how22 => rfl
                case hTw22 => rfl
                case hxw22 => rfl
                case hbw22 => rfl
                case hmw22 => exact subC_pt t.l hlt 3 rfl
                case hvw22 => rfl
            conv => whnf
            conv =>
              arg 2
              tactic' =>
                apply eff_index_sli (k := k) (hi := (ir_m hI2.k1 hT1)) (ho := ?how23) (hT := ?hTw23) (hx := ?hxw23) (hk := ?hkw23) (hlt := ?hltw23)
                case how23 => rfl
                case hTw23 => rfl
                case hxw23 => rfl
                case hkw23 => rfl
                case hltw23 => exact hlt
            conv => whnf
            conv =>
              arg 2
              tactic' =>
                apply eff_load_sub (ho := ?how24) (hT := ?hTw24) (hx := ?hxw24) (hb := ?hbw24) (hm := ?hmw24) (hv := ?hvw24)
                case how24 => rfl
                case hTw24 => rfl
                case hxw24 => rfl
                case hbw24 => rfl
                case hmw24 => exact subC_pt t.l hlt 6 rfl
                case hvw24 => rfl
            conv => whnf
            refine .inr ⟨4, 6, 7, ?_⟩
            conv => whnf
            refine ⟨⟨fun _ _ => rfl, rfl, rfl⟩, fun r => ?_⟩
            conv => whnf
            refine .inl ?_
            conv => whnf
            refine .inl ?_
            conv => whnf
            refine ⟨rfl, ?_⟩
            conv => whnf
            refine ⟨OY.app o2 (m := 1) (by rw [hI2.len]; omega), fun c2 k2 => ?_⟩
            conv => whnf
            refine ⟨[0, 1, 2, 3, 4, 8], [0, 2, 3, 4, 5, 6, 7], [0, 2, 3, 5], fun vs3 => ?_⟩
            conv => whnf
            refine ⟨fun _ _ => rfl, trsC_pure _, ftsC_pure _, pureL_append (pysC_pure _) (fun _ _ => rfl), ?_⟩
            conv => whnf
            refine ⟨_, _, ?_, ?_, (⟨(k + 1, _, o2.push [⟨false, r, 0, 3, 3, by unfold SliOk; decide, trPt t.l[k], Nat.le_refl _, (k : Nat), (ir_m hI2.k1 hT1)⟩] rfl c2 k2), hI2.next hcl hlt r k2⟩, vs3), (by omega : t.l.length - (k + 1) < t.l.length - k), rfl, rfl⟩
            · exact ⟨fun _ => rfl, fun _ => rfl, fun _ => rfl, fun _ => rfl, fun _ => rfl, fun _ => rfl, fun ρ => o2.push_sl (n := 1) [⟨false, r, 0, 3, 3, by unfold SliOk; decide, trPt t.l[k], Nat.le_refl _, (k : Nat), (ir_m hI2.k1 hT1)⟩] rfl c2 k2 5 ρ, fun ρ => sint_e (wrap_add1 hlt (ir_m (Nat.le_refl _) hT1)) ρ, stm _⟩
            · exact ⟨⟨rfl, rfl, rfl, fun _ => rfl⟩, ⟨rfl, rfl, rfl, fun _ => rfl⟩, ⟨rfl, rfl, rfl, fun _ => rfl⟩, ⟨rfl, rfl, rfl, fun _ => rfl⟩, ⟨rfl, rfl, rfl, fun _ => rfl⟩, o2.push_blk (n := 1) [⟨false, r, 0, 3, 3, by unfold SliOk; decide, trPt t.l[k], Nat.le_refl _, (k : Nat), (ir_m hI2.k1 hT1)⟩] rfl c2 k2 (fun _ => rfl), trivial⟩
      · have hlt : t.l.length ≤ k := n_ge hlt
        obtain rfl : k = t.l.length := Nat.le_antisymm hI2.k1 hlt
        conv => whnf
        refine .inl ?_
        conv => whnf
        refine .inl ?_
        conv => whnf
        refine ⟨4, ?_⟩
        conv => whnf
        refine ⟨.inl rfl, ⟨o2.new.1.pure, trivial⟩, ⟨_, _, _, _, o2.l, _, rfl, rfl, ⟨by rw [hI2.len]; omega, hI2.ps⟩, fun u g hu hg => ?_⟩⟩
        rw [hI2.st] at hu hg
        dsimp only at hu hg
        rw [List.take_length] at hu
        conv => whnf
        refine .inl ?_
        conv => whnf
        refine .inl ?_
        conv => whnf
        refine ⟨⟨trsC_pure _, trsC_pure _, trivial⟩, ⟨_, _, _, _, _, _, _, _, _, _, t.l, u.l, true, rfl, rfl, Nat.le_refl _, Nat.le_refl _, (by rw [List.take_length, List.take_length, hu]; exact eqTs_iff.2 rfl), ?_⟩⟩
        conv => whnf
        refine bcase_intro (fun _ => ?_) (fun h => absurd h (by rw [hg]; decide))
        conv => whnf
        have hmin : minI ((0 : Nat) : Int) 30 = ((0 : Nat) : Int) := by decide
        have hw : IntKind.i64.wrap (((t.l.length : Nat) : Int) + (f.l.length : Nat)) = ((t.l.length + f.l.length : Nat) : Int) := by rw [wrap_id (by unfold IR; omega)]; omega
        refine ⟨[0, 1], [0], fun _ => ?_⟩
        conv => whnf
        refine ⟨fun _ _ => rfl, ?_⟩
        conv => whnf
        exact ⟨_, [], rfl, ⟨⟨rfl, rfl, rfl, fun _ => rfl⟩, ⟨rfl, rfl, rfl, fun _ => rfl⟩, trivial⟩, trivial, _, fun ρ => sbool_e (decide_eq_true (by rw [hw, hmin]; omega)) ρ, hc⟩
end Go.Proofs.YtdjpbccaglkafaaDoor
