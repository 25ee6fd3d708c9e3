/- law 05: HealFans. -/
import Derived.Test.YtdjpbccaglkafaaDoorH5B
import Derived.Test.YtdjpbccaglkafaaDoorHNp
namespace Go.Proofs.YtdjpbccaglkafaaDoor
open Go.RowKit
set_option maxRecDepth 100000

def fN (L : List ZB) : Nat := min L.length 20
theorem fN_eq (L : List ZB) : minI (L.length : Int) 20 = ((fN L : Nat) : Int) := by unfold minI fN; split <;> omega
theorem fN_le (L : List ZB) : fN L ≤ 20 := Nat.min_le_right _ _
theorem fN_len (L : List ZB) : fN L ≤ L.length := Nat.min_le_left _ _
theorem ir_20 {k : Nat} (h : k ≤ 20) : IR k := by unfold IR; omega
def pyB (o : OP) : Blk := ⟨31, false, [.sli o.nl 3 0 o.l.length o.cap o.ok, .int 9 ir9], 0⟩
structure FnI (L : List ZB) (k : Nat) (o : OP) : Prop where
  k1 : k ≤ fN L
  g : Good k o.l
  len : o.l.length ≤ 3 * k
structure FjI (k : Nat) (j : Nat) (o : OP) : Prop where
  j3 : j ≤ 3
  g0 : j = 0 → Good k o.l
  g1 : 1 ≤ j → Good (k + 1) o.l
  len : o.l.length ≤ 3 * k + j
theorem FnI.zero (L : List ZB) : FnI L 0 OP.none := ⟨Nat.zero_le _, .zero, Nat.le_refl _⟩
theorem FnI.start {L : List ZB} {k : Nat} {o : OP} (h : FnI L k o) : FjI k 0 o := ⟨by omega, fun _ => h.g, fun h => by omega, h.len⟩
theorem FnI.k2 {L : List ZB} {k : Nat} {o : OP} (h : FnI L k o) : k ≤ 20 := Nat.le_trans h.k1 (fN_le L)
theorem FjI.j20 {k j : Nat} {o : OP} (h : FjI k j o) : j ≤ 20 := by have := h.j3; omega
theorem FjI.push {k j : Nat} {o : OP} (h : FjI k j o) (hk : k ≤ 20) (hj : j ≤ 2) {p : PT} (hp : p = cornP k) {c2 : Nat} (k2 : SliOk (o.nl && decide (1 = 0)) (o.l.length + 1) c2) : FjI k (j + 1) (o.push [p] rfl c2 k2) := by
  subst hp
  refine ⟨by omega, fun h => by omega, fun _ => ?_, ?_⟩
  · show Good (k + 1) (o.l ++ [_])
    by_cases h0 : j = 0
    · exact (h.g0 h0).next (by omega)
    · exact (h.g1 (by omega)).again
  · show (o.l ++ [_]).length ≤ _; rw [List.length_append]; have := h.len; simp; omega
theorem FjI.next {L : List ZB} {k j : Nat} {o : OP} (h : FjI k j o) (hk : k < fN L) (hj : 1 ≤ j) : FnI L (k + 1) o := ⟨hk, h.g1 hj, by have := h.len; have := h.j3; omega⟩
theorem corn_k {k : Nat} (hk : k ≤ 20) {hx : IR (k : Nat)} {hy : IR (IntKind.i64.wrap ((k : Int) * (k : Int)))} {hz : IR 7} : (⟨(k : Int), IntKind.i64.wrap ((k : Int) * (k : Int)), 7, hx, hy, hz⟩ : PT) = cornP k := by
  have e : IntKind.i64.wrap ((k : Nat) : Int) = k := wrap_id (by unfold IR; omega)
  exact PT.ext' e.symm (by show _ = IntKind.i64.wrap (IntKind.i64.wrap (k : Int) * IntKind.i64.wrap (k : Int)); rw [e]) rfl
theorem m3 (z : ZB) : IntKind.i64.wrap (z.z.tmod 3) = z.z % 3 := by
  have := z.h
  rw [Int.tmod_eq_emod_of_nonneg this.1, wrap_id (by unfold IR; omega)]
theorem wrap_k {k : Nat} (h : k ≤ 20) : IntKind.i64.wrap (k : Int) = k := wrap_id (by unfold IR; omega)
theorem tri_same {k : Nat} (h : k + 2 ≤ 20) : (decide ((triF k).a.x = 0) && (decide ((triF k).a.y = IntKind.i64.wrap (0 * 0)) && (decide ((triF k).a.z = 7) && (decide ((triF k).b.x = ((k + 1 : Nat) : Int)) && (decide ((triF k).b.y = IntKind.i64.wrap (((k + 1 : Nat) : Int) * ((k + 1 : Nat) : Int))) && (decide ((triF k).b.z = 7) && (decide ((triF k).c.x = ((k + 2 : Nat) : Int)) && (decide ((triF k).c.y = IntKind.i64.wrap (((k + 2 : Nat) : Int) * ((k + 2 : Nat) : Int))) && decide ((triF k).c.z = 7))))))))) = true := by
  have e1 := wrap_k (k := k + 1) (by omega)
  have e2 := wrap_k (k := k + 2) h
  simp only [Bool.and_eq_true, decide_eq_true_eq]
  refine ⟨rfl, rfl, rfl, e1, ?_, rfl, e2, ?_, rfl⟩
  · show IntKind.i64.wrap (IntKind.i64.wrap ((k + 1 : Nat) : Int) * IntKind.i64.wrap ((k + 1 : Nat) : Int)) = _; rw [e1]
  · show IntKind.i64.wrap (IntKind.i64.wrap ((k + 2 : Nat) : Int) * IntKind.i64.wrap ((k + 2 : Nat) : Int)) = _; rw [e2]
def c0P : PT := ⟨0, IntKind.i64.wrap (0 * 0), 7, by decide, IR.wrap _, by decide⟩
theorem push_py (o : OP) (m : List PT) (c2 : Nat) (k2 : SliOk (o.nl && decide (m.length = 0)) (o.l.length + m.length) c2) (ρ : Rho) : cellsL ρ [.sli (o.nl && decide (m.length = 0)) 3 0 (o.l.length + m.length) c2 k2, .int 9 ir9] = cellsL ρ [.sli (o.push m rfl c2 k2).nl 3 0 (o.push m rfl c2 k2).l.length (o.push m rfl c2 k2).cap (o.push m rfl c2 k2).ok, .int 9 ir9] := by
  simp [cellsL, C.cells, OP.push]
set_option maxHeartbeats 16000000 in
theorem csFa : CSp Tryd.prog 5 cLawB := csp_of (envL_ok 0) mixed (hL_ok lawC_ok (envL_ok 0)) ⟨Tryd.func5, by kernel_rfl, by kernel_rfl⟩ fun args ros K hc => by
  obtain ⟨⟨L, ty, v, rfl, rfl, ⟨cap, hl, rfl⟩ | ⟨a, c, rfl, rfl⟩⟩, hc⟩ := hc
  · refine ⟨fun ρ ρ' e => ?_, ?_⟩
    · have := e 0 (Nat.zero_lt_succ _)
      simp only [List.map, SV.den, C.den, C.cells, this]
    conv => whnf
    refine .inr ?_
    conv => whnf
    refine .inl ?_
    conv => whnf
    refine ⟨trivial, ⟨rfl, rfl, ?_⟩⟩
    conv => whnf
    by_cases h0 : L = []
    · subst h0
      refine .inl ⟨1, ?_⟩
      conv => whnf
      refine .inl ?_
      conv => whnf
      refine .inl ?_
      conv => whnf
      refine ⟨1, ?_⟩
      conv => whnf
      refine ⟨.inl rfl, ⟨fun _ _ => rfl, trivial⟩, ?_⟩
      refine ⟨_, _, _, _, [⟨true, 0, 0, 0, 0, by unfold SliOk; decide, [], Nat.le_refl _, 9, ir9⟩], _, rfl, rfl, ⟨by simp, fun p hp => ?_⟩, fun o1 f1 ho1 hf1 => ?_⟩
      · obtain rfl := List.mem_singleton.1 hp
        exact ⟨Nat.zero_le _, .inl rfl⟩
      rw [fans_heal (p := ⟨true, 0, 0, 0, 0, by unfold SliOk; decide, [], Nat.le_refl _, 9, ir9⟩) (n := 0) (by decide) .zero (.inl rfl) rfl] at ho1 hf1
      dsimp only at ho1 hf1
      conv => whnf
      have ht0 : o1.l.length = 0 := by rw [ho1]; rfl
      have hb0 : f1.l = [⟨9, 25, ir9, ir25⟩] := by rw [hf1]; rfl
      refine bcase_intro (fun _ => ?_) (fun h => absurd h (by rw [ht0]; decide))
      conv => whnf
      refine .inl ?_
      conv => whnf
      refine .inl ?_
      conv => whnf
      refine ⟨⟨ftsC_pure _, fun _ _ => rfl, trivial⟩, ⟨_, _, _, _, _, _, _, _, _, _, f1.l, [⟨9, 25, ir9, ir25⟩], true, rfl, rfl, Nat.le_refl _, Nat.le_refl _, (by rw [List.take_length, hb0]; kernel_rfl), ?_⟩⟩
      conv => whnf
      refine ⟨[0], [0], fun _ => ?_⟩
      conv => whnf
      refine ⟨fun _ _ => rfl, ?_⟩
      conv => whnf
      exact ⟨_, [], rfl, ⟨⟨rfl, rfl, rfl, fun _ => rfl⟩, trivial⟩, trivial, _, fun _ => rfl, hc⟩
    · conv => whnf
      refine loop_st (G := {g : Nat × OP // FnI L g.1 g.2} × (Nat → Value)) (fun g => (.c (.sli false 0 0 L.length cap hl) :: .c (.val (g.2 1)) :: .c (.val (.bool false)) :: .c (.val (.bool true)) :: .c (.int (fN L : Nat) (ir_20 (fN_le L))) :: .c (.ptr 2 0) :: .c (.int (g.1.1.1 : Nat) (ir_20 g.1.2.k2)) :: .c (.val (g.2 7)) :: .c (.val (g.2 8)) :: .c (.val (g.2 9)) :: .c (.val (g.2 10)) :: .c (.val (g.2 11)) :: .c (.val (g.2 12)) :: .c (.val (g.2 13)) :: .c (.val (g.2 14)) :: .c (.val (g.2 15)) :: .c (.val (g.2 16)) :: .c (.val (g.2 17)) :: .c (.val (g.2 18)) :: .c (.val (g.2 19)) :: .c (.val (g.2 20)) :: .c (.val (g.2 21)) :: .c (.val (g.2 22)) :: .c (.val (g.2 23)) :: .c (.val (g.2 24)) :: .c (.val (g.2 25)) :: .c (.val (g.2 26)) :: .c (.val (g.2 27)) :: .c (.val (g.2 28)) :: .c (.val (g.2 29)) :: .c (.val (g.2 30)) :: .c (.val (g.2 31)) :: .c (.val (g.2 32)) :: .c (.val (g.2 33)) :: .c (.val (g.2 34)) :: .c (.val (g.2 35)) :: .c (.val (g.2 36)) :: .c (.val (g.2 37)) :: .c (.val (g.2 38)) :: .c (.val (g.2 39)) :: .c (.val (g.2 40)) :: .c (.val (g.2 41)) :: .c (.val (g.2 42)) :: .c (.val (g.2 43)) :: .c (.val (g.2 44)) :: .c (.val (g.2 45)) :: .c (.val (g.2 46)) :: .c (.val (g.2 47)) :: .c (.val (g.2 48)) :: .c (.val (g.2 49)) :: .c (.val (g.2 50)) :: .c (.val (g.2 51)) :: .c (.val (g.2 52)) :: .c (.val (g.2 53)) :: .c (.val (g.2 54)) :: .c (.val (g.2 55)) :: .c (.val (g.2 56)) :: .c (.val (g.2 57)) :: .c (.val (g.2 58)) :: .c (.val (g.2 59)) :: .c (.val (g.2 60)) :: .c (.val (g.2 61)) :: .c (.val (g.2 62)) :: .c (.val (g.2 63)) :: .c (.val (g.2 64)) :: .c (.val (g.2 65)) :: .c (.val (g.2 66)) :: .c (.val (g.2 67)) :: .c (.val (g.2 68)) :: .c (.val (g.2 69)) :: .c (.val (g.2 70)) :: .c (.val (g.2 71)) :: .c (.val (g.2 72)) :: .c (.val (g.2 73)) :: .c (.val (g.2 74)) :: .c (.val (g.2 75)) :: .c (.val (g.2 76)) :: .c (.val (g.2 77)) :: .c (.val (g.2 78)) :: .c (.val (g.2 79)) :: .c (.val (g.2 80)) :: .c (.val (g.2 81)) :: .c (.val (g.2 82)) :: .c (.val (g.2 83)) :: .c (.val (g.2 84)) :: .c (.val (g.2 85)) :: .c (.val (g.2 86)) :: .c (.val (g.2 87)) :: .c (.val (g.2 88)) :: .c (.val (g.2 89)) :: .c (.val (g.2 90)) :: .c (.val (g.2 91)) :: .c (.val (g.2 92)) :: .c (.val (g.2 93)) :: .c (.val (g.2 94)) :: .c (.val (g.2 95)) :: .c (.val (g.2 96)) :: .c (.val (g.2 97)) :: .c (.val (g.2 98)) :: .c (.val (g.2 99)) :: .c (.val (g.2 100)) :: .c (.val (g.2 101)) :: .c (.val (g.2 102)) :: [])) (fun g => [⟨.t ty, true, u8C L, 0⟩, ⟨.x [], true, [], 2⟩, pyB g.1.1.2, g.1.1.2.blk]) (fun g => fN L - g.1.1.1) ?_ ?_
      · refine ⟨[0, 1, 2, 1000 + 34], [0, 2, 3, 4, 5, 6], [0], fun vs => ?_⟩
        conv => whnf
        refine ⟨u8C_pure L, ?_⟩
        conv => whnf
        refine ⟨_, _, ?_, ?_, (⟨(0, OP.none), FnI.zero L⟩, vs), rfl, rfl⟩
        · exact ⟨fun _ => rfl, fun _ => rfl, fun _ => rfl, fun _ => rfl, fun ρ => sint_e (fN_eq L) ρ, fun _ => rfl, fun _ => rfl, stm _⟩
        · exact ⟨⟨rfl, rfl, rfl, fun _ => rfl⟩, ⟨rfl, rfl, rfl, fun _ => rfl⟩, ⟨rfl, rfl, rfl, fun _ => rfl⟩, ⟨rfl, rfl, rfl, fun _ => rfl⟩, trivial⟩
      · rintro ⟨⟨⟨k, o⟩, hI⟩, vs⟩
        have hI : FnI L k o := hI
        dsimp only
        conv => whnf
        refine bcase_intro (fun hlt => ?_) (fun hlt => ?_)
        · have hlt : k < fN L := n_lt hlt
          have hkL : k < L.length := Nat.lt_of_lt_of_le hlt (fN_len L)
          conv => whnf
          refine loop_st (G := {g : Nat × OP // FjI k g.1 g.2} × (Nat → Value)) (fun g => (.c (.sli false 0 0 L.length cap hl) :: .c (.val (g.2 1)) :: .c (.val (.bool false)) :: .c (.val (.bool true)) :: .c (.int (fN L : Nat) (ir_20 (fN_le L))) :: .c (.ptr 2 0) :: .c (.int (k : Nat) (ir_20 hI.k2)) :: .c (.int (g.1.1.1 : Nat) (ir_20 g.1.2.j20)) :: .c (.val (g.2 8)) :: .c (.val (g.2 9)) :: .c (.val (g.2 10)) :: .c (.val (g.2 11)) :: .c (.val (g.2 12)) :: .c (.val (g.2 13)) :: .c (.val (g.2 14)) :: .c (.val (g.2 15)) :: .c (.val (g.2 16)) :: .c (.val (g.2 17)) :: .c (.val (g.2 18)) :: .c (.val (g.2 19)) :: .c (.val (g.2 20)) :: .c (.val (g.2 21)) :: .c (.val (g.2 22)) :: .c (.val (g.2 23)) :: .c (.val (g.2 24)) :: .c (.val (g.2 25)) :: .c (.val (g.2 26)) :: .c (.val (g.2 27)) :: .c (.val (g.2 28)) :: .c (.val (g.2 29)) :: .c (.val (g.2 30)) :: .c (.val (g.2 31)) :: .c (.val (g.2 32)) :: .c (.val (g.2 33)) :: .c (.val (g.2 34)) :: .c (.val (g.2 35)) :: .c (.val (g.2 36)) :: .c (.val (g.2 37)) :: .c (.val (g.2 38)) :: .c (.val (g.2 39)) :: .c (.val (g.2 40)) :: .c (.val (g.2 41)) :: .c (.val (g.2 42)) :: .c (.val (g.2 43)) :: .c (.val (g.2 44)) :: .c (.val (g.2 45)) :: .c (.val (g.2 46)) :: .c (.val (g.2 47)) :: .c (.val (g.2 48)) :: .c (.val (g.2 49)) :: .c (.val (g.2 50)) :: .c (.val (g.2 51)) :: .c (.val (g.2 52)) :: .c (.val (g.2 53)) :: .c (.val (g.2 54)) :: .c (.val (g.2 55)) :: .c (.val (g.2 56)) :: .c (.val (g.2 57)) :: .c (.val (g.2 58)) :: .c (.val (g.2 59)) :: .c (.val (g.2 60)) :: .c (.val (g.2 61)) :: .c (.val (g.2 62)) :: .c (.val (g.2 63)) :: .c (.val (g.2 64)) :: .c (.val (g.2 65)) :: .c (.val (g.2 66)) :: .c (.val (g.2 67)) :: .c (.val (g.2 68)) :: .c (.val (g.2 69)) :: .c (.val (g.2 70)) :: .c (.val (g.2 71)) :: .c (.val (g.2 72)) :: .c (.val (g.2 73)) :: .c (.val (g.2 74)) :: .c (.val (g.2 75)) :: .c (.val (g.2 76)) :: .c (.val (g.2 77)) :: .c (.val (g.2 78)) :: .c (.val (g.2 79)) :: .c (.val (g.2 80)) :: .c (.val (g.2 81)) :: .c (.val (g.2 82)) :: .c (.val (g.2 83)) :: .c (.val (g.2 84)) :: .c (.val (g.2 85)) :: .c (.val (g.2 86)) :: .c (.val (g.2 87)) :: .c (.val (g.2 88)) :: .c (.val (g.2 89)) :: .c (.val (g.2 90)) :: .c (.val (g.2 91)) :: .c (.val (g.2 92)) :: .c (.val (g.2 93)) :: .c (.val (g.2 94)) :: .c (.val (g.2 95)) :: .c (.val (g.2 96)) :: .c (.val (g.2 97)) :: .c (.val (g.2 98)) :: .c (.val (g.2 99)) :: .c (.val (g.2 100)) :: .c (.val (g.2 101)) :: .c (.val (g.2 102)) :: [])) (fun g => [⟨.t ty, true, u8C L, 0⟩, ⟨.x [], true, [], 2⟩, pyB g.1.1.2, g.1.1.2.blk]) (fun g => 3 - g.1.1.1) ?_ ?_
          · refine ⟨[0, 1, 2, 3], [0, 2, 3, 4, 5, 6, 7], [0, 3], fun vs2 => ?_⟩
            conv => whnf
            refine ⟨u8C_pure L, ptsC_pure _, ?_⟩
            conv => whnf
            refine ⟨_, _, ?_, ?_, (⟨(0, o), hI.start⟩, vs2), rfl, rfl⟩
            · exact ⟨fun _ => rfl, fun _ => rfl, fun _ => rfl, fun _ => rfl, fun _ => rfl, fun _ => rfl, fun _ => rfl, fun _ => rfl, stm _⟩
            · exact ⟨⟨rfl, rfl, rfl, fun _ => rfl⟩, ⟨rfl, rfl, rfl, fun _ => rfl⟩, ⟨rfl, rfl, rfl, fun _ => rfl⟩, ⟨rfl, rfl, rfl, fun _ => rfl⟩, trivial⟩
          · rintro ⟨⟨⟨j, o2⟩, hJ⟩, vs2⟩
            have hJ : FjI k j o2 := hJ
            dsimp only
            conv => whnf
            conv =>
              arg 2
              tactic' =>
                apply eff_index_sli (k := k) (hi := (ir_20 hI.k2)) (ho := ?how9) (hT := ?hTw9) (hx := ?hxw9) (hk := ?hkw9) (hlt := ?hltw9)
                case how9 => rfl
                case hTw9 => rfl
                case hxw9 => rfl
                case hkw9 => rfl
                case hltw9 => exact hkL
            conv => whnf
            conv =>
              arg 2
              tactic' =>
                apply eff_load_sub (ho := ?how8) (hT := ?hTw8) (hx := ?hxw8) (hb := ?hbw8) (hm := ?hmw8) (hv := ?hvw8)
                case how8 => rfl
                case hTw8 => rfl
                case hxw8 => rfl
                case hbw8 => rfl
                case hmw8 => exact subC_u8 L hkL
                case hvw8 => rfl
            conv => whnf
            refine bcase_intro (fun hle => ?_) (fun hle => ?_)
            · have hj2 : j ≤ 2 := by have h := of_decide_eq_true hle; rw [m3] at h; omega
              conv => whnf
              refine .inl ?_
              conv => whnf
              refine .inl ?_
              conv => whnf
              refine ⟨rfl, ?_⟩
              conv => whnf
              refine ⟨OP.app o2 (m := 1) (by have := hJ.len; have := hJ.j3; have := hI.k2; omega), fun c2 k2 => ?_⟩
              conv => whnf
              refine ⟨[0, 1, 2, 5], [0, 2, 3, 4, 5, 6, 7], [0, 3], fun vs3 => ?_⟩
              conv => whnf
              refine ⟨u8C_pure L, pureL_append (ptsC_pure _) (fun _ _ => rfl), ?_⟩
              conv => whnf
              refine ⟨_, _, ?_, ?_, (⟨(j + 1, o2.push [⟨(k : Int), IntKind.i64.wrap ((k : Int) * (k : Int)), 7, ir_20 hI.k2, IR.wrap _, by decide⟩] rfl c2 k2), hJ.push hI.k2 hj2 (corn_k hI.k2) k2⟩, vs3), (by omega : 3 - (j + 1) < 3 - j), rfl, rfl⟩
              · exact ⟨fun _ => rfl, fun _ => rfl, fun _ => rfl, fun _ => rfl, fun _ => rfl, fun _ => rfl, fun _ => rfl, fun ρ => sint_e (wrap_add1 (n := 3) (by omega) (by decide)) ρ, stm _⟩
              · exact ⟨⟨rfl, rfl, rfl, fun _ => rfl⟩, ⟨rfl, rfl, rfl, fun _ => rfl⟩, ⟨rfl, rfl, rfl, fun ρ => push_py o2 [⟨(k : Int), IntKind.i64.wrap ((k : Int) * (k : Int)), 7, ir_20 hI.k2, IR.wrap _, by decide⟩] c2 k2 ρ⟩, OP.push_blk (n := 1) o2 [⟨(k : Int), IntKind.i64.wrap ((k : Int) * (k : Int)), 7, ir_20 hI.k2, IR.wrap _, by decide⟩] rfl c2 k2 (fun _ => rfl), trivial⟩
            · have hj1 : 1 ≤ j := by have h := of_decide_eq_false hle; rw [m3] at h; omega
              conv => whnf
              refine ⟨[0, 1, 2, 3], [0, 2, 3, 4, 5, 6], [0, 3], fun vs3 => ?_⟩
              conv => whnf
              refine ⟨u8C_pure L, ptsC_pure _, ?_⟩
              conv => whnf
              refine ⟨_, _, ?_, ?_, (⟨(k + 1, o2), hJ.next hlt hj1⟩, vs3), (by omega : fN L - (k + 1) < fN L - k), rfl, rfl⟩
              · exact ⟨fun _ => rfl, fun _ => rfl, fun _ => rfl, fun _ => rfl, fun _ => rfl, fun _ => rfl, fun ρ => sint_e (wrap_add1 hlt (ir_20 (fN_le L))) ρ, stm _⟩
              · exact ⟨⟨rfl, rfl, rfl, fun _ => rfl⟩, ⟨rfl, rfl, rfl, fun _ => rfl⟩, ⟨rfl, rfl, rfl, fun _ => rfl⟩, ⟨rfl, rfl, rfl, fun _ => rfl⟩, trivial⟩
        · have hlt : fN L ≤ k := n_ge hlt
          obtain rfl : k = fN L := Nat.le_antisymm hI.k1 hlt
          conv => whnf
          have hN1 : 1 ≤ fN L := by have : L.length ≠ 0 := fun e => h0 (List.length_eq_zero_iff.1 e); unfold fN; omega
          have hkL : 0 < L.length := Nat.lt_of_lt_of_le hN1 (fN_len L)
          obtain ⟨ol, onl, oc, ook⟩ := o
          have hl0 : ol.length ≠ 0 := fun e => by
            have h1 : ol = [] := List.length_eq_zero_iff.1 e
            have h2 := hI.g.t
            obtain ⟨m, hm⟩ : ∃ m, fN L = m + 1 := ⟨fN L - 1, by omega⟩
            rw [hm, csP_succ] at h2
            have h2 : ol.getLast? = _ := h2
            rw [h1] at h2
            simp at h2
          obtain rfl : onl = false := by
            cases onl with
            | false => rfl
            | true => exact absurd (ook.2.2 rfl) (by have h1 : ol.length ≤ oc := ook.1; omega)
          have hl60 : ol.length ≤ 60 := by have h1 : ol.length ≤ 3 * fN L := hI.len; have := fN_le L; omega
          conv => whnf
          refine bcase_intro (fun _ => ?_) (fun h => absurd (of_decide_eq_false h) (by omega))
          conv => whnf
          conv =>
            arg 2
            tactic' =>
              apply eff_index_sli (k := 0) (hi := (by decide)) (ho := ?how10) (hT := ?hTw10) (hx := ?hxw10) (hk := ?hkw10) (hlt := ?hltw10)
              case how10 => rfl
              case hTw10 => rfl
              case hxw10 => rfl
              case hkw10 => rfl
              case hltw10 => exact hkL
          conv => whnf
          conv =>
            arg 2
            tactic' =>
              apply eff_load_sub (ho := ?how8) (hT := ?hTw8) (hx := ?hxw8) (hb := ?hbw8) (hm := ?hmw8) (hv := ?hvw8)
              case how8 => rfl
              case hTw8 => rfl
              case hxw8 => rfl
              case hbw8 => rfl
              case hmw8 => exact subC_u8 L hkL
              case hvw8 => rfl
          conv => whnf
          refine bcase_intro (fun hodd => ?_) (fun hodd => ?_)
          · conv => whnf
            refine .inl ?_
            conv => whnf
            refine .inl ?_
            conv => whnf
            refine ⟨rfl, ?_⟩
            conv => whnf
            refine ⟨OP.app ⟨ol, false, oc, ook⟩ (m := 1) (by show (ol.length + 1) * 3 ≤ _; omega), fun c2 k2 => ?_⟩
            conv => whnf
            refine .inl ?_
            conv => whnf
            refine .inr ⟨1, 5, 6, ?_⟩
            conv => whnf
            refine ⟨⟨pureL_append (ptsC_pure _) (fun _ _ => rfl), rfl, rfl⟩, fun r => ?_⟩
            conv => whnf
            refine .inl ?_
            conv => whnf
            refine ⟨1, ?_⟩
            conv => whnf
            refine ⟨.inl rfl, ⟨fun _ _ => rfl, trivial⟩, ?_⟩
            refine ⟨_, _, _, _, [⟨false, r, 0, ol.length + 1, c2, k2, ol ++ [c0P], by simp, 9, ir9⟩], _, rfl, rfl, ⟨by simp, fun p hp => ?_⟩, fun o1 f1 ho1 hf1 => ?_⟩
            · obtain rfl := List.mem_singleton.1 hp
              refine ⟨by show ol.length + 1 ≤ 1000; omega, .inr ?_⟩
              show (⟨(r, 0), ptsC (ol ++ [c0P])⟩ : Ent) ∈ _
              rw [ptsC_append]
              exact List.mem_append_right _ (List.mem_singleton.2 rfl)
            rw [fans_heal (p := ⟨false, r, 0, ol.length + 1, c2, k2, ol ++ [c0P], by simp, 9, ir9⟩) (fN_le L) hI.g (.inr ⟨hN1, by show (ol ++ [c0P]).take (ol.length + 1) = _; rw [List.take_of_length_le (by simp)]; rfl⟩) rfl] at ho1 hf1
            dsimp only at ho1 hf1
            conv => whnf
            refine bcase_intro (fun hn3 => ?_) (fun hn3 => ?_)
            · have hn3 : fN L < 3 := by have h : ((fN L : Nat) : Int) < 3 := of_decide_eq_true hn3; omega
              conv => whnf
              have ht0 : o1.l.length = 0 := by rw [ho1]; unfold trisF; rw [List.length_map, List.length_range]; omega
              have hb0 : f1.l = [⟨9, 25, ir9, ir25⟩] := by rw [hf1]; unfold badF; rw [if_pos (by omega)]
              refine bcase_intro (fun _ => ?_) (fun h => absurd h (by rw [ht0]; decide))
              conv => whnf
              refine .inl ?_
              conv => whnf
              refine .inl ?_
              conv => whnf
              refine ⟨⟨ftsC_pure _, fun _ _ => rfl, trivial⟩, ⟨_, _, _, _, _, _, _, _, _, _, f1.l, [⟨9, 25, ir9, ir25⟩], true, rfl, rfl, Nat.le_refl _, Nat.le_refl _, (by rw [List.take_length, hb0]; kernel_rfl), ?_⟩⟩
              conv => whnf
              refine ⟨[0], [0], fun _ => ?_⟩
              conv => whnf
              refine ⟨u8C_pure L, ?_⟩
              conv => whnf
              exact ⟨_, [], rfl, ⟨⟨rfl, rfl, rfl, fun _ => rfl⟩, trivial⟩, trivial, _, fun _ => rfl, hc⟩
            · have hn3 : 3 ≤ fN L := by have h : ¬ ((fN L : Nat) : Int) < 3 := of_decide_eq_false hn3; omega
              conv => whnf
              have hlen : o1.l.length = fN L - 2 := by rw [ho1]; unfold trisF; rw [List.length_map, List.length_range]
              have hb0 : f1.l = [] := by rw [hf1]; unfold badF; rw [if_neg (by omega)]
              have hw2 : IntKind.i64.wrap (((fN L : Nat) : Int) - 2) = ((fN L - 2 : Nat) : Int) := by have := fN_le L; rw [wrap_id (by unfold IR; omega)]; omega
              conv => whnf
              refine bcase_intro (fun h => by rw [hw2, hlen] at h; simp at h) (fun _ => ?_)
              conv => whnf
              refine bcase_intro (fun h => by rw [hb0] at h; simp at h) (fun _ => ?_)
              conv => whnf
              refine loop_st (G := {k : Nat // k ≤ fN L - 2} × (Nat → Value)) (fun g => (.c (.sli false 0 0 L.length cap hl) :: .c (.val (g.2 1)) :: .c (.val (.bool false)) :: .c (.val (.bool true)) :: .c (.val (g.2 4)) :: .c (.val (g.2 5)) :: .c (.val (g.2 6)) :: .c (.val (g.2 7)) :: o1.sl 1 :: .c (.val (g.2 9)) :: .c (.int (g.1.1 : Nat) (ir_20 (Nat.le_trans g.1.2 (Nat.le_trans (Nat.sub_le _ _) (fN_le L))))) :: .c (.val (g.2 11)) :: .c (.val (g.2 12)) :: .c (.val (g.2 13)) :: .c (.val (g.2 14)) :: .c (.val (g.2 15)) :: .c (.val (g.2 16)) :: .c (.val (g.2 17)) :: .c (.val (g.2 18)) :: .c (.val (g.2 19)) :: .c (.val (g.2 20)) :: .c (.val (g.2 21)) :: .c (.val (g.2 22)) :: .c (.val (g.2 23)) :: .c (.val (g.2 24)) :: .c (.val (g.2 25)) :: .c (.val (g.2 26)) :: .c (.val (g.2 27)) :: .c (.val (g.2 28)) :: .c (.val (g.2 29)) :: .c (.val (g.2 30)) :: .c (.val (g.2 31)) :: .c (.val (g.2 32)) :: .c (.val (g.2 33)) :: .c (.val (g.2 34)) :: .c (.val (g.2 35)) :: .c (.val (g.2 36)) :: .c (.val (g.2 37)) :: .c (.val (g.2 38)) :: .c (.val (g.2 39)) :: .c (.val (g.2 40)) :: .c (.val (g.2 41)) :: .c (.val (g.2 42)) :: .c (.val (g.2 43)) :: .c (.val (g.2 44)) :: .c (.val (g.2 45)) :: .c (.val (g.2 46)) :: .c (.val (g.2 47)) :: .c (.val (g.2 48)) :: .c (.val (g.2 49)) :: .c (.val (g.2 50)) :: .c (.val (g.2 51)) :: .c (.val (g.2 52)) :: .c (.val (g.2 53)) :: .c (.val (g.2 54)) :: .c (.val (g.2 55)) :: .c (.val (g.2 56)) :: .c (.val (g.2 57)) :: .c (.val (g.2 58)) :: .c (.val (g.2 59)) :: .c (.val (g.2 60)) :: .c (.val (g.2 61)) :: .c (.val (g.2 62)) :: .c (.val (g.2 63)) :: .c (.val (g.2 64)) :: .c (.val (g.2 65)) :: .c (.val (g.2 66)) :: .c (.val (g.2 67)) :: .c (.val (g.2 68)) :: .c (.val (g.2 69)) :: .c (.val (g.2 70)) :: .c (.val (g.2 71)) :: .c (.val (g.2 72)) :: .c (.val (g.2 73)) :: .c (.val (g.2 74)) :: .c (.val (g.2 75)) :: .c (.val (g.2 76)) :: .c (.val (g.2 77)) :: .c (.val (g.2 78)) :: .c (.val (g.2 79)) :: .c (.val (g.2 80)) :: .c (.val (g.2 81)) :: .c (.val (g.2 82)) :: .c (.val (g.2 83)) :: .c (.val (g.2 84)) :: .c (.val (g.2 85)) :: .c (.val (g.2 86)) :: .c (.val (g.2 87)) :: .c (.val (g.2 88)) :: .c (.val (g.2 89)) :: .c (.val (g.2 90)) :: .c (.val (g.2 91)) :: .c (.val (g.2 92)) :: .c (.val (g.2 93)) :: .c (.val (g.2 94)) :: .c (.val (g.2 95)) :: .c (.val (g.2 96)) :: .c (.val (g.2 97)) :: .c (.val (g.2 98)) :: .c (.val (g.2 99)) :: .c (.val (g.2 100)) :: .c (.val (g.2 101)) :: .c (.val (g.2 102)) :: [])) (fun g => [⟨.t ty, true, u8C L, 0⟩, o1.blk]) (fun g => fN L - 2 - g.1.1) ?_ ?_
              · refine ⟨[0, 7], [0, 2, 3, 8, 10], [0, 1], fun vs4 => ?_⟩
                conv => whnf
                refine ⟨u8C_pure L, trsC_pure _, ?_⟩
                conv => whnf
                refine ⟨_, _, ?_, ?_, (⟨0, Nat.zero_le _⟩, vs4), rfl, rfl⟩
                · exact ⟨fun _ => rfl, fun _ => rfl, fun _ => rfl, fun _ => rfl, fun _ => rfl, fun _ => rfl, fun _ => rfl, fun _ => rfl, fun _ => rfl, fun _ => rfl, fun _ => rfl, stm _⟩
                · exact ⟨⟨rfl, rfl, rfl, fun _ => rfl⟩, ⟨rfl, rfl, rfl, fun _ => rfl⟩, trivial⟩
              · rintro ⟨⟨k, hk⟩, vs4⟩
                have hk : k ≤ fN L - 2 := hk
                dsimp only
                conv => whnf
                refine bcase_intro (fun hlt => ?_) (fun hlt => ?_)
                · have hlt : k < o1.l.length := n_lt hlt
                  have hk2 : k < fN L - 2 := by omega
                  have hn20 := fN_le L
                  have hw : IntKind.i64.wrap ((k : Int) + 1) = ((k + 1 : Nat) : Int) := by rw [wrap_id (by unfold IR; omega)]; omega
                  have hw3 : IntKind.i64.wrap ((k : Int) + 2) = ((k + 2 : Nat) : Int) := by rw [wrap_id (by unfold IR; omega)]; omega
                  have htk : o1.l[k] = triF k := by
                    have h1 : o1.l[k]? = (trisF (fN L))[k]? := by rw [ho1]
                    rw [List.getElem?_eq_getElem hlt] at h1
                    unfold trisF at h1
                    rw [List.getElem?_map, List.getElem?_range hk2] at h1
                    simpa using h1
                  conv => whnf
                  conv =>
                    arg 2
                    tactic' =>
                      apply eff_index_sli (k := k) (hi := ir_20 (by omega)) (ho := ?how11) (hT := ?hTw11) (hx := ?hxw11) (hk := ?hkw11) (hlt := ?hltw11)
                      case how11 => rfl
                      case hTw11 => rfl
                      case hxw11 => rfl
                      case hkw11 => rfl
                      case hltw11 => exact hlt
                  conv => whnf
                  conv =>
                    arg 2
                    tactic' =>
                      apply eff_load_sub (ho := ?how12) (hT := ?hTw12) (hx := ?hxw12) (hb := ?hbw12) (hm := ?hmw12) (hv := ?hvw12)
                      case how12 => rfl
                      case hTw12 => rfl
                      case hxw12 => rfl
                      case hbw12 => rfl
                      case hmw12 => exact (by rw [Nat.zero_add]; exact subC_trs o1.l hlt : subC (trsC o1.l) (0 + k * 9) 9 = some (trC o1.l[k]))
                      case hvw12 => rfl
                  conv => whnf
                  refine bcase_intro (fun h => absurd h (by rw [htk, hw, hw3, tri_same (by omega)]; decide)) (fun _ => ?_)
                  · conv => whnf
                    refine ⟨[0, 1], [0, 2, 3, 8, 10], [0, 1], fun vs5 => ?_⟩
                    conv => whnf
                    refine ⟨u8C_pure L, trsC_pure _, ?_⟩
                    conv => whnf
                    refine ⟨_, _, ?_, ?_, (⟨k + 1, hk2⟩, vs5), (by omega : fN L - 2 - (k + 1) < fN L - 2 - k), rfl, rfl⟩
                    · exact ⟨fun _ => rfl, fun _ => rfl, fun _ => rfl, fun _ => rfl, fun _ => rfl, fun _ => rfl, fun _ => rfl, fun _ => rfl, fun _ => rfl, fun _ => rfl, fun ρ => sint_e hw ρ, stm _⟩
                    · exact ⟨⟨rfl, rfl, rfl, fun _ => rfl⟩, ⟨rfl, rfl, rfl, fun _ => rfl⟩, trivial⟩
                · conv => whnf
                  refine ⟨[0], [0], fun _ => ?_⟩
                  conv => whnf
                  refine ⟨u8C_pure L, ?_⟩
                  conv => whnf
                  exact ⟨_, [], rfl, ⟨⟨rfl, rfl, rfl, fun _ => rfl⟩, trivial⟩, trivial, _, fun _ => rfl, hc⟩
          · conv => whnf
            refine .inl ?_
            conv => whnf
            refine .inr ⟨1, 3, 4, ?_⟩
            conv => whnf
            refine ⟨⟨ptsC_pure _, rfl, rfl⟩, fun r => ?_⟩
            conv => whnf
            refine .inl ?_
            conv => whnf
            refine ⟨1, ?_⟩
            conv => whnf
            refine ⟨.inl rfl, ⟨fun _ _ => rfl, trivial⟩, ?_⟩
            refine ⟨_, _, _, _, [⟨false, r, 0, ol.length, oc, ook, ol, Nat.le_refl _, 9, ir9⟩], _, rfl, rfl, ⟨by simp, fun p hp => ?_⟩, fun o1 f1 ho1 hf1 => ?_⟩
            · obtain rfl := List.mem_singleton.1 hp
              refine ⟨by show ol.length ≤ 1000; omega, .inr ?_⟩
              exact List.mem_append_right _ (List.mem_singleton.2 rfl)
            rw [fans_heal (p := ⟨false, r, 0, ol.length, oc, ook, ol, Nat.le_refl _, 9, ir9⟩) (fN_le L) hI.g (.inl (List.take_length)) rfl] at ho1 hf1
            dsimp only at ho1 hf1
            conv => whnf
            refine bcase_intro (fun hn3 => ?_) (fun hn3 => ?_)
            · have hn3 : fN L < 3 := by have h : ((fN L : Nat) : Int) < 3 := of_decide_eq_true hn3; omega
              conv => whnf
              have ht0 : o1.l.length = 0 := by rw [ho1]; unfold trisF; rw [List.length_map, List.length_range]; omega
              have hb0 : f1.l = [⟨9, 25, ir9, ir25⟩] := by rw [hf1]; unfold badF; rw [if_pos (by omega)]
              refine bcase_intro (fun _ => ?_) (fun h => absurd h (by rw [ht0]; decide))
              conv => whnf
              refine .inl ?_
              conv => whnf
              refine .inl ?_
              conv => whnf
              refine ⟨⟨ftsC_pure _, fun _ _ => rfl, trivial⟩, ⟨_, _, _, _, _, _, _, _, _, _, f1.l, [⟨9, 25, ir9, ir25⟩], true, rfl, rfl, Nat.le_refl _, Nat.le_refl _, (by rw [List.take_length, hb0]; kernel_rfl), ?_⟩⟩
              conv => whnf
              refine ⟨[0], [0], fun _ => ?_⟩
              conv => whnf
              refine ⟨u8C_pure L, ?_⟩
              conv => whnf
              exact ⟨_, [], rfl, ⟨⟨rfl, rfl, rfl, fun _ => rfl⟩, trivial⟩, trivial, _, fun _ => rfl, hc⟩
            · have hn3 : 3 ≤ fN L := by have h : ¬ ((fN L : Nat) : Int) < 3 := of_decide_eq_false hn3; omega
              conv => whnf
              have hlen : o1.l.length = fN L - 2 := by rw [ho1]; unfold trisF; rw [List.length_map, List.length_range]
              have hb0 : f1.l = [] := by rw [hf1]; unfold badF; rw [if_neg (by omega)]
              have hw2 : IntKind.i64.wrap (((fN L : Nat) : Int) - 2) = ((fN L - 2 : Nat) : Int) := by have := fN_le L; rw [wrap_id (by unfold IR; omega)]; omega
              conv => whnf
              refine bcase_intro (fun h => by rw [hw2, hlen] at h; simp at h) (fun _ => ?_)
              conv => whnf
              refine bcase_intro (fun h => by rw [hb0] at h; simp at h) (fun _ => ?_)
              conv => whnf
              refine loop_st (G := {k : Nat // k ≤ fN L - 2} × (Nat → Value)) (fun g => (.c (.sli false 0 0 L.length cap hl) :: .c (.val (g.2 1)) :: .c (.val (.bool false)) :: .c (.val (.bool true)) :: .c (.val (g.2 4)) :: .c (.val (g.2 5)) :: .c (.val (g.2 6)) :: .c (.val (g.2 7)) :: o1.sl 1 :: .c (.val (g.2 9)) :: .c (.int (g.1.1 : Nat) (ir_20 (Nat.le_trans g.1.2 (Nat.le_trans (Nat.sub_le _ _) (fN_le L))))) :: .c (.val (g.2 11)) :: .c (.val (g.2 12)) :: .c (.val (g.2 13)) :: .c (.val (g.2 14)) :: .c (.val (g.2 15)) :: .c (.val (g.2 16)) :: .c (.val (g.2 17)) :: .c (.val (g.2 18)) :: .c (.val (g.2 19)) :: .c (.val (g.2 20)) :: .c (.val (g.2 21)) :: .c (.val (g.2 22)) :: .c (.val (g.2 23)) :: .c (.val (g.2 24)) :: .c (.val (g.2 25)) :: .c (.val (g.2 26)) :: .c (.val (g.2 27)) :: .c (.val (g.2 28)) :: .c (.val (g.2 29)) :: .c (.val (g.2 30)) :: .c (.val (g.2 31)) :: .c (.val (g.2 32)) :: .c (.val (g.2 33)) :: .c (.val (g.2 34)) :: .c (.val (g.2 35)) :: .c (.val (g.2 36)) :: .c (.val (g.2 37)) :: .c (.val (g.2 38)) :: .c (.val (g.2 39)) :: .c (.val (g.2 40)) :: .c (.val (g.2 41)) :: .c (.val (g.2 42)) :: .c (.val (g.2 43)) :: .c (.val (g.2 44)) :: .c (.val (g.2 45)) :: .c (.val (g.2 46)) :: .c (.val (g.2 47)) :: .c (.val (g.2 48)) :: .c (.val (g.2 49)) :: .c (.val (g.2 50)) :: .c (.val (g.2 51)) :: .c (.val (g.2 52)) :: .c (.val (g.2 53)) :: .c (.val (g.2 54)) :: .c (.val (g.2 55)) :: .c (.val (g.2 56)) :: .c (.val (g.2 57)) :: .c (.val (g.2 58)) :: .c (.val (g.2 59)) :: .c (.val (g.2 60)) :: .c (.val (g.2 61)) :: .c (.val (g.2 62)) :: .c (.val (g.2 63)) :: .c (.val (g.2 64)) :: .c (.val (g.2 65)) :: .c (.val (g.2 66)) :: .c (.val (g.2 67)) :: .c (.val (g.2 68)) :: .c (.val (g.2 69)) :: .c (.val (g.2 70)) :: .c (.val (g.2 71)) :: .c (.val (g.2 72)) :: .c (.val (g.2 73)) :: .c (.val (g.2 74)) :: .c (.val (g.2 75)) :: .c (.val (g.2 76)) :: .c (.val (g.2 77)) :: .c (.val (g.2 78)) :: .c (.val (g.2 79)) :: .c (.val (g.2 80)) :: .c (.val (g.2 81)) :: .c (.val (g.2 82)) :: .c (.val (g.2 83)) :: .c (.val (g.2 84)) :: .c (.val (g.2 85)) :: .c (.val (g.2 86)) :: .c (.val (g.2 87)) :: .c (.val (g.2 88)) :: .c (.val (g.2 89)) :: .c (.val (g.2 90)) :: .c (.val (g.2 91)) :: .c (.val (g.2 92)) :: .c (.val (g.2 93)) :: .c (.val (g.2 94)) :: .c (.val (g.2 95)) :: .c (.val (g.2 96)) :: .c (.val (g.2 97)) :: .c (.val (g.2 98)) :: .c (.val (g.2 99)) :: .c (.val (g.2 100)) :: .c (.val (g.2 101)) :: .c (.val (g.2 102)) :: [])) (fun g => [⟨.t ty, true, u8C L, 0⟩, o1.blk]) (fun g => fN L - 2 - g.1.1) ?_ ?_
              · refine ⟨[0, 5], [0, 2, 3, 8, 10], [0, 1], fun vs4 => ?_⟩
                conv => whnf
                refine ⟨u8C_pure L, trsC_pure _, ?_⟩
                conv => whnf
                refine ⟨_, _, ?_, ?_, (⟨0, Nat.zero_le _⟩, vs4), rfl, rfl⟩
                · exact ⟨fun _ => rfl, fun _ => rfl, fun _ => rfl, fun _ => rfl, fun _ => rfl, fun _ => rfl, fun _ => rfl, fun _ => rfl, fun _ => rfl, fun _ => rfl, fun _ => rfl, stm _⟩
                · exact ⟨⟨rfl, rfl, rfl, fun _ => rfl⟩, ⟨rfl, rfl, rfl, fun _ => rfl⟩, trivial⟩
              · rintro ⟨⟨k, hk⟩, vs4⟩
                have hk : k ≤ fN L - 2 := hk
                dsimp only
                conv => whnf
                refine bcase_intro (fun hlt => ?_) (fun hlt => ?_)
                · have hlt : k < o1.l.length := n_lt hlt
                  have hk2 : k < fN L - 2 := by omega
                  have hn20 := fN_le L
                  have hw : IntKind.i64.wrap ((k : Int) + 1) = ((k + 1 : Nat) : Int) := by rw [wrap_id (by unfold IR; omega)]; omega
                  have hw3 : IntKind.i64.wrap ((k : Int) + 2) = ((k + 2 : Nat) : Int) := by rw [wrap_id (by unfold IR; omega)]; omega
                  have htk : o1.l[k] = triF k := by
                    have h1 : o1.l[k]? = (trisF (fN L))[k]? := by rw [ho1]
                    rw [List.getElem?_eq_getElem hlt] at h1
                    unfold trisF at h1
                    rw [List.getElem?_map, List.getElem?_range hk2] at h1
                    simpa using h1
                  conv => whnf
                  conv =>
                    arg 2
                    tactic' =>
                      apply eff_index_sli (k := k) (hi := ir_20 (by omega)) (ho := ?how13) (hT := ?hTw13) (hx := ?hxw13) (hk := ?hkw13) (hlt := ?hltw13)
                      case how13 => rfl
                      case hTw13 => rfl
                      case hxw13 => rfl
                      case hkw13 => rfl
                      case hltw13 => exact hlt
                  conv => whnf
                  conv =>
                    arg 2
                    tactic' =>
                      apply eff_load_sub (ho := ?how14) (hT := ?hTw14) (hx := ?hxw14) (hb := ?hbw14) (hm := ?hmw14) (hv := ?hvw14)
                      case how14 => rfl
                      case hTw14 => rfl
                      case hxw14 => rfl
                      case hbw14 => rfl
                      case hmw14 => exact (by rw [Nat.zero_add]; exact subC_trs o1.l hlt : subC (trsC o1.l) (0 + k * 9) 9 = some (trC o1.l[k]))
                      case hvw14 => rfl
                  conv => whnf
                  refine bcase_intro (fun h => absurd h (by rw [htk, hw, hw3, tri_same (by omega)]; decide)) (fun _ => ?_)
                  · conv => whnf
                    refine ⟨[0, 1], [0, 2, 3, 8, 10], [0, 1], fun vs5 => ?_⟩
                    conv => whnf
                    refine ⟨u8C_pure L, trsC_pure _, ?_⟩
                    conv => whnf
                    refine ⟨_, _, ?_, ?_, (⟨k + 1, hk2⟩, vs5), (by omega : fN L - 2 - (k + 1) < fN L - 2 - k), rfl, rfl⟩
                    · exact ⟨fun _ => rfl, fun _ => rfl, fun _ => rfl, fun _ => rfl, fun _ => rfl, fun _ => rfl, fun _ => rfl, fun _ => rfl, fun _ => rfl, fun _ => rfl, fun ρ => sint_e hw ρ, stm _⟩
                    · exact ⟨⟨rfl, rfl, rfl, fun _ => rfl⟩, ⟨rfl, rfl, rfl, fun _ => rfl⟩, trivial⟩
                · conv => whnf
                  refine ⟨[0], [0], fun _ => ?_⟩
                  conv => whnf
                  refine ⟨u8C_pure L, ?_⟩
                  conv => whnf
                  exact ⟨_, [], rfl, ⟨⟨rfl, rfl, rfl, fun _ => rfl⟩, trivial⟩, trivial, _, fun _ => rfl, hc⟩
  · refine ⟨fun ρ ρ' e => rfl, ?_⟩
    conv => whnf
    refine .inr ?_
    conv => whnf
    refine .inl ?_
    conv => whnf
    refine ⟨trivial, ⟨rfl, rfl, ?_⟩⟩
    conv => whnf
    refine .inl ⟨1, ?_⟩
    conv => whnf
    refine .inl ?_
    conv => whnf
    refine .inl ?_
    conv => whnf
    refine ⟨1, ?_⟩
    conv => whnf
    refine ⟨.inl rfl, ⟨fun _ _ => rfl, trivial⟩, ?_⟩
    refine ⟨_, _, _, _, [⟨true, 0, 0, 0, 0, by unfold SliOk; decide, [], Nat.le_refl _, 9, ir9⟩], _, rfl, rfl, ⟨by simp, fun p hp => ?_⟩, fun o1 f1 ho1 hf1 => ?_⟩
    · obtain rfl := List.mem_singleton.1 hp
      exact ⟨Nat.zero_le _, .inl rfl⟩
    rw [fans_heal (p := ⟨true, 0, 0, 0, 0, by unfold SliOk; decide, [], Nat.le_refl _, 9, ir9⟩) (n := 0) (by decide) .zero (.inl rfl) rfl] at ho1 hf1
    dsimp only at ho1 hf1
    conv => whnf
    have ht0 : o1.l.length = 0 := by rw [ho1]; rfl
    have hb0 : f1.l = [⟨9, 25, ir9, ir25⟩] := by rw [hf1]; rfl
    refine bcase_intro (fun _ => ?_) (fun h => absurd h (by rw [ht0]; decide))
    conv => whnf
    refine .inl ?_
    conv => whnf
    refine .inl ?_
    conv => whnf
    refine ⟨⟨ftsC_pure _, fun _ _ => rfl, trivial⟩, ⟨_, _, _, _, _, _, _, _, _, _, f1.l, [⟨9, 25, ir9, ir25⟩], true, rfl, rfl, Nat.le_refl _, Nat.le_refl _, (by rw [List.take_length, hb0]; kernel_rfl), ?_⟩⟩
    conv => whnf
    refine ⟨[0], [0], fun _ => ?_⟩
    conv => whnf
    refine ⟨fun _ _ => rfl, ?_⟩
    conv => whnf
    exact ⟨_, [], rfl, ⟨⟨rfl, rfl, rfl, fun _ => rfl⟩, trivial⟩, trivial, _, fun _ => rfl, hc⟩
end Go.Proofs.YtdjpbccaglkafaaDoor
