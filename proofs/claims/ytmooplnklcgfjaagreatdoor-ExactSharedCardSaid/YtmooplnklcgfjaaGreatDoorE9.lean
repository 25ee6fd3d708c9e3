/- Segments and triangles that touch, by the reference. -/
import Derived.Test.YtmooplnklcgfjaaGreatDoorE7
namespace Go.Proofs.YtmooplnklcgfjaaGreatDoor
open Go.RowKit
set_option maxRecDepth 100000

theorem ag_AtBtCt {x y z : Int} (uA : decide (0 ≤ x) = true) (uB : decide (0 ≤ y) = true) (uC : decide (0 ≤ z) = true) : true = agreeB x y z := by unfold agreeB; rw [uA, uB, uC]; rfl
theorem ag_AtBtCfDtEt {x y z : Int} (uA : decide (0 ≤ x) = true) (uB : decide (0 ≤ y) = true) (uC : decide (0 ≤ z) = false) (uD : decide (x ≤ 0) = true) (uE : decide (y ≤ 0) = true) : decide (z ≤ 0) = agreeB x y z := by unfold agreeB; rw [uA, uB, uC, uD, uE]; rfl
theorem ag_AtBtCfDtEf {x y z : Int} (uA : decide (0 ≤ x) = true) (uB : decide (0 ≤ y) = true) (uC : decide (0 ≤ z) = false) (uD : decide (x ≤ 0) = true) (uE : decide (y ≤ 0) = false) : false = agreeB x y z := by unfold agreeB; rw [uA, uB, uC, uD, uE]; rfl
theorem ag_AtBtCfDf {x y z : Int} (uA : decide (0 ≤ x) = true) (uB : decide (0 ≤ y) = true) (uC : decide (0 ≤ z) = false) (uD : decide (x ≤ 0) = false) : false = agreeB x y z := by unfold agreeB; rw [uA, uB, uC, uD]; rfl
theorem ag_AtBfDtEt {x y z : Int} (uA : decide (0 ≤ x) = true) (uB : decide (0 ≤ y) = false) (uD : decide (x ≤ 0) = true) (uE : decide (y ≤ 0) = true) : decide (z ≤ 0) = agreeB x y z := by unfold agreeB; rw [uA, uB, uD, uE]; rfl
theorem ag_AtBfDtEf {x y z : Int} (uA : decide (0 ≤ x) = true) (uB : decide (0 ≤ y) = false) (uD : decide (x ≤ 0) = true) (uE : decide (y ≤ 0) = false) : false = agreeB x y z := by unfold agreeB; rw [uA, uB, uD, uE]; rfl
theorem ag_AtBfDf {x y z : Int} (uA : decide (0 ≤ x) = true) (uB : decide (0 ≤ y) = false) (uD : decide (x ≤ 0) = false) : false = agreeB x y z := by unfold agreeB; rw [uA, uB, uD]; rfl
theorem ag_AfDtEt {x y z : Int} (uA : decide (0 ≤ x) = false) (uD : decide (x ≤ 0) = true) (uE : decide (y ≤ 0) = true) : decide (z ≤ 0) = agreeB x y z := by unfold agreeB; rw [uA, uD, uE]; rfl
theorem ag_AfDtEf {x y z : Int} (uA : decide (0 ≤ x) = false) (uD : decide (x ≤ 0) = true) (uE : decide (y ≤ 0) = false) : false = agreeB x y z := by unfold agreeB; rw [uA, uD, uE]; rfl
theorem ag_AfDf {x y z : Int} (uA : decide (0 ≤ x) = false) (uD : decide (x ≤ 0) = false) : false = agreeB x y z := by unfold agreeB; rw [uA, uD]; rfl
def dWithin : Dn
  | [.agg [.int x1 _, .int y1 _, .int z1 _], .agg [.int x3 _, .int y3 _, .int z3 _, .int x4 _, .int y4 _, .int z4 _, .int x5 _, .int y5 _, .int z5 _]] =>
    some ((some (axZ (normZ (⟨x3, y3, z3⟩ : V3) (⟨x4, y4, z4⟩ : V3) (⟨x5, y5, z5⟩ : V3)) ≠ 3)), .c (.val (.bool (inB2 (axZ (normZ (⟨x3, y3, z3⟩ : V3) (⟨x4, y4, z4⟩ : V3) (⟨x5, y5, z5⟩ : V3))) (⟨x3, y3, z3⟩ : V3) (⟨x4, y4, z4⟩ : V3) (⟨x5, y5, z5⟩ : V3) (⟨x1, y1, z1⟩ : V3)))))
  | _ => none
set_option maxHeartbeats 8000000 in
theorem spWithin : SpOk Tryz.prog 60 dWithin := sp_of2 (un := 20) (n := 3) ⟨Tryz.func60, by kernel_rfl, by kernel_rfl⟩ baseE10_ok fxAxis_ok fun args p v hd => by
  unfold dWithin at hd
  split at hd
  · rename_i x1 hx1 y1 hy1 z1 hz1 x3 hx3 y3 hy3 z3 hz3 x4 hx4 y4 hy4 z4 hz4 x5 hx5 y5 hy5 z5 hz5
    cases hd
    refine ⟨[.agg [.int x1 hx1, .int y1 hy1, .int z1 hz1], .agg [.int x3 hx3, .int y3 hy3, .int z3 hz3, .int x4 hx4, .int y4 hy4, .int z4 hz4, .int x5 hx5, .int y5 hy5, .int z5 hz5]], fun _ => rfl, fun _ _ => rfl, fun _ _ => rfl, fun hp => ?_⟩
    have hpre := hp _ rfl
    conv => whnf
    refine bcase_intro (fun a0 => ?_) (fun a0 => ?_)
    · have ha := ax0 (v := (normZ (⟨x3, y3, z3⟩ : V3) (⟨x4, y4, z4⟩ : V3) (⟨x5, y5, z5⟩ : V3))) a0
      conv => whnf
      refine bcase_intro (fun uA => ?_) (fun uA => ?_)
      · conv => whnf
        refine bcase_intro (fun uB => ?_) (fun uB => ?_)
        · conv => whnf
          refine bcase_intro (fun uC => ?_) (fun uC => ?_)
          · conv => whnf
            exact fun ρ => sbool_e (in_k ha (ag_AtBtCt uA uB uC)) ρ
          · conv => whnf
            refine bcase_intro (fun uD => ?_) (fun uD => ?_)
            · conv => whnf
              refine bcase_intro (fun uE => ?_) (fun uE => ?_)
              · conv => whnf
                exact fun ρ => sbool_e (in_k ha (ag_AtBtCfDtEt uA uB uC uD uE)) ρ
              · conv => whnf
                exact fun ρ => sbool_e (in_k ha (ag_AtBtCfDtEf uA uB uC uD uE)) ρ
            · conv => whnf
              exact fun ρ => sbool_e (in_k ha (ag_AtBtCfDf uA uB uC uD)) ρ
        · conv => whnf
          refine bcase_intro (fun uD => ?_) (fun uD => ?_)
          · conv => whnf
            refine bcase_intro (fun uE => ?_) (fun uE => ?_)
            · conv => whnf
              exact fun ρ => sbool_e (in_k ha (ag_AtBfDtEt uA uB uD uE)) ρ
            · conv => whnf
              exact fun ρ => sbool_e (in_k ha (ag_AtBfDtEf uA uB uD uE)) ρ
          · conv => whnf
            exact fun ρ => sbool_e (in_k ha (ag_AtBfDf uA uB uD)) ρ
      · conv => whnf
        refine bcase_intro (fun uD => ?_) (fun uD => ?_)
        · conv => whnf
          refine bcase_intro (fun uE => ?_) (fun uE => ?_)
          · conv => whnf
            exact fun ρ => sbool_e (in_k ha (ag_AfDtEt uA uD uE)) ρ
          · conv => whnf
            exact fun ρ => sbool_e (in_k ha (ag_AfDtEf uA uD uE)) ρ
        · conv => whnf
          exact fun ρ => sbool_e (in_k ha (ag_AfDf uA uD)) ρ
    conv => whnf
    refine bcase_intro (fun a1 => ?_) (fun a1 => ?_)
    · have ha := ax1 (v := (normZ (⟨x3, y3, z3⟩ : V3) (⟨x4, y4, z4⟩ : V3) (⟨x5, y5, z5⟩ : V3))) a0 a1
      conv => whnf
      refine bcase_intro (fun uA => ?_) (fun uA => ?_)
      · conv => whnf
        refine bcase_intro (fun uB => ?_) (fun uB => ?_)
        · conv => whnf
          refine bcase_intro (fun uC => ?_) (fun uC => ?_)
          · conv => whnf
            exact fun ρ => sbool_e (in_k ha (ag_AtBtCt uA uB uC)) ρ
          · conv => whnf
            refine bcase_intro (fun uD => ?_) (fun uD => ?_)
            · conv => whnf
              refine bcase_intro (fun uE => ?_) (fun uE => ?_)
              · conv => whnf
                exact fun ρ => sbool_e (in_k ha (ag_AtBtCfDtEt uA uB uC uD uE)) ρ
              · conv => whnf
                exact fun ρ => sbool_e (in_k ha (ag_AtBtCfDtEf uA uB uC uD uE)) ρ
            · conv => whnf
              exact fun ρ => sbool_e (in_k ha (ag_AtBtCfDf uA uB uC uD)) ρ
        · conv => whnf
          refine bcase_intro (fun uD => ?_) (fun uD => ?_)
          · conv => whnf
            refine bcase_intro (fun uE => ?_) (fun uE => ?_)
            · conv => whnf
              exact fun ρ => sbool_e (in_k ha (ag_AtBfDtEt uA uB uD uE)) ρ
            · conv => whnf
              exact fun ρ => sbool_e (in_k ha (ag_AtBfDtEf uA uB uD uE)) ρ
          · conv => whnf
            exact fun ρ => sbool_e (in_k ha (ag_AtBfDf uA uB uD)) ρ
      · conv => whnf
        refine bcase_intro (fun uD => ?_) (fun uD => ?_)
        · conv => whnf
          refine bcase_intro (fun uE => ?_) (fun uE => ?_)
          · conv => whnf
            exact fun ρ => sbool_e (in_k ha (ag_AfDtEt uA uD uE)) ρ
          · conv => whnf
            exact fun ρ => sbool_e (in_k ha (ag_AfDtEf uA uD uE)) ρ
        · conv => whnf
          exact fun ρ => sbool_e (in_k ha (ag_AfDf uA uD)) ρ
    conv => whnf
    refine bcase_intro (fun a2 => ?_) (fun a2 => ?_)
    · have ha := ax2 (v := (normZ (⟨x3, y3, z3⟩ : V3) (⟨x4, y4, z4⟩ : V3) (⟨x5, y5, z5⟩ : V3))) a0 a1 a2
      conv => whnf
      refine bcase_intro (fun uA => ?_) (fun uA => ?_)
      · conv => whnf
        refine bcase_intro (fun uB => ?_) (fun uB => ?_)
        · conv => whnf
          refine bcase_intro (fun uC => ?_) (fun uC => ?_)
          · conv => whnf
            exact fun ρ => sbool_e (in_k ha (ag_AtBtCt uA uB uC)) ρ
          · conv => whnf
            refine bcase_intro (fun uD => ?_) (fun uD => ?_)
            · conv => whnf
              refine bcase_intro (fun uE => ?_) (fun uE => ?_)
              · conv => whnf
                exact fun ρ => sbool_e (in_k ha (ag_AtBtCfDtEt uA uB uC uD uE)) ρ
              · conv => whnf
                exact fun ρ => sbool_e (in_k ha (ag_AtBtCfDtEf uA uB uC uD uE)) ρ
            · conv => whnf
              exact fun ρ => sbool_e (in_k ha (ag_AtBtCfDf uA uB uC uD)) ρ
        · conv => whnf
          refine bcase_intro (fun uD => ?_) (fun uD => ?_)
          · conv => whnf
            refine bcase_intro (fun uE => ?_) (fun uE => ?_)
            · conv => whnf
              exact fun ρ => sbool_e (in_k ha (ag_AtBfDtEt uA uB uD uE)) ρ
            · conv => whnf
              exact fun ρ => sbool_e (in_k ha (ag_AtBfDtEf uA uB uD uE)) ρ
          · conv => whnf
            exact fun ρ => sbool_e (in_k ha (ag_AtBfDf uA uB uD)) ρ
      · conv => whnf
        refine bcase_intro (fun uD => ?_) (fun uD => ?_)
        · conv => whnf
          refine bcase_intro (fun uE => ?_) (fun uE => ?_)
          · conv => whnf
            exact fun ρ => sbool_e (in_k ha (ag_AfDtEt uA uD uE)) ρ
          · conv => whnf
            exact fun ρ => sbool_e (in_k ha (ag_AfDtEf uA uD uE)) ρ
        · conv => whnf
          exact fun ρ => sbool_e (in_k ha (ag_AfDf uA uD)) ρ
    conv => whnf
    exact absurd (ax3 (v := (normZ (⟨x3, y3, z3⟩ : V3) (⟨x4, y4, z4⟩ : V3) (⟨x5, y5, z5⟩ : V3))) a0 a1 a2) hpre
  · cases hd
def baseF0 : List (FuncId × Dn) := (60, dWithin) :: baseE10
theorem baseF0_ok : AllOk baseF0 := .cons spWithin <| baseE10_ok
theorem or_n {x y : Int} (h : decide (x = 0) = false) : x ≠ 0 ∨ y ≠ 0 := .inl (of_decide_eq_false h)
theorem or_n2 {x y : Int} (h : decide (y = 0) = false) : x ≠ 0 ∨ y ≠ 0 := .inr (of_decide_eq_false h)
def dTouch2 : Dn
  | [.agg [.int x1 _, .int y1 _, .int z1 _], .agg [.int x2 _, .int y2 _, .int z2 _], .agg [.int x3 _, .int y3 _, .int z3 _, .int x4 _, .int y4 _, .int z4 _, .int x5 _, .int y5 _, .int z5 _]] =>
    some (none, .c (.val (.bool (touchV ⟨x1, y1, z1⟩ ⟨x2, y2, z2⟩ ⟨x3, y3, z3⟩ ⟨x4, y4, z4⟩ ⟨x5, y5, z5⟩))))
  | _ => none
set_option maxHeartbeats 8000000 in
theorem spTouch2 : SpOk Tryz.prog 24 dTouch2 := sp_of3 (un := 20) (n := 0) ⟨Tryz.func24, by kernel_rfl, by kernel_rfl⟩ baseF0_ok rdE_ok noF_ok fun args p v hd => by
  unfold dTouch2 at hd
  split at hd
  · rename_i x1 hx1 y1 hy1 z1 hz1 x2 hx2 y2 hy2 z2 hz2 x3 hx3 y3 hy3 z3 hz3 x4 hx4 y4 hy4 z4 hz4 x5 hx5 y5 hy5 z5 hz5
    cases hd
    refine ⟨[.agg [.int x1 hx1, .int y1 hy1, .int z1 hz1], .agg [.int x2 hx2, .int y2 hy2, .int z2 hz2], .agg [.int x3 hx3, .int y3 hy3, .int z3 hz3, .int x4 hx4, .int y4 hy4, .int z4 hz4, .int x5 hx5, .int y5 hy5, .int z5 hz5]], fun _ => rfl, fun _ _ => rfl, fun _ _ => rfl, fun _ => ?_⟩
    conv => whnf
    refine bcase_intro (fun z0 => ?_) (fun z0 => ?_)
    · have ha := isZ_ax3 (v := (normZ (⟨x3, y3, z3⟩ : V3) (⟨x4, y4, z4⟩ : V3) (⟨x5, y5, z5⟩ : V3))) z0
      conv => whnf
      exact fun ρ => sbool_e (tou_flat ha rfl) ρ
    have hn := isZ_ax (v := (normZ (⟨x3, y3, z3⟩ : V3) (⟨x4, y4, z4⟩ : V3) (⟨x5, y5, z5⟩ : V3))) z0
    conv => whnf
    refine bcase_intro (fun h1 => ?_) (fun h1 => ?_)
    · conv => whnf
      exact fun ρ => sbool_e (tou_pos hn h1) ρ
    conv => whnf
    refine bcase_intro (fun g1 => ?_) (fun g1 => ?_)
    · conv => whnf
      refine bcase_intro (fun g2 => ?_) (fun g2 => ?_)
      · conv => whnf
        refine bcase_intro (fun c0 => ?_) (fun c0 => ?_)
        · conv => whnf
          exact fun ρ => sbool_e (tou_pl hn h1 (of_decide_eq_true g1) (of_decide_eq_true g2) (pl1 c0)) ρ
        conv => whnf
        refine bcase_intro (fun c1 => ?_) (fun c1 => ?_)
        · conv => whnf
          exact fun ρ => sbool_e (tou_pl hn h1 (of_decide_eq_true g1) (of_decide_eq_true g2) (pl2 c0 c1)) ρ
        conv => whnf
        refine bcase_intro (fun c2 => ?_) (fun c2 => ?_)
        · conv => whnf
          exact fun ρ => sbool_e (tou_pl hn h1 (of_decide_eq_true g1) (of_decide_eq_true g2) (pl3 c0 c1 c2)) ρ
        conv => whnf
        refine ⟨hn, ?_⟩
        conv => whnf
        exact fun ρ => sbool_e (tou_pl hn h1 (of_decide_eq_true g1) (of_decide_eq_true g2) (pl4 c0 c1 c2 rfl)) ρ
      · conv => whnf
        refine bcase_intro (fun uA => ?_) (fun uA => ?_)
        · conv => whnf
          refine bcase_intro (fun uB => ?_) (fun uB => ?_)
          · conv => whnf
            refine bcase_intro (fun uC => ?_) (fun uC => ?_)
            · conv => whnf
              exact fun ρ => sbool_e (tou_or hn h1 (or_n2 g2) (ag_AtBtCt uA uB uC)) ρ
            · conv => whnf
              refine bcase_intro (fun uD => ?_) (fun uD => ?_)
              · conv => whnf
                refine bcase_intro (fun uE => ?_) (fun uE => ?_)
                · conv => whnf
                  exact fun ρ => sbool_e (tou_or hn h1 (or_n2 g2) (ag_AtBtCfDtEt uA uB uC uD uE)) ρ
                · conv => whnf
                  exact fun ρ => sbool_e (tou_or hn h1 (or_n2 g2) (ag_AtBtCfDtEf uA uB uC uD uE)) ρ
              · conv => whnf
                exact fun ρ => sbool_e (tou_or hn h1 (or_n2 g2) (ag_AtBtCfDf uA uB uC uD)) ρ
          · conv => whnf
            refine bcase_intro (fun uD => ?_) (fun uD => ?_)
            · conv => whnf
              refine bcase_intro (fun uE => ?_) (fun uE => ?_)
              · conv => whnf
                exact fun ρ => sbool_e (tou_or hn h1 (or_n2 g2) (ag_AtBfDtEt uA uB uD uE)) ρ
              · conv => whnf
                exact fun ρ => sbool_e (tou_or hn h1 (or_n2 g2) (ag_AtBfDtEf uA uB uD uE)) ρ
            · conv => whnf
              exact fun ρ => sbool_e (tou_or hn h1 (or_n2 g2) (ag_AtBfDf uA uB uD)) ρ
        · conv => whnf
          refine bcase_intro (fun uD => ?_) (fun uD => ?_)
          · conv => whnf
            refine bcase_intro (fun uE => ?_) (fun uE => ?_)
            · conv => whnf
              exact fun ρ => sbool_e (tou_or hn h1 (or_n2 g2) (ag_AfDtEt uA uD uE)) ρ
            · conv => whnf
              exact fun ρ => sbool_e (tou_or hn h1 (or_n2 g2) (ag_AfDtEf uA uD uE)) ρ
          · conv => whnf
            exact fun ρ => sbool_e (tou_or hn h1 (or_n2 g2) (ag_AfDf uA uD)) ρ
    conv => whnf
    refine bcase_intro (fun uA => ?_) (fun uA => ?_)
    · conv => whnf
      refine bcase_intro (fun uB => ?_) (fun uB => ?_)
      · conv => whnf
        refine bcase_intro (fun uC => ?_) (fun uC => ?_)
        · conv => whnf
          exact fun ρ => sbool_e (tou_or hn h1 (or_n g1) (ag_AtBtCt uA uB uC)) ρ
        · conv => whnf
          refine bcase_intro (fun uD => ?_) (fun uD => ?_)
          · conv => whnf
            refine bcase_intro (fun uE => ?_) (fun uE => ?_)
            · conv => whnf
              exact fun ρ => sbool_e (tou_or hn h1 (or_n g1) (ag_AtBtCfDtEt uA uB uC uD uE)) ρ
            · conv => whnf
              exact fun ρ => sbool_e (tou_or hn h1 (or_n g1) (ag_AtBtCfDtEf uA uB uC uD uE)) ρ
          · conv => whnf
            exact fun ρ => sbool_e (tou_or hn h1 (or_n g1) (ag_AtBtCfDf uA uB uC uD)) ρ
      · conv => whnf
        refine bcase_intro (fun uD => ?_) (fun uD => ?_)
        · conv => whnf
          refine bcase_intro (fun uE => ?_) (fun uE => ?_)
          · conv => whnf
            exact fun ρ => sbool_e (tou_or hn h1 (or_n g1) (ag_AtBfDtEt uA uB uD uE)) ρ
          · conv => whnf
            exact fun ρ => sbool_e (tou_or hn h1 (or_n g1) (ag_AtBfDtEf uA uB uD uE)) ρ
        · conv => whnf
          exact fun ρ => sbool_e (tou_or hn h1 (or_n g1) (ag_AtBfDf uA uB uD)) ρ
    · conv => whnf
      refine bcase_intro (fun uD => ?_) (fun uD => ?_)
      · conv => whnf
        refine bcase_intro (fun uE => ?_) (fun uE => ?_)
        · conv => whnf
          exact fun ρ => sbool_e (tou_or hn h1 (or_n g1) (ag_AfDtEt uA uD uE)) ρ
        · conv => whnf
          exact fun ρ => sbool_e (tou_or hn h1 (or_n g1) (ag_AfDtEf uA uD uE)) ρ
      · conv => whnf
        exact fun ρ => sbool_e (tou_or hn h1 (or_n g1) (ag_AfDf uA uD)) ρ
  · cases hd
def baseT2 : List (FuncId × Dn) := (24, dTouch2) :: baseF0
theorem baseT2_ok : AllOk baseT2 := .cons spTouch2 <| baseF0_ok
end Go.Proofs.YtmooplnklcgfjaaGreatDoor
