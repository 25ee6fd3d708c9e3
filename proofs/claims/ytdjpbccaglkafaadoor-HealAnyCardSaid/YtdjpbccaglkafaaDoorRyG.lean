/- Signs of products, flat triangles, normals, by the reckoner. -/
import Derived.Test.YtdjpbccaglkafaaDoorRyF
namespace Go.Proofs.YtdjpbccaglkafaaDoor
open Go.RowKit
set_option maxRecDepth 100000

theorem ints3_sv {a b c a' b' c' : Int} {ha : IR a} {hb : IR b} {hc : IR c} {ha' : IR a'} {hb' : IR b'} {hc' : IR c'} (e1 : a = a') (e2 : b = b') (e3 : c = c') (ρ : Rho) : (SV.agg [.int a ha, .int b hb, .int c hc]).den ρ = (SV.agg [.int a' ha', .int b' hb', .int c' hc']).den ρ := by subst e1 e2 e3; rfl
def rdSigns : List (FuncId × Dr) := [(45, dSmall)]
theorem rdSigns_ok : AllR rdSigns := .cons spSmall .nil
def dSigns : Dn
  | [.agg [.int x1 _, .int y1 _, .int z1 _], .agg [.int x2 _, .int y2 _, .int z2 _], .agg [.int x3 _, .int y3 _, .int z3 _], .agg [.int x4 _, .int y4 _, .int z4 _]] =>
    some (none, .agg [.int (V3.cross (V3.sub ⟨x2, y2, z2⟩ ⟨x1, y1, z1⟩) (V3.sub ⟨x4, y4, z4⟩ ⟨x3, y3, z3⟩)).x.sign (ir_sign _), .int (V3.cross (V3.sub ⟨x2, y2, z2⟩ ⟨x1, y1, z1⟩) (V3.sub ⟨x4, y4, z4⟩ ⟨x3, y3, z3⟩)).y.sign (ir_sign _), .int (V3.cross (V3.sub ⟨x2, y2, z2⟩ ⟨x1, y1, z1⟩) (V3.sub ⟨x4, y4, z4⟩ ⟨x3, y3, z3⟩)).z.sign (ir_sign _)])
  | _ => none
set_option maxHeartbeats 4000000 in
theorem spSigns : SpOk Tryd.prog 40 dSigns := sp_of3 (un := 20) (n := 0) ⟨Tryd.func40, by kernel_rfl, by kernel_rfl⟩ baseF1_ok rdSigns_ok noF_ok fun args p v hd => by
  unfold dSigns at hd
  split at hd
  · rename_i x1 hx1 y1 hy1 z1 hz1 x2 hx2 y2 hy2 z2 hz2 x3 hx3 y3 hy3 z3 hz3 x4 hx4 y4 hy4 z4 hz4
    cases hd
    refine ⟨[.agg [.int x1 hx1, .int y1 hy1, .int z1 hz1], .agg [.int x2 hx2, .int y2 hy2, .int z2 hz2], .agg [.int x3 hx3, .int y3 hy3, .int z3 hz3], .agg [.int x4 hx4, .int y4 hy4, .int z4 hz4]], fun _ => rfl, fun _ _ => rfl, fun _ _ => rfl, fun _ => ?_⟩
    conv => whnf
    refine bcase_intro (fun hs => ?_) (fun _ => ?_)
    · have hb := smB_bd (l := [x1, y1, z1, x2, y2, z2, x3, y3, z3, x4, y4, z4]) hs (by simp only [List.mem_cons, List.not_mem_nil, or_false]; rintro q (rfl | rfl | rfl | rfl | rfl | rfl | rfl | rfl | rfl | rfl | rfl | rfl) <;> assumption)
      conv => whnf
      exact fun ρ => ints3_sv (congrArg Int.sign (near_eq (hb _ (by simp)) (hb _ (by simp)) (hb _ (by simp)) (hb _ (by simp)) (hb _ (by simp)) (hb _ (by simp)) (hb _ (by simp)) (hb _ (by simp)))) (congrArg Int.sign (near_eq (hb _ (by simp)) (hb _ (by simp)) (hb _ (by simp)) (hb _ (by simp)) (hb _ (by simp)) (hb _ (by simp)) (hb _ (by simp)) (hb _ (by simp)))) (congrArg Int.sign (near_eq (hb _ (by simp)) (hb _ (by simp)) (hb _ (by simp)) (hb _ (by simp)) (hb _ (by simp)) (hb _ (by simp)) (hb _ (by simp)) (hb _ (by simp)))) ρ
    conv => whnf
    exact fun ρ => ints3_sv rfl rfl rfl ρ
  · cases hd
def rdSigns2 : List (FuncId × Dr) := [(52, dSmall2)]
theorem rdSigns2_ok : AllR rdSigns2 := .cons spSmall2 .nil
def dSigns2 : Dn
  | [.agg [.int x1 _, .int y1 _, .int z1 _], .agg [.int x2 _, .int y2 _, .int z2 _], .agg [.int x3 _, .int y3 _, .int z3 _], .agg [.int x4 _, .int y4 _, .int z4 _]] =>
    some (none, .agg [.int (V3.cross (V3.sub ⟨x2, y2, z2⟩ ⟨x1, y1, z1⟩) (V3.sub ⟨x4, y4, z4⟩ ⟨x3, y3, z3⟩)).x.sign (ir_sign _), .int (V3.cross (V3.sub ⟨x2, y2, z2⟩ ⟨x1, y1, z1⟩) (V3.sub ⟨x4, y4, z4⟩ ⟨x3, y3, z3⟩)).y.sign (ir_sign _), .int (V3.cross (V3.sub ⟨x2, y2, z2⟩ ⟨x1, y1, z1⟩) (V3.sub ⟨x4, y4, z4⟩ ⟨x3, y3, z3⟩)).z.sign (ir_sign _)])
  | _ => none
set_option maxHeartbeats 4000000 in
theorem spSigns2 : SpOk Tryd.prog 41 dSigns2 := sp_of3 (un := 20) (n := 0) ⟨Tryd.func41, by kernel_rfl, by kernel_rfl⟩ baseF1_ok rdSigns2_ok noF_ok fun args p v hd => by
  unfold dSigns2 at hd
  split at hd
  · rename_i x1 hx1 y1 hy1 z1 hz1 x2 hx2 y2 hy2 z2 hz2 x3 hx3 y3 hy3 z3 hz3 x4 hx4 y4 hy4 z4 hz4
    cases hd
    refine ⟨[.agg [.int x1 hx1, .int y1 hy1, .int z1 hz1], .agg [.int x2 hx2, .int y2 hy2, .int z2 hz2], .agg [.int x3 hx3, .int y3 hy3, .int z3 hz3], .agg [.int x4 hx4, .int y4 hy4, .int z4 hz4]], fun _ => rfl, fun _ _ => rfl, fun _ _ => rfl, fun _ => ?_⟩
    conv => whnf
    refine bcase_intro (fun hs => ?_) (fun _ => ?_)
    · have hb := smR_bd (l := [x1, y1, z1, x2, y2, z2, x3, y3, z3, x4, y4, z4]) hs
      conv => whnf
      exact fun ρ => ints3_sv (congrArg Int.sign (near_eq (hb _ (by simp)) (hb _ (by simp)) (hb _ (by simp)) (hb _ (by simp)) (hb _ (by simp)) (hb _ (by simp)) (hb _ (by simp)) (hb _ (by simp)))) (congrArg Int.sign (near_eq (hb _ (by simp)) (hb _ (by simp)) (hb _ (by simp)) (hb _ (by simp)) (hb _ (by simp)) (hb _ (by simp)) (hb _ (by simp)) (hb _ (by simp)))) (congrArg Int.sign (near_eq (hb _ (by simp)) (hb _ (by simp)) (hb _ (by simp)) (hb _ (by simp)) (hb _ (by simp)) (hb _ (by simp)) (hb _ (by simp)) (hb _ (by simp)))) ρ
    conv => whnf
    exact fun ρ => ints3_sv rfl rfl rfl ρ
  · cases hd
def baseF2 : List (FuncId × Dn) := (40, dSigns) :: (41, dSigns2) :: baseF1
theorem baseF2_ok : AllOk baseF2 := .cons spSigns <| .cons spSigns2 <| baseF1_ok
theorem flat_eq (v : V3) : (decide (v.x.sign = 0) && (decide (v.y.sign = 0) && decide (v.z.sign = 0))) = v.isZ := by
  have e : ∀ x : Int, decide (x.sign = 0) = decide (x = 0) := fun x => decide_eq_decide.2 Int.sign_eq_zero_iff_zero
  unfold V3.isZ
  rw [e, e, e]
noncomputable def fxNo2 : FuncId → Option Func := lk [(33, Tryd.f33)]
theorem fxNo2_ok : ∀ f fn, fxNo2 f = some fn → FnOk Tryd.prog f fn := lkF_ok fun x hx => by
  simp only [List.mem_cons, List.not_mem_nil, or_false] at hx
  subst hx
  · exact ⟨Tryd.func33, by kernel_rfl, by kernel_rfl⟩
def dFlat : Dn
  | [.agg [.int x1 _, .int y1 _, .int z1 _, .int x2 _, .int y2 _, .int z2 _, .int x3 _, .int y3 _, .int z3 _]] =>
    some (none, .c (.val (.bool (normZ ⟨x1, y1, z1⟩ ⟨x2, y2, z2⟩ ⟨x3, y3, z3⟩).isZ)))
  | _ => none
theorem spFlat : SpOk Tryd.prog 31 dFlat := sp_of2 (un := 20) (n := 0) ⟨Tryd.func31, by kernel_rfl, by kernel_rfl⟩ baseF2_ok noF_ok fun args p v hd => by
  unfold dFlat at hd
  split at hd
  · rename_i x1 hx1 y1 hy1 z1 hz1 x2 hx2 y2 hy2 z2 hz2 x3 hx3 y3 hy3 z3 hz3
    cases hd
    refine ⟨[.agg [.int x1 hx1, .int y1 hy1, .int z1 hz1, .int x2 hx2, .int y2 hy2, .int z2 hz2, .int x3 hx3, .int y3 hy3, .int z3 hz3]], fun _ => rfl, fun _ _ => rfl, fun _ _ => rfl, fun _ => ?_⟩
    conv => whnf
    exact fun ρ => sbool_e (flat_eq (normZ ⟨x1, y1, z1⟩ ⟨x2, y2, z2⟩ ⟨x3, y3, z3⟩)) ρ
  · cases hd
def dFlat2 : Dn
  | [.agg [.int x1 _, .int y1 _, .int z1 _, .int x2 _, .int y2 _, .int z2 _, .int x3 _, .int y3 _, .int z3 _]] =>
    some (none, .c (.val (.bool (normZ ⟨x1, y1, z1⟩ ⟨x2, y2, z2⟩ ⟨x3, y3, z3⟩).isZ)))
  | _ => none
theorem spFlat2 : SpOk Tryd.prog 18 dFlat2 := sp_of2 (un := 20) (n := 3) ⟨Tryd.func18, by kernel_rfl, by kernel_rfl⟩ baseF2_ok fxNo2_ok fun args p v hd => by
  unfold dFlat2 at hd
  split at hd
  · rename_i x1 hx1 y1 hy1 z1 hz1 x2 hx2 y2 hy2 z2 hz2 x3 hx3 y3 hy3 z3 hz3
    cases hd
    refine ⟨[.agg [.int x1 hx1, .int y1 hy1, .int z1 hz1, .int x2 hx2, .int y2 hy2, .int z2 hz2, .int x3 hx3, .int y3 hy3, .int z3 hz3]], fun _ => rfl, fun _ _ => rfl, fun _ _ => rfl, fun _ => ?_⟩
    conv => whnf
    exact fun ρ => sbool_e (flat_eq (normZ ⟨x1, y1, z1⟩ ⟨x2, y2, z2⟩ ⟨x3, y3, z3⟩)) ρ
  · cases hd
def dNormal : Dn
  | [.agg [.int x1 hx1, .int y1 hy1, .int z1 hz1, .int x2 hx2, .int y2 hy2, .int z2 hz2, .int x3 hx3, .int y3 hy3, .int z3 hz3]] =>
    some (none, .agg [.wid 517 ((normZ ⟨x1, y1, z1⟩ ⟨x2, y2, z2⟩ ⟨x3, y3, z3⟩).x) (sm_subj (Sm.mul (sm_subj (smI hy2) (smI hy1)) (sm_subj (smI hz3) (smI hz1))) (Sm.mul (sm_subj (smI hz2) (smI hz1)) (sm_subj (smI hy3) (smI hy1)))), .wid 517 ((normZ ⟨x1, y1, z1⟩ ⟨x2, y2, z2⟩ ⟨x3, y3, z3⟩).y) (sm_subj (Sm.mul (sm_subj (smI hz2) (smI hz1)) (sm_subj (smI hx3) (smI hx1))) (Sm.mul (sm_subj (smI hx2) (smI hx1)) (sm_subj (smI hz3) (smI hz1)))), .wid 517 ((normZ ⟨x1, y1, z1⟩ ⟨x2, y2, z2⟩ ⟨x3, y3, z3⟩).z) (sm_subj (Sm.mul (sm_subj (smI hx2) (smI hx1)) (sm_subj (smI hy3) (smI hy1))) (Sm.mul (sm_subj (smI hy2) (smI hy1)) (sm_subj (smI hx3) (smI hx1))))])
  | _ => none
def dNormal2 : Dn
  | [.agg [.int x1 hx1, .int y1 hy1, .int z1 hz1, .int x2 hx2, .int y2 hy2, .int z2 hz2, .int x3 hx3, .int y3 hy3, .int z3 hz3]] =>
    some (none, .agg [.wid 517 ((normZ ⟨x1, y1, z1⟩ ⟨x2, y2, z2⟩ ⟨x3, y3, z3⟩).x) (sm_subj (Sm.mul (sm_subj (smI hy2) (smI hy1)) (sm_subj (smI hz3) (smI hz1))) (Sm.mul (sm_subj (smI hz2) (smI hz1)) (sm_subj (smI hy3) (smI hy1)))), .wid 517 ((normZ ⟨x1, y1, z1⟩ ⟨x2, y2, z2⟩ ⟨x3, y3, z3⟩).y) (sm_subj (Sm.mul (sm_subj (smI hz2) (smI hz1)) (sm_subj (smI hx3) (smI hx1))) (Sm.mul (sm_subj (smI hx2) (smI hx1)) (sm_subj (smI hz3) (smI hz1)))), .wid 517 ((normZ ⟨x1, y1, z1⟩ ⟨x2, y2, z2⟩ ⟨x3, y3, z3⟩).z) (sm_subj (Sm.mul (sm_subj (smI hx2) (smI hx1)) (sm_subj (smI hy3) (smI hy1))) (Sm.mul (sm_subj (smI hy2) (smI hy1)) (sm_subj (smI hx3) (smI hx1))))])
  | _ => none
def baseF3 : List (FuncId × Dn) := (31, dFlat) :: (18, dFlat2) :: baseF2
theorem baseF3_ok : AllOk baseF3 := .cons spFlat <| .cons spFlat2 <| baseF2_ok
end Go.Proofs.YtdjpbccaglkafaaDoor
