/- Segments that cross, by the reference, by the reckoner. -/
import Derived.Test.YtmooplnklcgfjaaGreatDoorE2
namespace Go.Proofs.YtmooplnklcgfjaaGreatDoor
open Go.RowKit
set_option maxRecDepth 100000

def dNormals2 : Dn
  | [.agg [.int x1 _, .int y1 _, .int z1 _], .agg [.int x2 _, .int y2 _, .int z2 _], .agg [.int x3 _, .int y3 _, .int z3 _]] =>
    some (none, .agg [.int (crZ ⟨x1, y1, z1⟩ ⟨x2, y2, z2⟩ ⟨x1, y1, z1⟩ ⟨x3, y3, z3⟩).x.sign (ir_sign _), .int (crZ ⟨x1, y1, z1⟩ ⟨x2, y2, z2⟩ ⟨x1, y1, z1⟩ ⟨x3, y3, z3⟩).y.sign (ir_sign _), .int (crZ ⟨x1, y1, z1⟩ ⟨x2, y2, z2⟩ ⟨x1, y1, z1⟩ ⟨x3, y3, z3⟩).z.sign (ir_sign _)])
  | _ => none
theorem spNormals2 : SpOk Tryz.prog 25 dNormals2 := sp_of2 (un := 20) (n := 0) ⟨Tryz.func25, by kernel_rfl, by kernel_rfl⟩ baseE4_ok noF_ok fun args p v hd => by
  unfold dNormals2 at hd
  split at hd
  · rename_i x1 hx1 y1 hy1 z1 hz1 x2 hx2 y2 hy2 z2 hz2 x3 hx3 y3 hy3 z3 hz3
    cases hd
    refine ⟨[.agg [.int x1 hx1, .int y1 hy1, .int z1 hz1], .agg [.int x2 hx2, .int y2 hy2, .int z2 hz2], .agg [.int x3 hx3, .int y3 hy3, .int z3 hz3]], fun _ => rfl, fun _ _ => rfl, fun _ _ => rfl, fun _ => ?_⟩
    conv => whnf
    exact fun _ => rfl
  · cases hd
def baseE5 : List (FuncId × Dn) := (25, dNormals2) :: baseE4
theorem baseE5_ok : AllOk baseE5 := .cons spNormals2 <| baseE4_ok
abbrev envEn : Env := envE 20 baseE5 [] (fun i => i == 12) noR
theorem envEn_ok : EOk Tryz.prog envEn := envE_ok baseE5_ok .nil 20 _ noR_ok
set_option maxHeartbeats 4000000 in
theorem vcEnds2 {x1 y1 z1 x2 y2 z2 : Int} (hx1 : IR x1) (hy1 : IR y1) (hz1 : IR z1) (hx2 : IR x2) (hy2 : IR y2) (hz2 : IR z2) (ty cap : Nat) (hs : SliOk false 2 cap) : vcF envEn (inl envEn noF 0) Tryz.f58 [.c (.sli false 0 0 2 cap hs)] [⟨ty, true, [.int x1 hx1, .int y1 hy1, .int z1 hz1, .int x2 hx2, .int y2 hy2, .int z2 hz2], 0⟩] fun u _ => ∀ ρ, u.den ρ = (SV.tup [.agg [.int (minZ ⟨x1, y1, z1⟩ ⟨x2, y2, z2⟩).x (ir_min (p := ⟨x1, y1, z1⟩) (q := ⟨x2, y2, z2⟩) hx1 hy1 hz1 hx2 hy2 hz2).1, .int (minZ ⟨x1, y1, z1⟩ ⟨x2, y2, z2⟩).y (ir_min (p := ⟨x1, y1, z1⟩) (q := ⟨x2, y2, z2⟩) hx1 hy1 hz1 hx2 hy2 hz2).2.1, .int (minZ ⟨x1, y1, z1⟩ ⟨x2, y2, z2⟩).z (ir_min (p := ⟨x1, y1, z1⟩) (q := ⟨x2, y2, z2⟩) hx1 hy1 hz1 hx2 hy2 hz2).2.2], .agg [.int (maxZ ⟨x1, y1, z1⟩ ⟨x2, y2, z2⟩).x (ir_max (p := ⟨x1, y1, z1⟩) (q := ⟨x2, y2, z2⟩) hx1 hy1 hz1 hx2 hy2 hz2).1, .int (maxZ ⟨x1, y1, z1⟩ ⟨x2, y2, z2⟩).y (ir_max (p := ⟨x1, y1, z1⟩) (q := ⟨x2, y2, z2⟩) hx1 hy1 hz1 hx2 hy2 hz2).2.1, .int (maxZ ⟨x1, y1, z1⟩ ⟨x2, y2, z2⟩).z (ir_max (p := ⟨x1, y1, z1⟩) (q := ⟨x2, y2, z2⟩) hx1 hy1 hz1 hx2 hy2 hz2).2.2]]).den ρ := by
  conv => whnf
  refine bcase_intro (fun a2 => ?_) (fun a2 => ?_)
  · have a2 : lessZ (⟨x2, y2, z2⟩ : V3) (⟨x1, y1, z1⟩ : V3) = true := a2
    conv => whnf
    refine bcase_intro (fun b2 => ?_) (fun b2 => ?_)
    · have b2 : lessZ (⟨x1, y1, z1⟩ : V3) (⟨x2, y2, z2⟩ : V3) = true := b2
      conv => whnf
      refine ⟨?_, ?_, trivial⟩
      · conv => whnf
        refine ⟨?_, ?_, trivial⟩
        · conv => whnf
          refine ⟨?_, trivial⟩
          · conv => whnf
            refine ⟨?_, trivial⟩
            · conv => whnf
              exact fun ρ => pts2_sv (p := (⟨x2, y2, z2⟩ : V3)) (q := (⟨x2, y2, z2⟩ : V3)) (Eq.symm (show (minZ ⟨x1, y1, z1⟩ ⟨x2, y2, z2⟩) = (⟨x2, y2, z2⟩ : V3) by rw [min_t a2])) (Eq.symm (show (maxZ ⟨x1, y1, z1⟩ ⟨x2, y2, z2⟩) = (⟨x2, y2, z2⟩ : V3) by rw [max_t' b2])) ρ
        · conv => whnf
          refine ⟨?_, trivial⟩
          · conv => whnf
            refine ⟨?_, trivial⟩
            · conv => whnf
              exact fun ρ => pts2_sv (p := (⟨x2, y2, z2⟩ : V3)) (q := (⟨x2, y2, z2⟩ : V3)) (Eq.symm (show (minZ ⟨x1, y1, z1⟩ ⟨x2, y2, z2⟩) = (⟨x2, y2, z2⟩ : V3) by rw [min_t a2])) (Eq.symm (show (maxZ ⟨x1, y1, z1⟩ ⟨x2, y2, z2⟩) = (⟨x2, y2, z2⟩ : V3) by rw [max_t' b2])) ρ
      · conv => whnf
        refine ⟨?_, trivial⟩
        · conv => whnf
          refine ⟨?_, trivial⟩
          · conv => whnf
            refine ⟨?_, trivial⟩
            · conv => whnf
              exact fun ρ => pts2_sv (p := (⟨x2, y2, z2⟩ : V3)) (q := (⟨x2, y2, z2⟩ : V3)) (Eq.symm (show (minZ ⟨x1, y1, z1⟩ ⟨x2, y2, z2⟩) = (⟨x2, y2, z2⟩ : V3) by rw [min_t a2])) (Eq.symm (show (maxZ ⟨x1, y1, z1⟩ ⟨x2, y2, z2⟩) = (⟨x2, y2, z2⟩ : V3) by rw [max_t' b2])) ρ
    · have b2 : lessZ (⟨x1, y1, z1⟩ : V3) (⟨x2, y2, z2⟩ : V3) = false := b2
      conv => whnf
      refine ⟨?_, ?_, trivial⟩
      · conv => whnf
        refine ⟨?_, ?_, trivial⟩
        · conv => whnf
          refine ⟨?_, trivial⟩
          · conv => whnf
            refine ⟨?_, trivial⟩
            · conv => whnf
              exact fun ρ => pts2_sv (p := (⟨x2, y2, z2⟩ : V3)) (q := (⟨x1, y1, z1⟩ : V3)) (Eq.symm (show (minZ ⟨x1, y1, z1⟩ ⟨x2, y2, z2⟩) = (⟨x2, y2, z2⟩ : V3) by rw [min_t a2])) (Eq.symm (show (maxZ ⟨x1, y1, z1⟩ ⟨x2, y2, z2⟩) = (⟨x1, y1, z1⟩ : V3) by rw [max_f' b2])) ρ
        · conv => whnf
          refine ⟨?_, trivial⟩
          · conv => whnf
            refine ⟨?_, trivial⟩
            · conv => whnf
              exact fun ρ => pts2_sv (p := (⟨x2, y2, z2⟩ : V3)) (q := (⟨x1, y1, z1⟩ : V3)) (Eq.symm (show (minZ ⟨x1, y1, z1⟩ ⟨x2, y2, z2⟩) = (⟨x2, y2, z2⟩ : V3) by rw [min_t a2])) (Eq.symm (show (maxZ ⟨x1, y1, z1⟩ ⟨x2, y2, z2⟩) = (⟨x1, y1, z1⟩ : V3) by rw [max_f' b2])) ρ
      · conv => whnf
        refine ⟨?_, trivial⟩
        · conv => whnf
          refine ⟨?_, trivial⟩
          · conv => whnf
            refine ⟨?_, trivial⟩
            · conv => whnf
              exact fun ρ => pts2_sv (p := (⟨x2, y2, z2⟩ : V3)) (q := (⟨x1, y1, z1⟩ : V3)) (Eq.symm (show (minZ ⟨x1, y1, z1⟩ ⟨x2, y2, z2⟩) = (⟨x2, y2, z2⟩ : V3) by rw [min_t a2])) (Eq.symm (show (maxZ ⟨x1, y1, z1⟩ ⟨x2, y2, z2⟩) = (⟨x1, y1, z1⟩ : V3) by rw [max_f' b2])) ρ
  · have a2 : lessZ (⟨x2, y2, z2⟩ : V3) (⟨x1, y1, z1⟩ : V3) = false := a2
    conv => whnf
    refine bcase_intro (fun b2 => ?_) (fun b2 => ?_)
    · have b2 : lessZ (⟨x1, y1, z1⟩ : V3) (⟨x2, y2, z2⟩ : V3) = true := b2
      conv => whnf
      refine ⟨?_, ?_, trivial⟩
      · conv => whnf
        refine ⟨?_, ?_, trivial⟩
        · conv => whnf
          refine ⟨?_, trivial⟩
          · conv => whnf
            refine ⟨?_, trivial⟩
            · conv => whnf
              exact fun ρ => pts2_sv (p := (⟨x1, y1, z1⟩ : V3)) (q := (⟨x2, y2, z2⟩ : V3)) (Eq.symm (show (minZ ⟨x1, y1, z1⟩ ⟨x2, y2, z2⟩) = (⟨x1, y1, z1⟩ : V3) by rw [min_f a2])) (Eq.symm (show (maxZ ⟨x1, y1, z1⟩ ⟨x2, y2, z2⟩) = (⟨x2, y2, z2⟩ : V3) by rw [max_t' b2])) ρ
        · conv => whnf
          refine ⟨?_, trivial⟩
          · conv => whnf
            refine ⟨?_, trivial⟩
            · conv => whnf
              exact fun ρ => pts2_sv (p := (⟨x1, y1, z1⟩ : V3)) (q := (⟨x2, y2, z2⟩ : V3)) (Eq.symm (show (minZ ⟨x1, y1, z1⟩ ⟨x2, y2, z2⟩) = (⟨x1, y1, z1⟩ : V3) by rw [min_f a2])) (Eq.symm (show (maxZ ⟨x1, y1, z1⟩ ⟨x2, y2, z2⟩) = (⟨x2, y2, z2⟩ : V3) by rw [max_t' b2])) ρ
      · conv => whnf
        refine ⟨?_, trivial⟩
        · conv => whnf
          refine ⟨?_, trivial⟩
          · conv => whnf
            refine ⟨?_, trivial⟩
            · conv => whnf
              exact fun ρ => pts2_sv (p := (⟨x1, y1, z1⟩ : V3)) (q := (⟨x2, y2, z2⟩ : V3)) (Eq.symm (show (minZ ⟨x1, y1, z1⟩ ⟨x2, y2, z2⟩) = (⟨x1, y1, z1⟩ : V3) by rw [min_f a2])) (Eq.symm (show (maxZ ⟨x1, y1, z1⟩ ⟨x2, y2, z2⟩) = (⟨x2, y2, z2⟩ : V3) by rw [max_t' b2])) ρ
    · have b2 : lessZ (⟨x1, y1, z1⟩ : V3) (⟨x2, y2, z2⟩ : V3) = false := b2
      conv => whnf
      refine ⟨?_, ?_, trivial⟩
      · conv => whnf
        refine ⟨?_, ?_, trivial⟩
        · conv => whnf
          refine ⟨?_, trivial⟩
          · conv => whnf
            refine ⟨?_, trivial⟩
            · conv => whnf
              exact fun ρ => pts2_sv (p := (⟨x1, y1, z1⟩ : V3)) (q := (⟨x1, y1, z1⟩ : V3)) (Eq.symm (show (minZ ⟨x1, y1, z1⟩ ⟨x2, y2, z2⟩) = (⟨x1, y1, z1⟩ : V3) by rw [min_f a2])) (Eq.symm (show (maxZ ⟨x1, y1, z1⟩ ⟨x2, y2, z2⟩) = (⟨x1, y1, z1⟩ : V3) by rw [max_f' b2])) ρ
        · conv => whnf
          refine ⟨?_, trivial⟩
          · conv => whnf
            refine ⟨?_, trivial⟩
            · conv => whnf
              exact fun ρ => pts2_sv (p := (⟨x1, y1, z1⟩ : V3)) (q := (⟨x1, y1, z1⟩ : V3)) (Eq.symm (show (minZ ⟨x1, y1, z1⟩ ⟨x2, y2, z2⟩) = (⟨x1, y1, z1⟩ : V3) by rw [min_f a2])) (Eq.symm (show (maxZ ⟨x1, y1, z1⟩ ⟨x2, y2, z2⟩) = (⟨x1, y1, z1⟩ : V3) by rw [max_f' b2])) ρ
      · conv => whnf
        refine ⟨?_, trivial⟩
        · conv => whnf
          refine ⟨?_, trivial⟩
          · conv => whnf
            refine ⟨?_, trivial⟩
            · conv => whnf
              exact fun ρ => pts2_sv (p := (⟨x1, y1, z1⟩ : V3)) (q := (⟨x1, y1, z1⟩ : V3)) (Eq.symm (show (minZ ⟨x1, y1, z1⟩ ⟨x2, y2, z2⟩) = (⟨x1, y1, z1⟩ : V3) by rw [min_f a2])) (Eq.symm (show (maxZ ⟨x1, y1, z1⟩ ⟨x2, y2, z2⟩) = (⟨x1, y1, z1⟩ : V3) by rw [max_f' b2])) ρ
set_option maxHeartbeats 4000000 in
theorem vcEnds3 {x1 y1 z1 x2 y2 z2 x3 y3 z3 : Int} (hx1 : IR x1) (hy1 : IR y1) (hz1 : IR z1) (hx2 : IR x2) (hy2 : IR y2) (hz2 : IR z2) (hx3 : IR x3) (hy3 : IR y3) (hz3 : IR z3) (ty cap : Nat) (hs : SliOk false 3 cap) : vcF envEn (inl envEn noF 0) Tryz.f58 [.c (.sli false 0 0 3 cap hs)] [⟨ty, true, [.int x1 hx1, .int y1 hy1, .int z1 hz1, .int x2 hx2, .int y2 hy2, .int z2 hz2, .int x3 hx3, .int y3 hy3, .int z3 hz3], 0⟩] fun u _ => ∀ ρ, u.den ρ = (SV.tup [.agg [.int (minZ (minZ ⟨x1, y1, z1⟩ ⟨x2, y2, z2⟩) ⟨x3, y3, z3⟩).x (ir_min (p := minZ ⟨x1, y1, z1⟩ ⟨x2, y2, z2⟩) (q := ⟨x3, y3, z3⟩) (ir_min (p := ⟨x1, y1, z1⟩) (q := ⟨x2, y2, z2⟩) hx1 hy1 hz1 hx2 hy2 hz2).1 (ir_min (p := ⟨x1, y1, z1⟩) (q := ⟨x2, y2, z2⟩) hx1 hy1 hz1 hx2 hy2 hz2).2.1 (ir_min (p := ⟨x1, y1, z1⟩) (q := ⟨x2, y2, z2⟩) hx1 hy1 hz1 hx2 hy2 hz2).2.2 hx3 hy3 hz3).1, .int (minZ (minZ ⟨x1, y1, z1⟩ ⟨x2, y2, z2⟩) ⟨x3, y3, z3⟩).y (ir_min (p := minZ ⟨x1, y1, z1⟩ ⟨x2, y2, z2⟩) (q := ⟨x3, y3, z3⟩) (ir_min (p := ⟨x1, y1, z1⟩) (q := ⟨x2, y2, z2⟩) hx1 hy1 hz1 hx2 hy2 hz2).1 (ir_min (p := ⟨x1, y1, z1⟩) (q := ⟨x2, y2, z2⟩) hx1 hy1 hz1 hx2 hy2 hz2).2.1 (ir_min (p := ⟨x1, y1, z1⟩) (q := ⟨x2, y2, z2⟩) hx1 hy1 hz1 hx2 hy2 hz2).2.2 hx3 hy3 hz3).2.1, .int (minZ (minZ ⟨x1, y1, z1⟩ ⟨x2, y2, z2⟩) ⟨x3, y3, z3⟩).z (ir_min (p := minZ ⟨x1, y1, z1⟩ ⟨x2, y2, z2⟩) (q := ⟨x3, y3, z3⟩) (ir_min (p := ⟨x1, y1, z1⟩) (q := ⟨x2, y2, z2⟩) hx1 hy1 hz1 hx2 hy2 hz2).1 (ir_min (p := ⟨x1, y1, z1⟩) (q := ⟨x2, y2, z2⟩) hx1 hy1 hz1 hx2 hy2 hz2).2.1 (ir_min (p := ⟨x1, y1, z1⟩) (q := ⟨x2, y2, z2⟩) hx1 hy1 hz1 hx2 hy2 hz2).2.2 hx3 hy3 hz3).2.2], .agg [.int (maxZ (maxZ ⟨x1, y1, z1⟩ ⟨x2, y2, z2⟩) ⟨x3, y3, z3⟩).x (ir_max (p := maxZ ⟨x1, y1, z1⟩ ⟨x2, y2, z2⟩) (q := ⟨x3, y3, z3⟩) (ir_max (p := ⟨x1, y1, z1⟩) (q := ⟨x2, y2, z2⟩) hx1 hy1 hz1 hx2 hy2 hz2).1 (ir_max (p := ⟨x1, y1, z1⟩) (q := ⟨x2, y2, z2⟩) hx1 hy1 hz1 hx2 hy2 hz2).2.1 (ir_max (p := ⟨x1, y1, z1⟩) (q := ⟨x2, y2, z2⟩) hx1 hy1 hz1 hx2 hy2 hz2).2.2 hx3 hy3 hz3).1, .int (maxZ (maxZ ⟨x1, y1, z1⟩ ⟨x2, y2, z2⟩) ⟨x3, y3, z3⟩).y (ir_max (p := maxZ ⟨x1, y1, z1⟩ ⟨x2, y2, z2⟩) (q := ⟨x3, y3, z3⟩) (ir_max (p := ⟨x1, y1, z1⟩) (q := ⟨x2, y2, z2⟩) hx1 hy1 hz1 hx2 hy2 hz2).1 (ir_max (p := ⟨x1, y1, z1⟩) (q := ⟨x2, y2, z2⟩) hx1 hy1 hz1 hx2 hy2 hz2).2.1 (ir_max (p := ⟨x1, y1, z1⟩) (q := ⟨x2, y2, z2⟩) hx1 hy1 hz1 hx2 hy2 hz2).2.2 hx3 hy3 hz3).2.1, .int (maxZ (maxZ ⟨x1, y1, z1⟩ ⟨x2, y2, z2⟩) ⟨x3, y3, z3⟩).z (ir_max (p := maxZ ⟨x1, y1, z1⟩ ⟨x2, y2, z2⟩) (q := ⟨x3, y3, z3⟩) (ir_max (p := ⟨x1, y1, z1⟩) (q := ⟨x2, y2, z2⟩) hx1 hy1 hz1 hx2 hy2 hz2).1 (ir_max (p := ⟨x1, y1, z1⟩) (q := ⟨x2, y2, z2⟩) hx1 hy1 hz1 hx2 hy2 hz2).2.1 (ir_max (p := ⟨x1, y1, z1⟩) (q := ⟨x2, y2, z2⟩) hx1 hy1 hz1 hx2 hy2 hz2).2.2 hx3 hy3 hz3).2.2]]).den ρ := by
  conv => whnf
  refine bcase_intro (fun a2 => ?_) (fun a2 => ?_)
  · have a2 : lessZ (⟨x2, y2, z2⟩ : V3) (⟨x1, y1, z1⟩ : V3) = true := a2
    conv => whnf
    refine bcase_intro (fun b2 => ?_) (fun b2 => ?_)
    · have b2 : lessZ (⟨x1, y1, z1⟩ : V3) (⟨x2, y2, z2⟩ : V3) = true := b2
      conv => whnf
      refine bcase_intro (fun a3 => ?_) (fun a3 => ?_)
      · have a3 : lessZ (⟨x3, y3, z3⟩ : V3) (⟨x2, y2, z2⟩ : V3) = true := a3
        conv => whnf
        refine bcase_intro (fun b3 => ?_) (fun b3 => ?_)
        · have b3 : lessZ (⟨x2, y2, z2⟩ : V3) (⟨x3, y3, z3⟩ : V3) = true := b3
          conv => whnf
          refine ⟨?_, ?_, trivial⟩
          · conv => whnf
            refine ⟨?_, ?_, trivial⟩
            · conv => whnf
              refine ⟨?_, trivial⟩
              · conv => whnf
                refine ⟨?_, trivial⟩
                · conv => whnf
                  exact fun ρ => pts2_sv (p := (⟨x3, y3, z3⟩ : V3)) (q := (⟨x3, y3, z3⟩ : V3)) (Eq.symm (show (minZ (minZ ⟨x1, y1, z1⟩ ⟨x2, y2, z2⟩) ⟨x3, y3, z3⟩) = (⟨x3, y3, z3⟩ : V3) by rw [min_t a2, min_t a3])) (Eq.symm (show (maxZ (maxZ ⟨x1, y1, z1⟩ ⟨x2, y2, z2⟩) ⟨x3, y3, z3⟩) = (⟨x3, y3, z3⟩ : V3) by rw [max_t' b2, max_t' b3])) ρ
            · conv => whnf
              refine ⟨?_, trivial⟩
              · conv => whnf
                refine ⟨?_, trivial⟩
                · conv => whnf
                  exact fun ρ => pts2_sv (p := (⟨x3, y3, z3⟩ : V3)) (q := (⟨x3, y3, z3⟩ : V3)) (Eq.symm (show (minZ (minZ ⟨x1, y1, z1⟩ ⟨x2, y2, z2⟩) ⟨x3, y3, z3⟩) = (⟨x3, y3, z3⟩ : V3) by rw [min_t a2, min_t a3])) (Eq.symm (show (maxZ (maxZ ⟨x1, y1, z1⟩ ⟨x2, y2, z2⟩) ⟨x3, y3, z3⟩) = (⟨x3, y3, z3⟩ : V3) by rw [max_t' b2, max_t' b3])) ρ
          · conv => whnf
            refine ⟨?_, trivial⟩
            · conv => whnf
              refine ⟨?_, trivial⟩
              · conv => whnf
                refine ⟨?_, trivial⟩
                · conv => whnf
                  exact fun ρ => pts2_sv (p := (⟨x3, y3, z3⟩ : V3)) (q := (⟨x3, y3, z3⟩ : V3)) (Eq.symm (show (minZ (minZ ⟨x1, y1, z1⟩ ⟨x2, y2, z2⟩) ⟨x3, y3, z3⟩) = (⟨x3, y3, z3⟩ : V3) by rw [min_t a2, min_t a3])) (Eq.symm (show (maxZ (maxZ ⟨x1, y1, z1⟩ ⟨x2, y2, z2⟩) ⟨x3, y3, z3⟩) = (⟨x3, y3, z3⟩ : V3) by rw [max_t' b2, max_t' b3])) ρ
        · have b3 : lessZ (⟨x2, y2, z2⟩ : V3) (⟨x3, y3, z3⟩ : V3) = false := b3
          conv => whnf
          refine ⟨?_, ?_, trivial⟩
          · conv => whnf
            refine ⟨?_, ?_, trivial⟩
            · conv => whnf
              refine ⟨?_, trivial⟩
              · conv => whnf
                refine ⟨?_, trivial⟩
                · conv => whnf
                  exact fun ρ => pts2_sv (p := (⟨x3, y3, z3⟩ : V3)) (q := (⟨x2, y2, z2⟩ : V3)) (Eq.symm (show (minZ (minZ ⟨x1, y1, z1⟩ ⟨x2, y2, z2⟩) ⟨x3, y3, z3⟩) = (⟨x3, y3, z3⟩ : V3) by rw [min_t a2, min_t a3])) (Eq.symm (show (maxZ (maxZ ⟨x1, y1, z1⟩ ⟨x2, y2, z2⟩) ⟨x3, y3, z3⟩) = (⟨x2, y2, z2⟩ : V3) by rw [max_t' b2, max_f' b3])) ρ
            · conv => whnf
              refine ⟨?_, trivial⟩
              · conv => whnf
                refine ⟨?_, trivial⟩
                · conv => whnf
                  exact fun ρ => pts2_sv (p := (⟨x3, y3, z3⟩ : V3)) (q := (⟨x2, y2, z2⟩ : V3)) (Eq.symm (show (minZ (minZ ⟨x1, y1, z1⟩ ⟨x2, y2, z2⟩) ⟨x3, y3, z3⟩) = (⟨x3, y3, z3⟩ : V3) by rw [min_t a2, min_t a3])) (Eq.symm (show (maxZ (maxZ ⟨x1, y1, z1⟩ ⟨x2, y2, z2⟩) ⟨x3, y3, z3⟩) = (⟨x2, y2, z2⟩ : V3) by rw [max_t' b2, max_f' b3])) ρ
          · conv => whnf
            refine ⟨?_, trivial⟩
            · conv => whnf
              refine ⟨?_, trivial⟩
              · conv => whnf
                refine ⟨?_, trivial⟩
                · conv => whnf
                  exact fun ρ => pts2_sv (p := (⟨x3, y3, z3⟩ : V3)) (q := (⟨x2, y2, z2⟩ : V3)) (Eq.symm (show (minZ (minZ ⟨x1, y1, z1⟩ ⟨x2, y2, z2⟩) ⟨x3, y3, z3⟩) = (⟨x3, y3, z3⟩ : V3) by rw [min_t a2, min_t a3])) (Eq.symm (show (maxZ (maxZ ⟨x1, y1, z1⟩ ⟨x2, y2, z2⟩) ⟨x3, y3, z3⟩) = (⟨x2, y2, z2⟩ : V3) by rw [max_t' b2, max_f' b3])) ρ
      · have a3 : lessZ (⟨x3, y3, z3⟩ : V3) (⟨x2, y2, z2⟩ : V3) = false := a3
        conv => whnf
        refine bcase_intro (fun b3 => ?_) (fun b3 => ?_)
        · have b3 : lessZ (⟨x2, y2, z2⟩ : V3) (⟨x3, y3, z3⟩ : V3) = true := b3
          conv => whnf
          refine ⟨?_, ?_, trivial⟩
          · conv => whnf
            refine ⟨?_, ?_, trivial⟩
            · conv => whnf
              refine ⟨?_, trivial⟩
              · conv => whnf
                refine ⟨?_, trivial⟩
                · conv => whnf
                  exact fun ρ => pts2_sv (p := (⟨x2, y2, z2⟩ : V3)) (q := (⟨x3, y3, z3⟩ : V3)) (Eq.symm (show (minZ (minZ ⟨x1, y1, z1⟩ ⟨x2, y2, z2⟩) ⟨x3, y3, z3⟩) = (⟨x2, y2, z2⟩ : V3) by rw [min_t a2, min_f a3])) (Eq.symm (show (maxZ (maxZ ⟨x1, y1, z1⟩ ⟨x2, y2, z2⟩) ⟨x3, y3, z3⟩) = (⟨x3, y3, z3⟩ : V3) by rw [max_t' b2, max_t' b3])) ρ
            · conv => whnf
              refine ⟨?_, trivial⟩
              · conv => whnf
                refine ⟨?_, trivial⟩
                · conv => whnf
                  exact fun ρ => pts2_sv (p := (⟨x2, y2, z2⟩ : V3)) (q := (⟨x3, y3, z3⟩ : V3)) (Eq.symm (show (minZ (minZ ⟨x1, y1, z1⟩ ⟨x2, y2, z2⟩) ⟨x3, y3, z3⟩) = (⟨x2, y2, z2⟩ : V3) by rw [min_t a2, min_f a3])) (Eq.symm (show (maxZ (maxZ ⟨x1, y1, z1⟩ ⟨x2, y2, z2⟩) ⟨x3, y3, z3⟩) = (⟨x3, y3, z3⟩ : V3) by rw [max_t' b2, max_t' b3])) ρ
          · conv => whnf
            refine ⟨?_, trivial⟩
            · conv => whnf
              refine ⟨?_, trivial⟩
              · conv => whnf
                refine ⟨?_, trivial⟩
                · conv => whnf
                  exact fun ρ => pts2_sv (p := (⟨x2, y2, z2⟩ : V3)) (q := (⟨x3, y3, z3⟩ : V3)) (Eq.symm (show (minZ (minZ ⟨x1, y1, z1⟩ ⟨x2, y2, z2⟩) ⟨x3, y3, z3⟩) = (⟨x2, y2, z2⟩ : V3) by rw [min_t a2, min_f a3])) (Eq.symm (show (maxZ (maxZ ⟨x1, y1, z1⟩ ⟨x2, y2, z2⟩) ⟨x3, y3, z3⟩) = (⟨x3, y3, z3⟩ : V3) by rw [max_t' b2, max_t' b3])) ρ
        · have b3 : lessZ (⟨x2, y2, z2⟩ : V3) (⟨x3, y3, z3⟩ : V3) = false := b3
          conv => whnf
          refine ⟨?_, ?_, trivial⟩
          · conv => whnf
            refine ⟨?_, ?_, trivial⟩
            · conv => whnf
              refine ⟨?_, trivial⟩
              · conv => whnf
                refine ⟨?_, trivial⟩
                · conv => whnf
                  exact fun ρ => pts2_sv (p := (⟨x2, y2, z2⟩ : V3)) (q := (⟨x2, y2, z2⟩ : V3)) (Eq.symm (show (minZ (minZ ⟨x1, y1, z1⟩ ⟨x2, y2, z2⟩) ⟨x3, y3, z3⟩) = (⟨x2, y2, z2⟩ : V3) by rw [min_t a2, min_f a3])) (Eq.symm (show (maxZ (maxZ ⟨x1, y1, z1⟩ ⟨x2, y2, z2⟩) ⟨x3, y3, z3⟩) = (⟨x2, y2, z2⟩ : V3) by rw [max_t' b2, max_f' b3])) ρ
            · conv => whnf
              refine ⟨?_, trivial⟩
              · conv => whnf
                refine ⟨?_, trivial⟩
                · conv => whnf
                  exact fun ρ => pts2_sv (p := (⟨x2, y2, z2⟩ : V3)) (q := (⟨x2, y2, z2⟩ : V3)) (Eq.symm (show (minZ (minZ ⟨x1, y1, z1⟩ ⟨x2, y2, z2⟩) ⟨x3, y3, z3⟩) = (⟨x2, y2, z2⟩ : V3) by rw [min_t a2, min_f a3])) (Eq.symm (show (maxZ (maxZ ⟨x1, y1, z1⟩ ⟨x2, y2, z2⟩) ⟨x3, y3, z3⟩) = (⟨x2, y2, z2⟩ : V3) by rw [max_t' b2, max_f' b3])) ρ
          · conv => whnf
            refine ⟨?_, trivial⟩
            · conv => whnf
              refine ⟨?_, trivial⟩
              · conv => whnf
                refine ⟨?_, trivial⟩
                · conv => whnf
                  exact fun ρ => pts2_sv (p := (⟨x2, y2, z2⟩ : V3)) (q := (⟨x2, y2, z2⟩ : V3)) (Eq.symm (show (minZ (minZ ⟨x1, y1, z1⟩ ⟨x2, y2, z2⟩) ⟨x3, y3, z3⟩) = (⟨x2, y2, z2⟩ : V3) by rw [min_t a2, min_f a3])) (Eq.symm (show (maxZ (maxZ ⟨x1, y1, z1⟩ ⟨x2, y2, z2⟩) ⟨x3, y3, z3⟩) = (⟨x2, y2, z2⟩ : V3) by rw [max_t' b2, max_f' b3])) ρ
    · have b2 : lessZ (⟨x1, y1, z1⟩ : V3) (⟨x2, y2, z2⟩ : V3) = false := b2
      conv => whnf
      refine bcase_intro (fun a3 => ?_) (fun a3 => ?_)
      · have a3 : lessZ (⟨x3, y3, z3⟩ : V3) (⟨x2, y2, z2⟩ : V3) = true := a3
        conv => whnf
        refine bcase_intro (fun b3 => ?_) (fun b3 => ?_)
        · have b3 : lessZ (⟨x1, y1, z1⟩ : V3) (⟨x3, y3, z3⟩ : V3) = true := b3
          conv => whnf
          refine ⟨?_, ?_, trivial⟩
          · conv => whnf
            refine ⟨?_, ?_, trivial⟩
            · conv => whnf
              refine ⟨?_, trivial⟩
              · conv => whnf
                refine ⟨?_, trivial⟩
                · conv => whnf
                  exact fun ρ => pts2_sv (p := (⟨x3, y3, z3⟩ : V3)) (q := (⟨x3, y3, z3⟩ : V3)) (Eq.symm (show (minZ (minZ ⟨x1, y1, z1⟩ ⟨x2, y2, z2⟩) ⟨x3, y3, z3⟩) = (⟨x3, y3, z3⟩ : V3) by rw [min_t a2, min_t a3])) (Eq.symm (show (maxZ (maxZ ⟨x1, y1, z1⟩ ⟨x2, y2, z2⟩) ⟨x3, y3, z3⟩) = (⟨x3, y3, z3⟩ : V3) by rw [max_f' b2, max_t' b3])) ρ
            · conv => whnf
              refine ⟨?_, trivial⟩
              · conv => whnf
                refine ⟨?_, trivial⟩
                · conv => whnf
                  exact fun ρ => pts2_sv (p := (⟨x3, y3, z3⟩ : V3)) (q := (⟨x3, y3, z3⟩ : V3)) (Eq.symm (show (minZ (minZ ⟨x1, y1, z1⟩ ⟨x2, y2, z2⟩) ⟨x3, y3, z3⟩) = (⟨x3, y3, z3⟩ : V3) by rw [min_t a2, min_t a3])) (Eq.symm (show (maxZ (maxZ ⟨x1, y1, z1⟩ ⟨x2, y2, z2⟩) ⟨x3, y3, z3⟩) = (⟨x3, y3, z3⟩ : V3) by rw [max_f' b2, max_t' b3])) ρ
          · conv => whnf
            refine ⟨?_, trivial⟩
            · conv => whnf
              refine ⟨?_, trivial⟩
              · conv => whnf
                refine ⟨?_, trivial⟩
                · conv => whnf
                  exact fun ρ => pts2_sv (p := (⟨x3, y3, z3⟩ : V3)) (q := (⟨x3, y3, z3⟩ : V3)) (Eq.symm (show (minZ (minZ ⟨x1, y1, z1⟩ ⟨x2, y2, z2⟩) ⟨x3, y3, z3⟩) = (⟨x3, y3, z3⟩ : V3) by rw [min_t a2, min_t a3])) (Eq.symm (show (maxZ (maxZ ⟨x1, y1, z1⟩ ⟨x2, y2, z2⟩) ⟨x3, y3, z3⟩) = (⟨x3, y3, z3⟩ : V3) by rw [max_f' b2, max_t' b3])) ρ
        · have b3 : lessZ (⟨x1, y1, z1⟩ : V3) (⟨x3, y3, z3⟩ : V3) = false := b3
          conv => whnf
          refine ⟨?_, ?_, trivial⟩
          · conv => whnf
            refine ⟨?_, ?_, trivial⟩
            · conv => whnf
              refine ⟨?_, trivial⟩
              · conv => whnf
                refine ⟨?_, trivial⟩
                · conv => whnf
                  exact fun ρ => pts2_sv (p := (⟨x3, y3, z3⟩ : V3)) (q := (⟨x1, y1, z1⟩ : V3)) (Eq.symm (show (minZ (minZ ⟨x1, y1, z1⟩ ⟨x2, y2, z2⟩) ⟨x3, y3, z3⟩) = (⟨x3, y3, z3⟩ : V3) by rw [min_t a2, min_t a3])) (Eq.symm (show (maxZ (maxZ ⟨x1, y1, z1⟩ ⟨x2, y2, z2⟩) ⟨x3, y3, z3⟩) = (⟨x1, y1, z1⟩ : V3) by rw [max_f' b2, max_f' b3])) ρ
            · conv => whnf
              refine ⟨?_, trivial⟩
              · conv => whnf
                refine ⟨?_, trivial⟩
                · conv => whnf
                  exact fun ρ => pts2_sv (p := (⟨x3, y3, z3⟩ : V3)) (q := (⟨x1, y1, z1⟩ : V3)) (Eq.symm (show (minZ (minZ ⟨x1, y1, z1⟩ ⟨x2, y2, z2⟩) ⟨x3, y3, z3⟩) = (⟨x3, y3, z3⟩ : V3) by rw [min_t a2, min_t a3])) (Eq.symm (show (maxZ (maxZ ⟨x1, y1, z1⟩ ⟨x2, y2, z2⟩) ⟨x3, y3, z3⟩) = (⟨x1, y1, z1⟩ : V3) by rw [max_f' b2, max_f' b3])) ρ
          · conv => whnf
            refine ⟨?_, trivial⟩
            · conv => whnf
              refine ⟨?_, trivial⟩
              · conv => whnf
                refine ⟨?_, trivial⟩
                · conv => whnf
                  exact fun ρ => pts2_sv (p := (⟨x3, y3, z3⟩ : V3)) (q := (⟨x1, y1, z1⟩ : V3)) (Eq.symm (show (minZ (minZ ⟨x1, y1, z1⟩ ⟨x2, y2, z2⟩) ⟨x3, y3, z3⟩) = (⟨x3, y3, z3⟩ : V3) by rw [min_t a2, min_t a3])) (Eq.symm (show (maxZ (maxZ ⟨x1, y1, z1⟩ ⟨x2, y2, z2⟩) ⟨x3, y3, z3⟩) = (⟨x1, y1, z1⟩ : V3) by rw [max_f' b2, max_f' b3])) ρ
      · have a3 : lessZ (⟨x3, y3, z3⟩ : V3) (⟨x2, y2, z2⟩ : V3) = false := a3
        conv => whnf
        refine bcase_intro (fun b3 => ?_) (fun b3 => ?_)
        · have b3 : lessZ (⟨x1, y1, z1⟩ : V3) (⟨x3, y3, z3⟩ : V3) = true := b3
          conv => whnf
          refine ⟨?_, ?_, trivial⟩
          · conv => whnf
            refine ⟨?_, ?_, trivial⟩
            · conv => whnf
              refine ⟨?_, trivial⟩
              · conv => whnf
                refine ⟨?_, trivial⟩
                · conv => whnf
                  exact fun ρ => pts2_sv (p := (⟨x2, y2, z2⟩ : V3)) (q := (⟨x3, y3, z3⟩ : V3)) (Eq.symm (show (minZ (minZ ⟨x1, y1, z1⟩ ⟨x2, y2, z2⟩) ⟨x3, y3, z3⟩) = (⟨x2, y2, z2⟩ : V3) by rw [min_t a2, min_f a3])) (Eq.symm (show (maxZ (maxZ ⟨x1, y1, z1⟩ ⟨x2, y2, z2⟩) ⟨x3, y3, z3⟩) = (⟨x3, y3, z3⟩ : V3) by rw [max_f' b2, max_t' b3])) ρ
            · conv => whnf
              refine ⟨?_, trivial⟩
              · conv => whnf
                refine ⟨?_, trivial⟩
                · conv => whnf
                  exact fun ρ => pts2_sv (p := (⟨x2, y2, z2⟩ : V3)) (q := (⟨x3, y3, z3⟩ : V3)) (Eq.symm (show (minZ (minZ ⟨x1, y1, z1⟩ ⟨x2, y2, z2⟩) ⟨x3, y3, z3⟩) = (⟨x2, y2, z2⟩ : V3) by rw [min_t a2, min_f a3])) (Eq.symm (show (maxZ (maxZ ⟨x1, y1, z1⟩ ⟨x2, y2, z2⟩) ⟨x3, y3, z3⟩) = (⟨x3, y3, z3⟩ : V3) by rw [max_f' b2, max_t' b3])) ρ
          · conv => whnf
            refine ⟨?_, trivial⟩
            · conv => whnf
              refine ⟨?_, trivial⟩
              · conv => whnf
                refine ⟨?_, trivial⟩
                · conv => whnf
                  exact fun ρ => pts2_sv (p := (⟨x2, y2, z2⟩ : V3)) (q := (⟨x3, y3, z3⟩ : V3)) (Eq.symm (show (minZ (minZ ⟨x1, y1, z1⟩ ⟨x2, y2, z2⟩) ⟨x3, y3, z3⟩) = (⟨x2, y2, z2⟩ : V3) by rw [min_t a2, min_f a3])) (Eq.symm (show (maxZ (maxZ ⟨x1, y1, z1⟩ ⟨x2, y2, z2⟩) ⟨x3, y3, z3⟩) = (⟨x3, y3, z3⟩ : V3) by rw [max_f' b2, max_t' b3])) ρ
        · have b3 : lessZ (⟨x1, y1, z1⟩ : V3) (⟨x3, y3, z3⟩ : V3) = false := b3
          conv => whnf
          refine ⟨?_, ?_, trivial⟩
          · conv => whnf
            refine ⟨?_, ?_, trivial⟩
            · conv => whnf
              refine ⟨?_, trivial⟩
              · conv => whnf
                refine ⟨?_, trivial⟩
                · conv => whnf
                  exact fun ρ => pts2_sv (p := (⟨x2, y2, z2⟩ : V3)) (q := (⟨x1, y1, z1⟩ : V3)) (Eq.symm (show (minZ (minZ ⟨x1, y1, z1⟩ ⟨x2, y2, z2⟩) ⟨x3, y3, z3⟩) = (⟨x2, y2, z2⟩ : V3) by rw [min_t a2, min_f a3])) (Eq.symm (show (maxZ (maxZ ⟨x1, y1, z1⟩ ⟨x2, y2, z2⟩) ⟨x3, y3, z3⟩) = (⟨x1, y1, z1⟩ : V3) by rw [max_f' b2, max_f' b3])) ρ
            · conv => whnf
              refine ⟨?_, trivial⟩
              · conv => whnf
                refine ⟨?_, trivial⟩
                · conv => whnf
                  exact fun ρ => pts2_sv (p := (⟨x2, y2, z2⟩ : V3)) (q := (⟨x1, y1, z1⟩ : V3)) (Eq.symm (show (minZ (minZ ⟨x1, y1, z1⟩ ⟨x2, y2, z2⟩) ⟨x3, y3, z3⟩) = (⟨x2, y2, z2⟩ : V3) by rw [min_t a2, min_f a3])) (Eq.symm (show (maxZ (maxZ ⟨x1, y1, z1⟩ ⟨x2, y2, z2⟩) ⟨x3, y3, z3⟩) = (⟨x1, y1, z1⟩ : V3) by rw [max_f' b2, max_f' b3])) ρ
          · conv => whnf
            refine ⟨?_, trivial⟩
            · conv => whnf
              refine ⟨?_, trivial⟩
              · conv => whnf
                refine ⟨?_, trivial⟩
                · conv => whnf
                  exact fun ρ => pts2_sv (p := (⟨x2, y2, z2⟩ : V3)) (q := (⟨x1, y1, z1⟩ : V3)) (Eq.symm (show (minZ (minZ ⟨x1, y1, z1⟩ ⟨x2, y2, z2⟩) ⟨x3, y3, z3⟩) = (⟨x2, y2, z2⟩ : V3) by rw [min_t a2, min_f a3])) (Eq.symm (show (maxZ (maxZ ⟨x1, y1, z1⟩ ⟨x2, y2, z2⟩) ⟨x3, y3, z3⟩) = (⟨x1, y1, z1⟩ : V3) by rw [max_f' b2, max_f' b3])) ρ
  · have a2 : lessZ (⟨x2, y2, z2⟩ : V3) (⟨x1, y1, z1⟩ : V3) = false := a2
    conv => whnf
    refine bcase_intro (fun b2 => ?_) (fun b2 => ?_)
    · have b2 : lessZ (⟨x1, y1, z1⟩ : V3) (⟨x2, y2, z2⟩ : V3) = true := b2
      conv => whnf
      refine bcase_intro (fun a3 => ?_) (fun a3 => ?_)
      · have a3 : lessZ (⟨x3, y3, z3⟩ : V3) (⟨x1, y1, z1⟩ : V3) = true := a3
        conv => whnf
        refine bcase_intro (fun b3 => ?_) (fun b3 => ?_)
        · have b3 : lessZ (⟨x2, y2, z2⟩ : V3) (⟨x3, y3, z3⟩ : V3) = true := b3
          conv => whnf
          refine ⟨?_, ?_, trivial⟩
          · conv => whnf
            refine ⟨?_, ?_, trivial⟩
            · conv => whnf
              refine ⟨?_, trivial⟩
              · conv => whnf
                refine ⟨?_, trivial⟩
                · conv => whnf
                  exact fun ρ => pts2_sv (p := (⟨x3, y3, z3⟩ : V3)) (q := (⟨x3, y3, z3⟩ : V3)) (Eq.symm (show (minZ (minZ ⟨x1, y1, z1⟩ ⟨x2, y2, z2⟩) ⟨x3, y3, z3⟩) = (⟨x3, y3, z3⟩ : V3) by rw [min_f a2, min_t a3])) (Eq.symm (show (maxZ (maxZ ⟨x1, y1, z1⟩ ⟨x2, y2, z2⟩) ⟨x3, y3, z3⟩) = (⟨x3, y3, z3⟩ : V3) by rw [max_t' b2, max_t' b3])) ρ
            · conv => whnf
              refine ⟨?_, trivial⟩
              · conv => whnf
                refine ⟨?_, trivial⟩
                · conv => whnf
                  exact fun ρ => pts2_sv (p := (⟨x3, y3, z3⟩ : V3)) (q := (⟨x3, y3, z3⟩ : V3)) (Eq.symm (show (minZ (minZ ⟨x1, y1, z1⟩ ⟨x2, y2, z2⟩) ⟨x3, y3, z3⟩) = (⟨x3, y3, z3⟩ : V3) by rw [min_f a2, min_t a3])) (Eq.symm (show (maxZ (maxZ ⟨x1, y1, z1⟩ ⟨x2, y2, z2⟩) ⟨x3, y3, z3⟩) = (⟨x3, y3, z3⟩ : V3) by rw [max_t' b2, max_t' b3])) ρ
          · conv => whnf
            refine ⟨?_, trivial⟩
            · conv => whnf
              refine ⟨?_, trivial⟩
              · conv => whnf
                refine ⟨?_, trivial⟩
                · conv => whnf
                  exact fun ρ => pts2_sv (p := (⟨x3, y3, z3⟩ : V3)) (q := (⟨x3, y3, z3⟩ : V3)) (Eq.symm (show (minZ (minZ ⟨x1, y1, z1⟩ ⟨x2, y2, z2⟩) ⟨x3, y3, z3⟩) = (⟨x3, y3, z3⟩ : V3) by rw [min_f a2, min_t a3])) (Eq.symm (show (maxZ (maxZ ⟨x1, y1, z1⟩ ⟨x2, y2, z2⟩) ⟨x3, y3, z3⟩) = (⟨x3, y3, z3⟩ : V3) by rw [max_t' b2, max_t' b3])) ρ
        · have b3 : lessZ (⟨x2, y2, z2⟩ : V3) (⟨x3, y3, z3⟩ : V3) = false := b3
          conv => whnf
          refine ⟨?_, ?_, trivial⟩
          · conv => whnf
            refine ⟨?_, ?_, trivial⟩
            · conv => whnf
              refine ⟨?_, trivial⟩
              · conv => whnf
                refine ⟨?_, trivial⟩
                · conv => whnf
                  exact fun ρ => pts2_sv (p := (⟨x3, y3, z3⟩ : V3)) (q := (⟨x2, y2, z2⟩ : V3)) (Eq.symm (show (minZ (minZ ⟨x1, y1, z1⟩ ⟨x2, y2, z2⟩) ⟨x3, y3, z3⟩) = (⟨x3, y3, z3⟩ : V3) by rw [min_f a2, min_t a3])) (Eq.symm (show (maxZ (maxZ ⟨x1, y1, z1⟩ ⟨x2, y2, z2⟩) ⟨x3, y3, z3⟩) = (⟨x2, y2, z2⟩ : V3) by rw [max_t' b2, max_f' b3])) ρ
            · conv => whnf
              refine ⟨?_, trivial⟩
              · conv => whnf
                refine ⟨?_, trivial⟩
                · conv => whnf
                  exact fun ρ => pts2_sv (p := (⟨x3, y3, z3⟩ : V3)) (q := (⟨x2, y2, z2⟩ : V3)) (Eq.symm (show (minZ (minZ ⟨x1, y1, z1⟩ ⟨x2, y2, z2⟩) ⟨x3, y3, z3⟩) = (⟨x3, y3, z3⟩ : V3) by rw [min_f a2, min_t a3])) (Eq.symm (show (maxZ (maxZ ⟨x1, y1, z1⟩ ⟨x2, y2, z2⟩) ⟨x3, y3, z3⟩) = (⟨x2, y2, z2⟩ : V3) by rw [max_t' b2, max_f' b3])) ρ
          · conv => whnf
            refine ⟨?_, trivial⟩
            · conv => whnf
              refine ⟨?_, trivial⟩
              · conv => whnf
                refine ⟨?_, trivial⟩
                · conv => whnf
                  exact fun ρ => pts2_sv (p := (⟨x3, y3, z3⟩ : V3)) (q := (⟨x2, y2, z2⟩ : V3)) (Eq.symm (show (minZ (minZ ⟨x1, y1, z1⟩ ⟨x2, y2, z2⟩) ⟨x3, y3, z3⟩) = (⟨x3, y3, z3⟩ : V3) by rw [min_f a2, min_t a3])) (Eq.symm (show (maxZ (maxZ ⟨x1, y1, z1⟩ ⟨x2, y2, z2⟩) ⟨x3, y3, z3⟩) = (⟨x2, y2, z2⟩ : V3) by rw [max_t' b2, max_f' b3])) ρ
      · have a3 : lessZ (⟨x3, y3, z3⟩ : V3) (⟨x1, y1, z1⟩ : V3) = false := a3
        conv => whnf
        refine bcase_intro (fun b3 => ?_) (fun b3 => ?_)
        · have b3 : lessZ (⟨x2, y2, z2⟩ : V3) (⟨x3, y3, z3⟩ : V3) = true := b3
          conv => whnf
          refine ⟨?_, ?_, trivial⟩
          · conv => whnf
            refine ⟨?_, ?_, trivial⟩
            · conv => whnf
              refine ⟨?_, trivial⟩
              · conv => whnf
                refine ⟨?_, trivial⟩
                · conv => whnf
                  exact fun ρ => pts2_sv (p := (⟨x1, y1, z1⟩ : V3)) (q := (⟨x3, y3, z3⟩ : V3)) (Eq.symm (show (minZ (minZ ⟨x1, y1, z1⟩ ⟨x2, y2, z2⟩) ⟨x3, y3, z3⟩) = (⟨x1, y1, z1⟩ : V3) by rw [min_f a2, min_f a3])) (Eq.symm (show (maxZ (maxZ ⟨x1, y1, z1⟩ ⟨x2, y2, z2⟩) ⟨x3, y3, z3⟩) = (⟨x3, y3, z3⟩ : V3) by rw [max_t' b2, max_t' b3])) ρ
            · conv => whnf
              refine ⟨?_, trivial⟩
              · conv => whnf
                refine ⟨?_, trivial⟩
                · conv => whnf
                  exact fun ρ => pts2_sv (p := (⟨x1, y1, z1⟩ : V3)) (q := (⟨x3, y3, z3⟩ : V3)) (Eq.symm (show (minZ (minZ ⟨x1, y1, z1⟩ ⟨x2, y2, z2⟩) ⟨x3, y3, z3⟩) = (⟨x1, y1, z1⟩ : V3) by rw [min_f a2, min_f a3])) (Eq.symm (show (maxZ (maxZ ⟨x1, y1, z1⟩ ⟨x2, y2, z2⟩) ⟨x3, y3, z3⟩) = (⟨x3, y3, z3⟩ : V3) by rw [max_t' b2, max_t' b3])) ρ
          · conv => whnf
            refine ⟨?_, trivial⟩
            · conv => whnf
              refine ⟨?_, trivial⟩
              · conv => whnf
                refine ⟨?_, trivial⟩
                · conv => whnf
                  exact fun ρ => pts2_sv (p := (⟨x1, y1, z1⟩ : V3)) (q := (⟨x3, y3, z3⟩ : V3)) (Eq.symm (show (minZ (minZ ⟨x1, y1, z1⟩ ⟨x2, y2, z2⟩) ⟨x3, y3, z3⟩) = (⟨x1, y1, z1⟩ : V3) by rw [min_f a2, min_f a3])) (Eq.symm (show (maxZ (maxZ ⟨x1, y1, z1⟩ ⟨x2, y2, z2⟩) ⟨x3, y3, z3⟩) = (⟨x3, y3, z3⟩ : V3) by rw [max_t' b2, max_t' b3])) ρ
        · have b3 : lessZ (⟨x2, y2, z2⟩ : V3) (⟨x3, y3, z3⟩ : V3) = false := b3
          conv => whnf
          refine ⟨?_, ?_, trivial⟩
          · conv => whnf
            refine ⟨?_, ?_, trivial⟩
            · conv => whnf
              refine ⟨?_, trivial⟩
              · conv => whnf
                refine ⟨?_, trivial⟩
                · conv => whnf
                  exact fun ρ => pts2_sv (p := (⟨x1, y1, z1⟩ : V3)) (q := (⟨x2, y2, z2⟩ : V3)) (Eq.symm (show (minZ (minZ ⟨x1, y1, z1⟩ ⟨x2, y2, z2⟩) ⟨x3, y3, z3⟩) = (⟨x1, y1, z1⟩ : V3) by rw [min_f a2, min_f a3])) (Eq.symm (show (maxZ (maxZ ⟨x1, y1, z1⟩ ⟨x2, y2, z2⟩) ⟨x3, y3, z3⟩) = (⟨x2, y2, z2⟩ : V3) by rw [max_t' b2, max_f' b3])) ρ
            · conv => whnf
              refine ⟨?_, trivial⟩
              · conv => whnf
                refine ⟨?_, trivial⟩
                · conv => whnf
                  exact fun ρ => pts2_sv (p := (⟨x1, y1, z1⟩ : V3)) (q := (⟨x2, y2, z2⟩ : V3)) (Eq.symm (show (minZ (minZ ⟨x1, y1, z1⟩ ⟨x2, y2, z2⟩) ⟨x3, y3, z3⟩) = (⟨x1, y1, z1⟩ : V3) by rw [min_f a2, min_f a3])) (Eq.symm (show (maxZ (maxZ ⟨x1, y1, z1⟩ ⟨x2, y2, z2⟩) ⟨x3, y3, z3⟩) = (⟨x2, y2, z2⟩ : V3) by rw [max_t' b2, max_f' b3])) ρ
          · conv => whnf
            refine ⟨?_, trivial⟩
            · conv => whnf
              refine ⟨?_, trivial⟩
              · conv => whnf
                refine ⟨?_, trivial⟩
                · conv => whnf
                  exact fun ρ => pts2_sv (p := (⟨x1, y1, z1⟩ : V3)) (q := (⟨x2, y2, z2⟩ : V3)) (Eq.symm (show (minZ (minZ ⟨x1, y1, z1⟩ ⟨x2, y2, z2⟩) ⟨x3, y3, z3⟩) = (⟨x1, y1, z1⟩ : V3) by rw [min_f a2, min_f a3])) (Eq.symm (show (maxZ (maxZ ⟨x1, y1, z1⟩ ⟨x2, y2, z2⟩) ⟨x3, y3, z3⟩) = (⟨x2, y2, z2⟩ : V3) by rw [max_t' b2, max_f' b3])) ρ
    · have b2 : lessZ (⟨x1, y1, z1⟩ : V3) (⟨x2, y2, z2⟩ : V3) = false := b2
      conv => whnf
      refine bcase_intro (fun a3 => ?_) (fun a3 => ?_)
      · have a3 : lessZ (⟨x3, y3, z3⟩ : V3) (⟨x1, y1, z1⟩ : V3) = true := a3
        conv => whnf
        refine bcase_intro (fun b3 => ?_) (fun b3 => ?_)
        · have b3 : lessZ (⟨x1, y1, z1⟩ : V3) (⟨x3, y3, z3⟩ : V3) = true := b3
          conv => whnf
          refine ⟨?_, ?_, trivial⟩
          · conv => whnf
            refine ⟨?_, ?_, trivial⟩
            · conv => whnf
              refine ⟨?_, trivial⟩
              · conv => whnf
                refine ⟨?_, trivial⟩
                · conv => whnf
                  exact fun ρ => pts2_sv (p := (⟨x3, y3, z3⟩ : V3)) (q := (⟨x3, y3, z3⟩ : V3)) (Eq.symm (show (minZ (minZ ⟨x1, y1, z1⟩ ⟨x2, y2, z2⟩) ⟨x3, y3, z3⟩) = (⟨x3, y3, z3⟩ : V3) by rw [min_f a2, min_t a3])) (Eq.symm (show (maxZ (maxZ ⟨x1, y1, z1⟩ ⟨x2, y2, z2⟩) ⟨x3, y3, z3⟩) = (⟨x3, y3, z3⟩ : V3) by rw [max_f' b2, max_t' b3])) ρ
            · conv => whnf
              refine ⟨?_, trivial⟩
              · conv => whnf
                refine ⟨?_, trivial⟩
                · conv => whnf
                  exact fun ρ => pts2_sv (p := (⟨x3, y3, z3⟩ : V3)) (q := (⟨x3, y3, z3⟩ : V3)) (Eq.symm (show (minZ (minZ ⟨x1, y1, z1⟩ ⟨x2, y2, z2⟩) ⟨x3, y3, z3⟩) = (⟨x3, y3, z3⟩ : V3) by rw [min_f a2, min_t a3])) (Eq.symm (show (maxZ (maxZ ⟨x1, y1, z1⟩ ⟨x2, y2, z2⟩) ⟨x3, y3, z3⟩) = (⟨x3, y3, z3⟩ : V3) by rw [max_f' b2, max_t' b3])) ρ
          · conv => whnf
            refine ⟨?_, trivial⟩
            · conv => whnf
              refine ⟨?_, trivial⟩
              · conv => whnf
                refine ⟨?_, trivial⟩
                · conv => whnf
                  exact fun ρ => pts2_sv (p := (⟨x3, y3, z3⟩ : V3)) (q := (⟨x3, y3, z3⟩ : V3)) (Eq.symm (show (minZ (minZ ⟨x1, y1, z1⟩ ⟨x2, y2, z2⟩) ⟨x3, y3, z3⟩) = (⟨x3, y3, z3⟩ : V3) by rw [min_f a2, min_t a3])) (Eq.symm (show (maxZ (maxZ ⟨x1, y1, z1⟩ ⟨x2, y2, z2⟩) ⟨x3, y3, z3⟩) = (⟨x3, y3, z3⟩ : V3) by rw [max_f' b2, max_t' b3])) ρ
        · have b3 : lessZ (⟨x1, y1, z1⟩ : V3) (⟨x3, y3, z3⟩ : V3) = false := b3
          conv => whnf
          refine ⟨?_, ?_, trivial⟩
          · conv => whnf
            refine ⟨?_, ?_, trivial⟩
            · conv => whnf
              refine ⟨?_, trivial⟩
              · conv => whnf
                refine ⟨?_, trivial⟩
                · conv => whnf
                  exact fun ρ => pts2_sv (p := (⟨x3, y3, z3⟩ : V3)) (q := (⟨x1, y1, z1⟩ : V3)) (Eq.symm (show (minZ (minZ ⟨x1, y1, z1⟩ ⟨x2, y2, z2⟩) ⟨x3, y3, z3⟩) = (⟨x3, y3, z3⟩ : V3) by rw [min_f a2, min_t a3])) (Eq.symm (show (maxZ (maxZ ⟨x1, y1, z1⟩ ⟨x2, y2, z2⟩) ⟨x3, y3, z3⟩) = (⟨x1, y1, z1⟩ : V3) by rw [max_f' b2, max_f' b3])) ρ
            · conv => whnf
              refine ⟨?_, trivial⟩
              · conv => whnf
                refine ⟨?_, trivial⟩
                · conv => whnf
                  exact fun ρ => pts2_sv (p := (⟨x3, y3, z3⟩ : V3)) (q := (⟨x1, y1, z1⟩ : V3)) (Eq.symm (show (minZ (minZ ⟨x1, y1, z1⟩ ⟨x2, y2, z2⟩) ⟨x3, y3, z3⟩) = (⟨x3, y3, z3⟩ : V3) by rw [min_f a2, min_t a3])) (Eq.symm (show (maxZ (maxZ ⟨x1, y1, z1⟩ ⟨x2, y2, z2⟩) ⟨x3, y3, z3⟩) = (⟨x1, y1, z1⟩ : V3) by rw [max_f' b2, max_f' b3])) ρ
          · conv => whnf
            refine ⟨?_, trivial⟩
            · conv => whnf
              refine ⟨?_, trivial⟩
              · conv => whnf
                refine ⟨?_, trivial⟩
                · conv => whnf
                  exact fun ρ => pts2_sv (p := (⟨x3, y3, z3⟩ : V3)) (q := (⟨x1, y1, z1⟩ : V3)) (Eq.symm (show (minZ (minZ ⟨x1, y1, z1⟩ ⟨x2, y2, z2⟩) ⟨x3, y3, z3⟩) = (⟨x3, y3, z3⟩ : V3) by rw [min_f a2, min_t a3])) (Eq.symm (show (maxZ (maxZ ⟨x1, y1, z1⟩ ⟨x2, y2, z2⟩) ⟨x3, y3, z3⟩) = (⟨x1, y1, z1⟩ : V3) by rw [max_f' b2, max_f' b3])) ρ
      · have a3 : lessZ (⟨x3, y3, z3⟩ : V3) (⟨x1, y1, z1⟩ : V3) = false := a3
        conv => whnf
        refine bcase_intro (fun b3 => ?_) (fun b3 => ?_)
        · have b3 : lessZ (⟨x1, y1, z1⟩ : V3) (⟨x3, y3, z3⟩ : V3) = true := b3
          conv => whnf
          refine ⟨?_, ?_, trivial⟩
          · conv => whnf
            refine ⟨?_, ?_, trivial⟩
            · conv => whnf
              refine ⟨?_, trivial⟩
              · conv => whnf
                refine ⟨?_, trivial⟩
                · conv => whnf
                  exact fun ρ => pts2_sv (p := (⟨x1, y1, z1⟩ : V3)) (q := (⟨x3, y3, z3⟩ : V3)) (Eq.symm (show (minZ (minZ ⟨x1, y1, z1⟩ ⟨x2, y2, z2⟩) ⟨x3, y3, z3⟩) = (⟨x1, y1, z1⟩ : V3) by rw [min_f a2, min_f a3])) (Eq.symm (show (maxZ (maxZ ⟨x1, y1, z1⟩ ⟨x2, y2, z2⟩) ⟨x3, y3, z3⟩) = (⟨x3, y3, z3⟩ : V3) by rw [max_f' b2, max_t' b3])) ρ
            · conv => whnf
              refine ⟨?_, trivial⟩
              · conv => whnf
                refine ⟨?_, trivial⟩
                · conv => whnf
                  exact fun ρ => pts2_sv (p := (⟨x1, y1, z1⟩ : V3)) (q := (⟨x3, y3, z3⟩ : V3)) (Eq.symm (show (minZ (minZ ⟨x1, y1, z1⟩ ⟨x2, y2, z2⟩) ⟨x3, y3, z3⟩) = (⟨x1, y1, z1⟩ : V3) by rw [min_f a2, min_f a3])) (Eq.symm (show (maxZ (maxZ ⟨x1, y1, z1⟩ ⟨x2, y2, z2⟩) ⟨x3, y3, z3⟩) = (⟨x3, y3, z3⟩ : V3) by rw [max_f' b2, max_t' b3])) ρ
          · conv => whnf
            refine ⟨?_, trivial⟩
            · conv => whnf
              refine ⟨?_, trivial⟩
              · conv => whnf
                refine ⟨?_, trivial⟩
                · conv => whnf
                  exact fun ρ => pts2_sv (p := (⟨x1, y1, z1⟩ : V3)) (q := (⟨x3, y3, z3⟩ : V3)) (Eq.symm (show (minZ (minZ ⟨x1, y1, z1⟩ ⟨x2, y2, z2⟩) ⟨x3, y3, z3⟩) = (⟨x1, y1, z1⟩ : V3) by rw [min_f a2, min_f a3])) (Eq.symm (show (maxZ (maxZ ⟨x1, y1, z1⟩ ⟨x2, y2, z2⟩) ⟨x3, y3, z3⟩) = (⟨x3, y3, z3⟩ : V3) by rw [max_f' b2, max_t' b3])) ρ
        · have b3 : lessZ (⟨x1, y1, z1⟩ : V3) (⟨x3, y3, z3⟩ : V3) = false := b3
          conv => whnf
          refine ⟨?_, ?_, trivial⟩
          · conv => whnf
            refine ⟨?_, ?_, trivial⟩
            · conv => whnf
              refine ⟨?_, trivial⟩
              · conv => whnf
                refine ⟨?_, trivial⟩
                · conv => whnf
                  exact fun ρ => pts2_sv (p := (⟨x1, y1, z1⟩ : V3)) (q := (⟨x1, y1, z1⟩ : V3)) (Eq.symm (show (minZ (minZ ⟨x1, y1, z1⟩ ⟨x2, y2, z2⟩) ⟨x3, y3, z3⟩) = (⟨x1, y1, z1⟩ : V3) by rw [min_f a2, min_f a3])) (Eq.symm (show (maxZ (maxZ ⟨x1, y1, z1⟩ ⟨x2, y2, z2⟩) ⟨x3, y3, z3⟩) = (⟨x1, y1, z1⟩ : V3) by rw [max_f' b2, max_f' b3])) ρ
            · conv => whnf
              refine ⟨?_, trivial⟩
              · conv => whnf
                refine ⟨?_, trivial⟩
                · conv => whnf
                  exact fun ρ => pts2_sv (p := (⟨x1, y1, z1⟩ : V3)) (q := (⟨x1, y1, z1⟩ : V3)) (Eq.symm (show (minZ (minZ ⟨x1, y1, z1⟩ ⟨x2, y2, z2⟩) ⟨x3, y3, z3⟩) = (⟨x1, y1, z1⟩ : V3) by rw [min_f a2, min_f a3])) (Eq.symm (show (maxZ (maxZ ⟨x1, y1, z1⟩ ⟨x2, y2, z2⟩) ⟨x3, y3, z3⟩) = (⟨x1, y1, z1⟩ : V3) by rw [max_f' b2, max_f' b3])) ρ
          · conv => whnf
            refine ⟨?_, trivial⟩
            · conv => whnf
              refine ⟨?_, trivial⟩
              · conv => whnf
                refine ⟨?_, trivial⟩
                · conv => whnf
                  exact fun ρ => pts2_sv (p := (⟨x1, y1, z1⟩ : V3)) (q := (⟨x1, y1, z1⟩ : V3)) (Eq.symm (show (minZ (minZ ⟨x1, y1, z1⟩ ⟨x2, y2, z2⟩) ⟨x3, y3, z3⟩) = (⟨x1, y1, z1⟩ : V3) by rw [min_f a2, min_f a3])) (Eq.symm (show (maxZ (maxZ ⟨x1, y1, z1⟩ ⟨x2, y2, z2⟩) ⟨x3, y3, z3⟩) = (⟨x1, y1, z1⟩ : V3) by rw [max_f' b2, max_f' b3])) ρ
def dEnds : Dr
  | [.c (.sli false b 0 2 _ _)], hf => (match hf b with
    | some ⟨_, _, [.int x1 hx1, .int y1 hy1, .int z1 hz1, .int x2 hx2, .int y2 hy2, .int z2 hz2], _⟩ => some (none, SV.tup [.agg [.int (minZ ⟨x1, y1, z1⟩ ⟨x2, y2, z2⟩).x (ir_min (p := ⟨x1, y1, z1⟩) (q := ⟨x2, y2, z2⟩) hx1 hy1 hz1 hx2 hy2 hz2).1, .int (minZ ⟨x1, y1, z1⟩ ⟨x2, y2, z2⟩).y (ir_min (p := ⟨x1, y1, z1⟩) (q := ⟨x2, y2, z2⟩) hx1 hy1 hz1 hx2 hy2 hz2).2.1, .int (minZ ⟨x1, y1, z1⟩ ⟨x2, y2, z2⟩).z (ir_min (p := ⟨x1, y1, z1⟩) (q := ⟨x2, y2, z2⟩) hx1 hy1 hz1 hx2 hy2 hz2).2.2], .agg [.int (maxZ ⟨x1, y1, z1⟩ ⟨x2, y2, z2⟩).x (ir_max (p := ⟨x1, y1, z1⟩) (q := ⟨x2, y2, z2⟩) hx1 hy1 hz1 hx2 hy2 hz2).1, .int (maxZ ⟨x1, y1, z1⟩ ⟨x2, y2, z2⟩).y (ir_max (p := ⟨x1, y1, z1⟩) (q := ⟨x2, y2, z2⟩) hx1 hy1 hz1 hx2 hy2 hz2).2.1, .int (maxZ ⟨x1, y1, z1⟩ ⟨x2, y2, z2⟩).z (ir_max (p := ⟨x1, y1, z1⟩) (q := ⟨x2, y2, z2⟩) hx1 hy1 hz1 hx2 hy2 hz2).2.2]])
    | _ => none)
  | [.c (.sli false b 0 3 _ _)], hf => (match hf b with
    | some ⟨_, _, [.int x1 hx1, .int y1 hy1, .int z1 hz1, .int x2 hx2, .int y2 hy2, .int z2 hz2, .int x3 hx3, .int y3 hy3, .int z3 hz3], _⟩ => some (none, SV.tup [.agg [.int (minZ (minZ ⟨x1, y1, z1⟩ ⟨x2, y2, z2⟩) ⟨x3, y3, z3⟩).x (ir_min (p := minZ ⟨x1, y1, z1⟩ ⟨x2, y2, z2⟩) (q := ⟨x3, y3, z3⟩) (ir_min (p := ⟨x1, y1, z1⟩) (q := ⟨x2, y2, z2⟩) hx1 hy1 hz1 hx2 hy2 hz2).1 (ir_min (p := ⟨x1, y1, z1⟩) (q := ⟨x2, y2, z2⟩) hx1 hy1 hz1 hx2 hy2 hz2).2.1 (ir_min (p := ⟨x1, y1, z1⟩) (q := ⟨x2, y2, z2⟩) hx1 hy1 hz1 hx2 hy2 hz2).2.2 hx3 hy3 hz3).1, .int (minZ (minZ ⟨x1, y1, z1⟩ ⟨x2, y2, z2⟩) ⟨x3, y3, z3⟩).y (ir_min (p := minZ ⟨x1, y1, z1⟩ ⟨x2, y2, z2⟩) (q := ⟨x3, y3, z3⟩) (ir_min (p := ⟨x1, y1, z1⟩) (q := ⟨x2, y2, z2⟩) hx1 hy1 hz1 hx2 hy2 hz2).1 (ir_min (p := ⟨x1, y1, z1⟩) (q := ⟨x2, y2, z2⟩) hx1 hy1 hz1 hx2 hy2 hz2).2.1 (ir_min (p := ⟨x1, y1, z1⟩) (q := ⟨x2, y2, z2⟩) hx1 hy1 hz1 hx2 hy2 hz2).2.2 hx3 hy3 hz3).2.1, .int (minZ (minZ ⟨x1, y1, z1⟩ ⟨x2, y2, z2⟩) ⟨x3, y3, z3⟩).z (ir_min (p := minZ ⟨x1, y1, z1⟩ ⟨x2, y2, z2⟩) (q := ⟨x3, y3, z3⟩) (ir_min (p := ⟨x1, y1, z1⟩) (q := ⟨x2, y2, z2⟩) hx1 hy1 hz1 hx2 hy2 hz2).1 (ir_min (p := ⟨x1, y1, z1⟩) (q := ⟨x2, y2, z2⟩) hx1 hy1 hz1 hx2 hy2 hz2).2.1 (ir_min (p := ⟨x1, y1, z1⟩) (q := ⟨x2, y2, z2⟩) hx1 hy1 hz1 hx2 hy2 hz2).2.2 hx3 hy3 hz3).2.2], .agg [.int (maxZ (maxZ ⟨x1, y1, z1⟩ ⟨x2, y2, z2⟩) ⟨x3, y3, z3⟩).x (ir_max (p := maxZ ⟨x1, y1, z1⟩ ⟨x2, y2, z2⟩) (q := ⟨x3, y3, z3⟩) (ir_max (p := ⟨x1, y1, z1⟩) (q := ⟨x2, y2, z2⟩) hx1 hy1 hz1 hx2 hy2 hz2).1 (ir_max (p := ⟨x1, y1, z1⟩) (q := ⟨x2, y2, z2⟩) hx1 hy1 hz1 hx2 hy2 hz2).2.1 (ir_max (p := ⟨x1, y1, z1⟩) (q := ⟨x2, y2, z2⟩) hx1 hy1 hz1 hx2 hy2 hz2).2.2 hx3 hy3 hz3).1, .int (maxZ (maxZ ⟨x1, y1, z1⟩ ⟨x2, y2, z2⟩) ⟨x3, y3, z3⟩).y (ir_max (p := maxZ ⟨x1, y1, z1⟩ ⟨x2, y2, z2⟩) (q := ⟨x3, y3, z3⟩) (ir_max (p := ⟨x1, y1, z1⟩) (q := ⟨x2, y2, z2⟩) hx1 hy1 hz1 hx2 hy2 hz2).1 (ir_max (p := ⟨x1, y1, z1⟩) (q := ⟨x2, y2, z2⟩) hx1 hy1 hz1 hx2 hy2 hz2).2.1 (ir_max (p := ⟨x1, y1, z1⟩) (q := ⟨x2, y2, z2⟩) hx1 hy1 hz1 hx2 hy2 hz2).2.2 hx3 hy3 hz3).2.1, .int (maxZ (maxZ ⟨x1, y1, z1⟩ ⟨x2, y2, z2⟩) ⟨x3, y3, z3⟩).z (ir_max (p := maxZ ⟨x1, y1, z1⟩ ⟨x2, y2, z2⟩) (q := ⟨x3, y3, z3⟩) (ir_max (p := ⟨x1, y1, z1⟩) (q := ⟨x2, y2, z2⟩) hx1 hy1 hz1 hx2 hy2 hz2).1 (ir_max (p := ⟨x1, y1, z1⟩) (q := ⟨x2, y2, z2⟩) hx1 hy1 hz1 hx2 hy2 hz2).2.1 (ir_max (p := ⟨x1, y1, z1⟩) (q := ⟨x2, y2, z2⟩) hx1 hy1 hz1 hx2 hy2 hz2).2.2 hx3 hy3 hz3).2.2]])
    | _ => none)
  | _, _ => none
theorem spEnds : SpR Tryz.prog 58 dEnds := by
  refine ⟨(⟨Tryz.func58, by kernel_rfl, by kernel_rfl⟩ : FnOk Tryz.prog 58 Tryz.f58).callable, fun args hf p v hd => ?_⟩
  unfold dEnds at hd
  split at hd
  · rename_i b cap hs
    split at hd
    · rename_i ty ro x1 hx1 y1 hy1 z1 hz1 x2 hx2 y2 hy2 z2 hz2 tl hb
      cases hd
      refine ⟨fun _ _ => rfl, fun _ ρ w hh => ?_⟩
      have hH := (hh b _ hb).1
      refine read_ok (P := Tryz.prog) envEn_ok mixed noF_ok ⟨Tryz.func58, by kernel_rfl, by kernel_rfl⟩ (fun _ _ => rfl) (fun i c hi => ?_) (fun _ => ρ b) (fun ρ' hρ => ?_) (vcEnds2 hx1 hy1 hz1 hx2 hy2 hz2 ty cap hs) w (fun i c hi => ?_)
      · cases i with
        | zero => simp [nthO] at hi; subst hi; exact ⟨rfl, fun _ _ => rfl⟩
        | succ i => simp [nthO] at hi
      · have := hρ 0 rfl
        simp only [List.map_cons, List.map_nil, SV.den, C.den, C.cells, this]
      · cases i with
        | zero => simp [nthO] at hi; subst hi; exact hH
        | succ i => simp [nthO] at hi
    · cases hd
  · rename_i b cap hs
    split at hd
    · rename_i ty ro x1 hx1 y1 hy1 z1 hz1 x2 hx2 y2 hy2 z2 hz2 x3 hx3 y3 hy3 z3 hz3 tl hb
      cases hd
      refine ⟨fun _ _ => rfl, fun _ ρ w hh => ?_⟩
      have hH := (hh b _ hb).1
      refine read_ok (P := Tryz.prog) envEn_ok mixed noF_ok ⟨Tryz.func58, by kernel_rfl, by kernel_rfl⟩ (fun _ _ => rfl) (fun i c hi => ?_) (fun _ => ρ b) (fun ρ' hρ => ?_) (vcEnds3 hx1 hy1 hz1 hx2 hy2 hz2 hx3 hy3 hz3 ty cap hs) w (fun i c hi => ?_)
      · cases i with
        | zero => simp [nthO] at hi; subst hi; exact ⟨rfl, fun _ _ => rfl⟩
        | succ i => simp [nthO] at hi
      · have := hρ 0 rfl
        simp only [List.map_cons, List.map_nil, SV.den, C.den, C.cells, this]
      · cases i with
        | zero => simp [nthO] at hi; subst hi; exact hH
        | succ i => simp [nthO] at hi
    · cases hd
  · cases hd
def rdE : List (FuncId × Dr) := [(58, dEnds)]
theorem rdE_ok : AllR rdE := .cons spEnds .nil
noncomputable def fxAxis : FuncId → Option Func := lk [(81, Tryz.f81)]
theorem fxAxis_ok : ∀ f fn, fxAxis f = some fn → FnOk Tryz.prog f fn := lkF_ok fun x hx => by
  simp only [List.mem_cons, List.not_mem_nil, or_false] at hx
  subst hx
  · exact ⟨Tryz.func81, by kernel_rfl, by kernel_rfl⟩
theorem npc {k : Nat} {p q r s : V3} {x y : Bool} (hx : x = sideB k p q r s) (hy : y = sideB k r s p q) {d : Bool} (hd : decide ((detZ p q r s).sign = 0) = d) {b : Bool} (e : b = (d && (x && y))) : b = nparB k p q r s := by unfold nparB; rw [hd, ← hx, ← hy]; exact e
def dCross2 : Dn
  | [.agg [.int x1 _, .int y1 _, .int z1 _], .agg [.int x2 _, .int y2 _, .int z2 _], .agg [.int x3 _, .int y3 _, .int z3 _], .agg [.int x4 _, .int y4 _, .int z4 _]] =>
    some (none, .c (.val (.bool (crossV ⟨x1, y1, z1⟩ ⟨x2, y2, z2⟩ ⟨x3, y3, z3⟩ ⟨x4, y4, z4⟩))))
  | _ => none
set_option maxHeartbeats 8000000 in
theorem spCross2 : SpOk Tryz.prog 59 dCross2 := sp_of3 (un := 20) (n := 3) ⟨Tryz.func59, by kernel_rfl, by kernel_rfl⟩ baseE5_ok rdE_ok fxAxis_ok fun args p v hd => by
  unfold dCross2 at hd
  split at hd
  · rename_i x1 hx1 y1 hy1 z1 hz1 x2 hx2 y2 hy2 z2 hz2 x3 hx3 y3 hy3 z3 hz3 x4 hx4 y4 hy4 z4 hz4
    cases hd
    refine ⟨[.agg [.int x1 hx1, .int y1 hy1, .int z1 hz1], .agg [.int x2 hx2, .int y2 hy2, .int z2 hz2], .agg [.int x3 hx3, .int y3 hy3, .int z3 hz3], .agg [.int x4 hx4, .int y4 hy4, .int z4 hz4]], fun _ => rfl, fun _ _ => rfl, fun _ _ => rfl, fun _ => ?_⟩
    conv => whnf
    refine bcase_intro (fun a0 => ?_) (fun a0 => ?_)
    · have ha := ax0 (v := (crZ ⟨x1, y1, z1⟩ ⟨x2, y2, z2⟩ ⟨x3, y3, z3⟩ ⟨x4, y4, z4⟩)) a0
      conv => whnf
      refine bcase_intro (fun h0 => ?_) (fun h0 => ?_)
      rotate_left
      · conv => whnf
        exact fun ρ => sbool_e (cr_k ha (by decide) (npF1 h0)) ρ
      conv => whnf
      refine bcase_intro (fun h1 => ?_) (fun h1 => ?_)
      rotate_left
      · conv => whnf
        exact fun ρ => sbool_e (cr_k ha (by decide) (npF2 ((sd_e 0 (⟨x1, y1, z1⟩ : V3) (⟨x2, y2, z2⟩ : V3) (⟨x3, y3, z3⟩ : V3) (⟨x4, y4, z4⟩ : V3)).symm.trans h1))) ρ
      conv => whnf
      exact fun ρ => sbool_e (cr_k ha (by decide) ((sd_e 0 (⟨x3, y3, z3⟩ : V3) (⟨x4, y4, z4⟩ : V3) (⟨x1, y1, z1⟩ : V3) (⟨x2, y2, z2⟩ : V3)).trans (npT h0 ((sd_e 0 (⟨x1, y1, z1⟩ : V3) (⟨x2, y2, z2⟩ : V3) (⟨x3, y3, z3⟩ : V3) (⟨x4, y4, z4⟩ : V3)).symm.trans h1)))) ρ
    conv => whnf
    refine bcase_intro (fun a1 => ?_) (fun a1 => ?_)
    · have ha := ax1 (v := (crZ ⟨x1, y1, z1⟩ ⟨x2, y2, z2⟩ ⟨x3, y3, z3⟩ ⟨x4, y4, z4⟩)) a0 a1
      conv => whnf
      refine bcase_intro (fun h0 => ?_) (fun h0 => ?_)
      rotate_left
      · conv => whnf
        exact fun ρ => sbool_e (cr_k ha (by decide) (npF1 h0)) ρ
      conv => whnf
      refine bcase_intro (fun h1 => ?_) (fun h1 => ?_)
      rotate_left
      · conv => whnf
        exact fun ρ => sbool_e (cr_k ha (by decide) (npF2 ((sd_e 1 (⟨x1, y1, z1⟩ : V3) (⟨x2, y2, z2⟩ : V3) (⟨x3, y3, z3⟩ : V3) (⟨x4, y4, z4⟩ : V3)).symm.trans h1))) ρ
      conv => whnf
      exact fun ρ => sbool_e (cr_k ha (by decide) ((sd_e 1 (⟨x3, y3, z3⟩ : V3) (⟨x4, y4, z4⟩ : V3) (⟨x1, y1, z1⟩ : V3) (⟨x2, y2, z2⟩ : V3)).trans (npT h0 ((sd_e 1 (⟨x1, y1, z1⟩ : V3) (⟨x2, y2, z2⟩ : V3) (⟨x3, y3, z3⟩ : V3) (⟨x4, y4, z4⟩ : V3)).symm.trans h1)))) ρ
    conv => whnf
    refine bcase_intro (fun a2 => ?_) (fun a2 => ?_)
    · have ha := ax2 (v := (crZ ⟨x1, y1, z1⟩ ⟨x2, y2, z2⟩ ⟨x3, y3, z3⟩ ⟨x4, y4, z4⟩)) a0 a1 a2
      conv => whnf
      refine bcase_intro (fun h0 => ?_) (fun h0 => ?_)
      rotate_left
      · conv => whnf
        exact fun ρ => sbool_e (cr_k ha (by decide) (npF1 h0)) ρ
      conv => whnf
      refine bcase_intro (fun h1 => ?_) (fun h1 => ?_)
      rotate_left
      · conv => whnf
        exact fun ρ => sbool_e (cr_k ha (by decide) (npF2 ((sd_e 2 (⟨x1, y1, z1⟩ : V3) (⟨x2, y2, z2⟩ : V3) (⟨x3, y3, z3⟩ : V3) (⟨x4, y4, z4⟩ : V3)).symm.trans h1))) ρ
      conv => whnf
      exact fun ρ => sbool_e (cr_k ha (by decide) ((sd_e 2 (⟨x3, y3, z3⟩ : V3) (⟨x4, y4, z4⟩ : V3) (⟨x1, y1, z1⟩ : V3) (⟨x2, y2, z2⟩ : V3)).trans (npT h0 ((sd_e 2 (⟨x1, y1, z1⟩ : V3) (⟨x2, y2, z2⟩ : V3) (⟨x3, y3, z3⟩ : V3) (⟨x4, y4, z4⟩ : V3)).symm.trans h1)))) ρ
    conv => whnf
    have ha := ax3 (v := (crZ ⟨x1, y1, z1⟩ ⟨x2, y2, z2⟩ ⟨x3, y3, z3⟩ ⟨x4, y4, z4⟩)) a0 a1 a2
    refine bcase_intro (fun e0 => ?_) (fun e0 => ?_)
    · have e1 : eqB (minZ (⟨x1, y1, z1⟩ : V3) (⟨x2, y2, z2⟩ : V3)) (maxZ (⟨x1, y1, z1⟩ : V3) (⟨x2, y2, z2⟩ : V3)) = true := e0
      conv => whnf
      refine bcase_intro (fun f0 => ?_) (fun f0 => ?_)
      rotate_left
      · conv => whnf
        exact fun ρ => sbool_e (cr_p ha (pa1 e1 f0)) ρ
      conv => whnf
      refine bcase_intro (fun g0 => ?_) (fun g0 => ?_)
      rotate_left
      · conv => whnf
        exact fun ρ => sbool_e (cr_p ha (pa2 e1 f0 (not_f g0))) ρ
      conv => whnf
      exact fun ρ => sbool_e (cr_p ha (pa3 e1 f0 (not_t g0))) ρ
    · have e1 : eqB (minZ (⟨x1, y1, z1⟩ : V3) (⟨x2, y2, z2⟩ : V3)) (maxZ (⟨x1, y1, z1⟩ : V3) (⟨x2, y2, z2⟩ : V3)) = false := e0
      conv => whnf
      refine bcase_intro (fun f0 => ?_) (fun f0 => ?_)
      rotate_left
      · conv => whnf
        exact fun ρ => sbool_e (cr_p ha (pa1 e1 f0)) ρ
      conv => whnf
      refine bcase_intro (fun g0 => ?_) (fun g0 => ?_)
      rotate_left
      · conv => whnf
        exact fun ρ => sbool_e (cr_p ha (pa2 e1 f0 (not_f g0))) ρ
      conv => whnf
      exact fun ρ => sbool_e (cr_p ha (pa3 e1 f0 (not_t g0))) ρ
  · cases hd
def baseE6 : List (FuncId × Dn) := (59, dCross2) :: baseE5
theorem baseE6_ok : AllOk baseE6 := .cons spCross2 <| baseE5_ok
end Go.Proofs.YtmooplnklcgfjaaGreatDoor
