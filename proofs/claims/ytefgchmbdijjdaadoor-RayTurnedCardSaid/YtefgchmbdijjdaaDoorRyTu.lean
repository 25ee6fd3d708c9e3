/- law 22: RayTurned, by the reckoner. -/
import Derived.Test.YtefgchmbdijjdaaDoorRyc
import Derived.Test.YtefgchmbdijjdaaDoorRyd
namespace Go.Proofs.YtefgchmbdijjdaaDoor
open Go.RowKit
set_option maxRecDepth 100000

noncomputable def baseT : List (FuncId × Dn) := (7, dNearL) :: (6, dSanity) :: baseM1
theorem baseT_ok : AllOk baseT := .cons spNearL <| .cons spSanity <| baseM1_ok
noncomputable def baseTb : List (FuncId × Dn) := (12, dBox) :: baseT
theorem baseTb_ok : AllOk baseTb := .cons spBoxY baseT_ok
theorem ne_no {a b c d : Int} (h1 : a = c) (h2 : b = d) : (!(decide (a = c) && decide (b = d))) = false := by subst h1 h2; simp
theorem neb_no {a b : Bool} (h : a = b) : (!(a == b)) = false := by subst h; simp
theorem max_neg {w : Int} (hw : IR w) : IntKind.i64.wrap (0 - maxI w 0) ≤ 0 := by
  unfold maxI; split
  · rw [wrap_id (by decide)]; decide
  · unfold IR at hw; rw [wrap_id (by unfold IR; omega)]; omega
theorem bB_no {r : RZ} {lo hi : V3} (h : permZ r = false) : bB r lo hi = false := by unfold bB; rw [opq_eq, box_np h]; rfl
theorem sp_ofN {f : FuncId} {fn : Func} (hf : FnOk Tryd.prog f fn) {un : Nat} {ord : Nat → Bool} {l : List (FuncId × Dn)} (hl : AllOk l) {d : Dn}
    (h : ∀ args p v, d args = some (p, v) → ∃ args', (∀ ρ, args.map (SV.den ρ) = args'.map (SV.den ρ)) ∧ (∀ ρ ρ', v.den ρ = v.den ρ') ∧ (∀ ρ ρ', args'.map (SV.den ρ) = args'.map (SV.den ρ')) ∧
      ((∀ q, p = some q → q) → vcF (envN un l [] ord) (mix [] (envN un l [] ord) noF 0) fn args' [] fun u _ => ∀ ρ, u.den ρ = v.den ρ)) : SpOk Tryd.prog f d :=
  ⟨hf.callable, fun args p v hd => by
    obtain ⟨args', h0, h1, h2, h3⟩ := h args p v hd
    exact ⟨h1, fun hp ρ w => by rw [h0]; exact pure_okH (envN_ok hl .nil un ord) mixed (mix_ok .nil (envN_ok hl .nil un ord) mixed noF_ok 0) hf h1 h2 (h3 hp) ρ w⟩⟩
def dLawTu : Dn
  | [.agg [.int _ _, .int _ _, .int _ _, .int _ _, .int _ _, .int _ _, .int _ _], .agg [.int _ _, .int _ _, .int _ _, .int _ _, .int _ _, .int _ _, .int _ _, .int _ _, .int _ _]] =>
    some (none, .c (.val (.bool true)))
  | _ => none
set_option maxHeartbeats 16000000 in
theorem spLawTu : SpOk Tryd.prog 4 dLawTu := sp_ofN (un := 20) (ord := fun _ => false) ⟨Tryd.func4, by kernel_rfl, by kernel_rfl⟩ baseTb_ok fun args p v hd => by
  unfold dLawTu at hd
  split at hd
  · rename_i rx hrx ry hry rz hrz rw hrw d0 hd0 d1 hd1 d2 hd2 x1 hx1 y1 hy1 z1 hz1 x2 hx2 y2 hy2 z2 hz2 x3 hx3 y3 hy3 z3 hz3
    cases hd
    refine ⟨[.agg [.int rx hrx, .int ry hry, .int rz hrz, .int rw hrw, .int d0 hd0, .int d1 hd1, .int d2 hd2], .agg [.int x1 hx1, .int y1 hy1, .int z1 hz1, .int x2 hx2, .int y2 hy2, .int z2 hz2, .int x3 hx3, .int y3 hy3, .int z3 hz3]], fun _ => rfl, fun _ _ => rfl, fun _ _ => rfl, fun _ => ?_⟩
    conv => whnf
    refine bcase_intro (fun h1 => absurd (h1.symm.trans (ne_no (cross_rot (⟨rx, ry, rz, rw, ⟨d0, d1, d2⟩⟩ : RZ) (⟨x1, y1, z1⟩ : V3) (⟨x2, y2, z2⟩ : V3) (⟨x3, y3, z3⟩ : V3)).1.symm (cross_rot (⟨rx, ry, rz, rw, ⟨d0, d1, d2⟩⟩ : RZ) (⟨x1, y1, z1⟩ : V3) (⟨x2, y2, z2⟩ : V3) (⟨x3, y3, z3⟩ : V3)).2.symm)) (by decide)) (fun _ => ?_)
    conv => whnf
    refine bcase_intro (fun h2 => absurd (h2.symm.trans (ne_no (cross_rev (⟨rx, ry, rz, rw, ⟨d0, d1, d2⟩⟩ : RZ) (⟨x1, y1, z1⟩ : V3) (⟨x2, y2, z2⟩ : V3) (⟨x3, y3, z3⟩ : V3)).1.symm (cross_rev (⟨rx, ry, rz, rw, ⟨d0, d1, d2⟩⟩ : RZ) (⟨x1, y1, z1⟩ : V3) (⟨x2, y2, z2⟩ : V3) (⟨x3, y3, z3⟩ : V3)).2.symm)) (by decide)) (fun _ => ?_)
    conv => whnf
    refine bcase_intro (fun h3 => absurd (h3.symm.trans (neb_no (crossB_rot (⟨rx, ry, rz, rw, ⟨d0, d1, d2⟩⟩ : RZ) (⟨x1, y1, z1⟩ : V3) (⟨x2, y2, z2⟩ : V3) (⟨x3, y3, z3⟩ : V3)).symm)) (by decide)) (fun _ => ?_)
    conv => whnf
    refine bcase_intro (fun h4 => absurd (h4.symm.trans (neb_no (crossB_rev (⟨rx, ry, rz, rw, ⟨d0, d1, d2⟩⟩ : RZ) (⟨x1, y1, z1⟩ : V3) (⟨x2, y2, z2⟩ : V3) (⟨x3, y3, z3⟩ : V3)).symm)) (by decide)) (fun _ => ?_)
    conv => whnf
    refine bcase_intro (fun h5 => absurd (h5.symm.trans (cross_flat (⟨rx, ry, rz, rw, ⟨d0, d1, d2⟩⟩ : RZ) (⟨x1, y1, z1⟩ : V3) (⟨x2, y2, z2⟩ : V3))) (by decide)) (fun _ => ?_)
    conv => whnf
    refine bcase_intro (fun h6 => absurd (h6.symm.trans (cross_noperm (⟨x1, y1, z1⟩ : V3) (⟨x2, y2, z2⟩ : V3) (⟨x3, y3, z3⟩ : V3) (perm_w0 (max_neg hrw)))) (by decide)) (fun _ => ?_)
    conv => whnf
    refine bcase_intro (fun h7 => absurd (h7.symm.trans (cross_noperm (⟨x1, y1, z1⟩ : V3) (⟨x2, y2, z2⟩ : V3) (⟨x3, y3, z3⟩ : V3) (perm_dir0 rfl))) (by decide)) (fun _ => ?_)
    conv => whnf
    refine bcase_intro (fun h8 => absurd (h8.symm.trans (bB_no (perm_dir0 rfl))) (by decide)) (fun _ => ?_)
    conv => whnf
    refine bcase_intro (fun h1 => absurd (h1.symm.trans (ne_no (cross_rot (⟨nC (nW rw) rx, nC (nW rw) ry, nC (nW rw) rz, nW rw, ⟨nD d0, nD d1, nD d2⟩⟩ : RZ) (⟨x1, y1, z1⟩ : V3) (⟨x2, y2, z2⟩ : V3) (⟨x3, y3, z3⟩ : V3)).1.symm (cross_rot (⟨nC (nW rw) rx, nC (nW rw) ry, nC (nW rw) rz, nW rw, ⟨nD d0, nD d1, nD d2⟩⟩ : RZ) (⟨x1, y1, z1⟩ : V3) (⟨x2, y2, z2⟩ : V3) (⟨x3, y3, z3⟩ : V3)).2.symm)) (by decide)) (fun _ => ?_)
    conv => whnf
    refine bcase_intro (fun h2 => absurd (h2.symm.trans (ne_no (cross_rev (⟨nC (nW rw) rx, nC (nW rw) ry, nC (nW rw) rz, nW rw, ⟨nD d0, nD d1, nD d2⟩⟩ : RZ) (⟨x1, y1, z1⟩ : V3) (⟨x2, y2, z2⟩ : V3) (⟨x3, y3, z3⟩ : V3)).1.symm (cross_rev (⟨nC (nW rw) rx, nC (nW rw) ry, nC (nW rw) rz, nW rw, ⟨nD d0, nD d1, nD d2⟩⟩ : RZ) (⟨x1, y1, z1⟩ : V3) (⟨x2, y2, z2⟩ : V3) (⟨x3, y3, z3⟩ : V3)).2.symm)) (by decide)) (fun _ => ?_)
    conv => whnf
    refine bcase_intro (fun h3 => absurd (h3.symm.trans (neb_no (crossB_rot (⟨nC (nW rw) rx, nC (nW rw) ry, nC (nW rw) rz, nW rw, ⟨nD d0, nD d1, nD d2⟩⟩ : RZ) (⟨x1, y1, z1⟩ : V3) (⟨x2, y2, z2⟩ : V3) (⟨x3, y3, z3⟩ : V3)).symm)) (by decide)) (fun _ => ?_)
    conv => whnf
    refine bcase_intro (fun h4 => absurd (h4.symm.trans (neb_no (crossB_rev (⟨nC (nW rw) rx, nC (nW rw) ry, nC (nW rw) rz, nW rw, ⟨nD d0, nD d1, nD d2⟩⟩ : RZ) (⟨x1, y1, z1⟩ : V3) (⟨x2, y2, z2⟩ : V3) (⟨x3, y3, z3⟩ : V3)).symm)) (by decide)) (fun _ => ?_)
    conv => whnf
    refine bcase_intro (fun h5 => absurd (h5.symm.trans (cross_flat (⟨nC (nW rw) rx, nC (nW rw) ry, nC (nW rw) rz, nW rw, ⟨nD d0, nD d1, nD d2⟩⟩ : RZ) (⟨x1, y1, z1⟩ : V3) (⟨x2, y2, z2⟩ : V3))) (by decide)) (fun _ => ?_)
    conv => whnf
    refine bcase_intro (fun h6 => absurd (h6.symm.trans (cross_noperm (⟨x1, y1, z1⟩ : V3) (⟨x2, y2, z2⟩ : V3) (⟨x3, y3, z3⟩ : V3) (perm_w0 (max_neg (ir_nW rw))))) (by decide)) (fun _ => ?_)
    conv => whnf
    refine bcase_intro (fun h7 => absurd (h7.symm.trans (cross_noperm (⟨x1, y1, z1⟩ : V3) (⟨x2, y2, z2⟩ : V3) (⟨x3, y3, z3⟩ : V3) (perm_dir0 rfl))) (by decide)) (fun _ => ?_)
    conv => whnf
    refine bcase_intro (fun h8 => absurd (h8.symm.trans (bB_no (perm_dir0 rfl))) (by decide)) (fun _ => ?_)
    conv => whnf
    exact fun ρ => sbool_e rfl ρ
  · cases hd
end Go.Proofs.YtefgchmbdijjdaaDoor
