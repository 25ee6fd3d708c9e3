/- Segments and triangles that touch, by the reckoner. -/
import Derived.Test.YtmooplnklcgfjaaGreatDoorE3
import Derived.Test.YtmooplnklcgfjaaGreatDoorEI
namespace Go.Proofs.YtmooplnklcgfjaaGreatDoor
open Go.RowKit
set_option maxRecDepth 100000

theorem agree_min (a b c : Int) : (decide (0 ≤ minI (minI a b) c) || decide (maxI (maxI a b) c ≤ 0)) = agreeB a b c := by
  rw [Bool.eq_iff_iff]
  unfold agreeB
  simp only [Bool.or_eq_true, Bool.and_eq_true, decide_eq_true_eq]
  unfold minI maxI
  (repeat' split) <;> omega
theorem agree_t {a b c : Int} (h : decide (0 ≤ minI (minI a b) c) = true) : true = agreeB a b c := by rw [← agree_min, h]; rfl
theorem agree_f {a b c : Int} (h : decide (0 ≤ minI (minI a b) c) = false) : decide (maxI (maxI a b) c ≤ 0) = agreeB a b c := by rw [← agree_min, h]; rfl
def dAgree : Dn
  | [.agg [.int a _, .int b _, .int c _]] =>
    some (none, .c (.val (.bool (agreeB a b c))))
  | _ => none
theorem spAgree : SpOk Tryz.prog 56 dAgree := sp_of2 (un := 20) (n := 0) ⟨Tryz.func56, by kernel_rfl, by kernel_rfl⟩ baseE6_ok noF_ok fun args p v hd => by
  unfold dAgree at hd
  split at hd
  · rename_i a ha b hb c hc
    cases hd
    refine ⟨[.agg [.int a ha, .int b hb, .int c hc]], fun _ => rfl, fun _ _ => rfl, fun _ _ => rfl, fun _ => ?_⟩
    conv => whnf
    refine bcase_intro (fun h0 => ?_) (fun h0 => ?_)
    · conv => whnf
      exact fun ρ => sbool_e (agree_t h0) ρ
    conv => whnf
    exact fun ρ => sbool_e (agree_f h0) ρ
  · cases hd
def baseE7 : List (FuncId × Dn) := (56, dAgree) :: baseE6
theorem baseE7_ok : AllOk baseE7 := .cons spAgree <| baseE6_ok
theorem isZ_ax {v : V3} (h : v.isZ = false) : axZ v ≠ 3 := fun e => by
  rcases ax_spec v with ⟨-, h1, h2, h3⟩ | ⟨g, -⟩ | ⟨g, -⟩ | ⟨g, -⟩
  · unfold V3.isZ at h; rw [h1, h2, h3] at h; cases h
  all_goals rw [g] at e; cases e
theorem isZ_ax3 {v : V3} (h : v.isZ = true) : axZ v = 3 := by
  unfold V3.isZ at h
  simp only [Bool.and_eq_true, decide_eq_true_eq] at h
  unfold axZ
  rw [if_neg (by omega), if_neg (by omega), if_neg (by omega)]
theorem tou_flat {p q a b c : V3} (h : axZ (normZ a b c) = 3) {x : Bool} (e : x = crossV p q (minZ (minZ a b) c) (maxZ (maxZ a b) c)) : x = touchV p q a b c := by unfold touchV; rw [if_pos h]; exact e
theorem tou_pos {p q a b c : V3} (hn : axZ (normZ a b c) ≠ 3) (h : decide (0 < IntKind.i64.wrap ((detZ a b c p).sign * (detZ a b c q).sign)) = true) : false = touchV p q a b c := by
  rw [sg_wrap] at h
  unfold touchV; rw [if_neg hn, if_pos (of_decide_eq_true h)]
theorem tou_or {p q a b c : V3} (hn : axZ (normZ a b c) ≠ 3) (h : decide (0 < IntKind.i64.wrap ((detZ a b c p).sign * (detZ a b c q).sign)) = false) (g : (detZ a b c p).sign ≠ 0 ∨ (detZ a b c q).sign ≠ 0) {x : Bool} (e : x = agreeB (detZ p q a b).sign (detZ p q b c).sign (detZ p q c a).sign) : x = touchV p q a b c := by
  rw [sg_wrap] at h
  unfold touchV; rw [if_neg hn, if_neg (of_decide_eq_false h), if_pos g]; exact e
theorem tou_pl {p q a b c : V3} (hn : axZ (normZ a b c) ≠ 3) (h : decide (0 < IntKind.i64.wrap ((detZ a b c p).sign * (detZ a b c q).sign)) = false) (g1 : (detZ a b c p).sign = 0) (g2 : (detZ a b c q).sign = 0) {x : Bool} (e : x = planeB p q a b c) : x = touchV p q a b c := by
  rw [sg_wrap] at h
  unfold touchV; rw [if_neg hn, if_neg (of_decide_eq_false h), if_neg (by rw [g1, g2]; simp)]; exact e
theorem nz_t {x : Int} (h : (!decide (x = 0)) = true) : x ≠ 0 := by simpa using h
theorem nz_f {x : Int} (h : (!decide (x = 0)) = false) : x = 0 := by simpa using h
theorem pl1 {p q a b c : V3} (h : crossV p q a b = true) : true = planeB p q a b c := by unfold planeB; rw [h]; rfl
theorem pl2 {p q a b c : V3} (h : crossV p q a b = false) (h1 : crossV p q b c = true) : true = planeB p q a b c := by unfold planeB; rw [h, h1]; rfl
theorem pl3 {p q a b c : V3} (h : crossV p q a b = false) (h1 : crossV p q b c = false) (h2 : crossV p q c a = true) : true = planeB p q a b c := by unfold planeB; rw [h, h1, h2]; rfl
theorem pl4 {p q a b c : V3} (h : crossV p q a b = false) (h1 : crossV p q b c = false) (h2 : crossV p q c a = false) {x : Bool} (e : x = inB2 (axZ (normZ a b c)) a b c p) : x = planeB p q a b c := by unfold planeB; rw [h, h1, h2]; exact e
theorem in_k {k : Nat} {n a b c p : V3} (h : axZ n = k) {x : Bool} (e : x = agreeB ((crZ a b a p).at k).sign ((crZ b c b p).at k).sign ((crZ c a c p).at k).sign) : x = inB2 (axZ n) a b c p := by rw [h]; exact e
theorem ax_ne {k : Nat} {v : V3} (h : axZ v = k) (hk : k ≠ 3) : axZ v ≠ 3 := fun e => hk (h.symm.trans e)
noncomputable def fxTo : FuncId → Option Func := lk [(52, Tryz.f52), (55, Tryz.f55)]
theorem fxTo_ok : ∀ f fn, fxTo f = some fn → FnOk Tryz.prog f fn := lkF_ok fun x hx => by
  simp only [List.mem_cons, List.not_mem_nil, or_false] at hx
  rcases hx with rfl | rfl
  · exact ⟨Tryz.func52, by kernel_rfl, by kernel_rfl⟩
  · exact ⟨Tryz.func55, by kernel_rfl, by kernel_rfl⟩
abbrev envT : Env := envE 20 baseE7 [] (fun _ => false) sidesR
theorem envT_ok : EOk Tryz.prog envT := envE_ok baseE7_ok .nil 20 _ sidesR_ok
def dTouchE : Dn
  | [.agg [.int x1 _, .int y1 _, .int z1 _], .agg [.int x2 _, .int y2 _, .int z2 _], .agg [.int x3 _, .int y3 _, .int z3 _, .int x4 _, .int y4 _, .int z4 _, .int x5 _, .int y5 _, .int z5 _]] =>
    some (none, .c (.val (.bool (touchV ⟨x1, y1, z1⟩ ⟨x2, y2, z2⟩ ⟨x3, y3, z3⟩ ⟨x4, y4, z4⟩ ⟨x5, y5, z5⟩))))
  | _ => none
set_option maxHeartbeats 16000000 in
theorem spTouchE : SpOk Tryz.prog 20 dTouchE := sp_ofE (n := 4) ⟨Tryz.func20, by kernel_rfl, by kernel_rfl⟩ envT_ok fxTo_ok fun args p v hd => by
  unfold dTouchE at hd
  split at hd
  · rename_i x1 hx1 y1 hy1 z1 hz1 x2 hx2 y2 hy2 z2 hz2 x3 hx3 y3 hy3 z3 hz3 x4 hx4 y4 hy4 z4 hz4 x5 hx5 y5 hy5 z5 hz5
    cases hd
    refine ⟨[.agg [.int x1 hx1, .int y1 hy1, .int z1 hz1], .agg [.int x2 hx2, .int y2 hy2, .int z2 hz2], .agg [.int x3 hx3, .int y3 hy3, .int z3 hz3, .int x4 hx4, .int y4 hy4, .int z4 hz4, .int x5 hx5, .int y5 hy5, .int z5 hz5]], fun _ => rfl, fun _ _ => rfl, fun _ _ => rfl, fun _ => ?_⟩
    conv => whnf
    refine bcase_intro (fun a0 => ?_) (fun a0 => ?_)
    · have ha := ax0 (v := (normZ (⟨x3, y3, z3⟩ : V3) (⟨x4, y4, z4⟩ : V3) (⟨x5, y5, z5⟩ : V3))) a0
      conv => whnf
      refine bcase_intro (fun h1 => ?_) (fun h1 => ?_)
      · conv => whnf
        exact fun ρ => sbool_e (tou_pos (ax_ne ha (by decide)) h1) ρ
      conv => whnf
      refine ⟨⟨rfl, fun _ _ => rfl, trivial⟩, ?_⟩
      conv => whnf
      refine bcase_intro (fun g1 => ?_) (fun g1 => ?_)
      · conv => whnf
        refine ⟨⟨rfl, fun _ _ => rfl, trivial⟩, ?_⟩
        conv => whnf
        refine bcase_intro (fun _ => ?_) (fun h => Bool.noConfusion (g1.symm.trans h))
        conv => whnf
        refine ⟨⟨rfl, fun _ _ => rfl, trivial⟩, ?_⟩
        conv => whnf
        refine bcase_intro (fun _ => ?_) (fun h => Bool.noConfusion (g1.symm.trans h))
        conv => whnf
        refine ⟨⟨rfl, fun _ _ => rfl, trivial⟩, ?_⟩
        conv => whnf
        exact fun ρ => sbool_e (tou_or (ax_ne ha (by decide)) h1 (.inl (nz_t g1)) rfl) ρ
      conv => whnf
      refine bcase_intro (fun g2 => ?_) (fun g2 => ?_)
      · conv => whnf
        refine ⟨⟨rfl, fun _ _ => rfl, trivial⟩, ?_⟩
        conv => whnf
        refine bcase_intro (fun h => Bool.noConfusion (g1.symm.trans h)) (fun _ => ?_)
        conv => whnf
        refine bcase_intro (fun _ => ?_) (fun h => Bool.noConfusion (g2.symm.trans h))
        conv => whnf
        refine ⟨⟨rfl, fun _ _ => rfl, trivial⟩, ?_⟩
        conv => whnf
        refine bcase_intro (fun h => Bool.noConfusion (g1.symm.trans h)) (fun _ => ?_)
        conv => whnf
        refine bcase_intro (fun _ => ?_) (fun h => Bool.noConfusion (g2.symm.trans h))
        conv => whnf
        refine ⟨⟨rfl, fun _ _ => rfl, trivial⟩, ?_⟩
        conv => whnf
        exact fun ρ => sbool_e (tou_or (ax_ne ha (by decide)) h1 (.inr (nz_t g2)) rfl) ρ
      conv => whnf
      refine bcase_intro (fun c0 => ?_) (fun c0 => ?_)
      · conv => whnf
        exact fun ρ => sbool_e (tou_pl (ax_ne ha (by decide)) h1 (nz_f g1) (nz_f g2) (pl1 c0)) ρ
      conv => whnf
      refine ⟨⟨rfl, fun _ _ => rfl, trivial⟩, ?_⟩
      conv => whnf
      refine bcase_intro (fun h => Bool.noConfusion (g1.symm.trans h)) (fun _ => ?_)
      conv => whnf
      refine bcase_intro (fun h => Bool.noConfusion (g2.symm.trans h)) (fun _ => ?_)
      conv => whnf
      refine bcase_intro (fun c1 => ?_) (fun c1 => ?_)
      · conv => whnf
        exact fun ρ => sbool_e (tou_pl (ax_ne ha (by decide)) h1 (nz_f g1) (nz_f g2) (pl2 c0 c1)) ρ
      conv => whnf
      refine ⟨⟨rfl, fun _ _ => rfl, trivial⟩, ?_⟩
      conv => whnf
      refine bcase_intro (fun h => Bool.noConfusion (g1.symm.trans h)) (fun _ => ?_)
      conv => whnf
      refine bcase_intro (fun h => Bool.noConfusion (g2.symm.trans h)) (fun _ => ?_)
      conv => whnf
      refine bcase_intro (fun c2 => ?_) (fun c2 => ?_)
      · conv => whnf
        exact fun ρ => sbool_e (tou_pl (ax_ne ha (by decide)) h1 (nz_f g1) (nz_f g2) (pl3 c0 c1 c2)) ρ
      conv => whnf
      refine ⟨⟨rfl, fun _ _ => rfl, trivial⟩, ?_⟩
      conv => whnf
      exact fun ρ => sbool_e (tou_pl (ax_ne ha (by decide)) h1 (nz_f g1) (nz_f g2) (pl4 c0 c1 c2 (in_k ha rfl))) ρ
    conv => whnf
    refine bcase_intro (fun a1 => ?_) (fun a1 => ?_)
    · have ha := ax1 (v := (normZ (⟨x3, y3, z3⟩ : V3) (⟨x4, y4, z4⟩ : V3) (⟨x5, y5, z5⟩ : V3))) a0 a1
      conv => whnf
      refine bcase_intro (fun h1 => ?_) (fun h1 => ?_)
      · conv => whnf
        exact fun ρ => sbool_e (tou_pos (ax_ne ha (by decide)) h1) ρ
      conv => whnf
      refine ⟨⟨rfl, fun _ _ => rfl, trivial⟩, ?_⟩
      conv => whnf
      refine bcase_intro (fun g1 => ?_) (fun g1 => ?_)
      · conv => whnf
        refine ⟨⟨rfl, fun _ _ => rfl, trivial⟩, ?_⟩
        conv => whnf
        refine bcase_intro (fun _ => ?_) (fun h => Bool.noConfusion (g1.symm.trans h))
        conv => whnf
        refine ⟨⟨rfl, fun _ _ => rfl, trivial⟩, ?_⟩
        conv => whnf
        refine bcase_intro (fun _ => ?_) (fun h => Bool.noConfusion (g1.symm.trans h))
        conv => whnf
        refine ⟨⟨rfl, fun _ _ => rfl, trivial⟩, ?_⟩
        conv => whnf
        exact fun ρ => sbool_e (tou_or (ax_ne ha (by decide)) h1 (.inl (nz_t g1)) rfl) ρ
      conv => whnf
      refine bcase_intro (fun g2 => ?_) (fun g2 => ?_)
      · conv => whnf
        refine ⟨⟨rfl, fun _ _ => rfl, trivial⟩, ?_⟩
        conv => whnf
        refine bcase_intro (fun h => Bool.noConfusion (g1.symm.trans h)) (fun _ => ?_)
        conv => whnf
        refine bcase_intro (fun _ => ?_) (fun h => Bool.noConfusion (g2.symm.trans h))
        conv => whnf
        refine ⟨⟨rfl, fun _ _ => rfl, trivial⟩, ?_⟩
        conv => whnf
        refine bcase_intro (fun h => Bool.noConfusion (g1.symm.trans h)) (fun _ => ?_)
        conv => whnf
        refine bcase_intro (fun _ => ?_) (fun h => Bool.noConfusion (g2.symm.trans h))
        conv => whnf
        refine ⟨⟨rfl, fun _ _ => rfl, trivial⟩, ?_⟩
        conv => whnf
        exact fun ρ => sbool_e (tou_or (ax_ne ha (by decide)) h1 (.inr (nz_t g2)) rfl) ρ
      conv => whnf
      refine bcase_intro (fun c0 => ?_) (fun c0 => ?_)
      · conv => whnf
        exact fun ρ => sbool_e (tou_pl (ax_ne ha (by decide)) h1 (nz_f g1) (nz_f g2) (pl1 c0)) ρ
      conv => whnf
      refine ⟨⟨rfl, fun _ _ => rfl, trivial⟩, ?_⟩
      conv => whnf
      refine bcase_intro (fun h => Bool.noConfusion (g1.symm.trans h)) (fun _ => ?_)
      conv => whnf
      refine bcase_intro (fun h => Bool.noConfusion (g2.symm.trans h)) (fun _ => ?_)
      conv => whnf
      refine bcase_intro (fun c1 => ?_) (fun c1 => ?_)
      · conv => whnf
        exact fun ρ => sbool_e (tou_pl (ax_ne ha (by decide)) h1 (nz_f g1) (nz_f g2) (pl2 c0 c1)) ρ
      conv => whnf
      refine ⟨⟨rfl, fun _ _ => rfl, trivial⟩, ?_⟩
      conv => whnf
      refine bcase_intro (fun h => Bool.noConfusion (g1.symm.trans h)) (fun _ => ?_)
      conv => whnf
      refine bcase_intro (fun h => Bool.noConfusion (g2.symm.trans h)) (fun _ => ?_)
      conv => whnf
      refine bcase_intro (fun c2 => ?_) (fun c2 => ?_)
      · conv => whnf
        exact fun ρ => sbool_e (tou_pl (ax_ne ha (by decide)) h1 (nz_f g1) (nz_f g2) (pl3 c0 c1 c2)) ρ
      conv => whnf
      refine ⟨⟨rfl, fun _ _ => rfl, trivial⟩, ?_⟩
      conv => whnf
      exact fun ρ => sbool_e (tou_pl (ax_ne ha (by decide)) h1 (nz_f g1) (nz_f g2) (pl4 c0 c1 c2 (in_k ha rfl))) ρ
    conv => whnf
    refine bcase_intro (fun a2 => ?_) (fun a2 => ?_)
    · have ha := ax2 (v := (normZ (⟨x3, y3, z3⟩ : V3) (⟨x4, y4, z4⟩ : V3) (⟨x5, y5, z5⟩ : V3))) a0 a1 a2
      conv => whnf
      refine bcase_intro (fun h1 => ?_) (fun h1 => ?_)
      · conv => whnf
        exact fun ρ => sbool_e (tou_pos (ax_ne ha (by decide)) h1) ρ
      conv => whnf
      refine ⟨⟨rfl, fun _ _ => rfl, trivial⟩, ?_⟩
      conv => whnf
      refine bcase_intro (fun g1 => ?_) (fun g1 => ?_)
      · conv => whnf
        refine ⟨⟨rfl, fun _ _ => rfl, trivial⟩, ?_⟩
        conv => whnf
        refine bcase_intro (fun _ => ?_) (fun h => Bool.noConfusion (g1.symm.trans h))
        conv => whnf
        refine ⟨⟨rfl, fun _ _ => rfl, trivial⟩, ?_⟩
        conv => whnf
        refine bcase_intro (fun _ => ?_) (fun h => Bool.noConfusion (g1.symm.trans h))
        conv => whnf
        refine ⟨⟨rfl, fun _ _ => rfl, trivial⟩, ?_⟩
        conv => whnf
        exact fun ρ => sbool_e (tou_or (ax_ne ha (by decide)) h1 (.inl (nz_t g1)) rfl) ρ
      conv => whnf
      refine bcase_intro (fun g2 => ?_) (fun g2 => ?_)
      · conv => whnf
        refine ⟨⟨rfl, fun _ _ => rfl, trivial⟩, ?_⟩
        conv => whnf
        refine bcase_intro (fun h => Bool.noConfusion (g1.symm.trans h)) (fun _ => ?_)
        conv => whnf
        refine bcase_intro (fun _ => ?_) (fun h => Bool.noConfusion (g2.symm.trans h))
        conv => whnf
        refine ⟨⟨rfl, fun _ _ => rfl, trivial⟩, ?_⟩
        conv => whnf
        refine bcase_intro (fun h => Bool.noConfusion (g1.symm.trans h)) (fun _ => ?_)
        conv => whnf
        refine bcase_intro (fun _ => ?_) (fun h => Bool.noConfusion (g2.symm.trans h))
        conv => whnf
        refine ⟨⟨rfl, fun _ _ => rfl, trivial⟩, ?_⟩
        conv => whnf
        exact fun ρ => sbool_e (tou_or (ax_ne ha (by decide)) h1 (.inr (nz_t g2)) rfl) ρ
      conv => whnf
      refine bcase_intro (fun c0 => ?_) (fun c0 => ?_)
      · conv => whnf
        exact fun ρ => sbool_e (tou_pl (ax_ne ha (by decide)) h1 (nz_f g1) (nz_f g2) (pl1 c0)) ρ
      conv => whnf
      refine ⟨⟨rfl, fun _ _ => rfl, trivial⟩, ?_⟩
      conv => whnf
      refine bcase_intro (fun h => Bool.noConfusion (g1.symm.trans h)) (fun _ => ?_)
      conv => whnf
      refine bcase_intro (fun h => Bool.noConfusion (g2.symm.trans h)) (fun _ => ?_)
      conv => whnf
      refine bcase_intro (fun c1 => ?_) (fun c1 => ?_)
      · conv => whnf
        exact fun ρ => sbool_e (tou_pl (ax_ne ha (by decide)) h1 (nz_f g1) (nz_f g2) (pl2 c0 c1)) ρ
      conv => whnf
      refine ⟨⟨rfl, fun _ _ => rfl, trivial⟩, ?_⟩
      conv => whnf
      refine bcase_intro (fun h => Bool.noConfusion (g1.symm.trans h)) (fun _ => ?_)
      conv => whnf
      refine bcase_intro (fun h => Bool.noConfusion (g2.symm.trans h)) (fun _ => ?_)
      conv => whnf
      refine bcase_intro (fun c2 => ?_) (fun c2 => ?_)
      · conv => whnf
        exact fun ρ => sbool_e (tou_pl (ax_ne ha (by decide)) h1 (nz_f g1) (nz_f g2) (pl3 c0 c1 c2)) ρ
      conv => whnf
      refine ⟨⟨rfl, fun _ _ => rfl, trivial⟩, ?_⟩
      conv => whnf
      exact fun ρ => sbool_e (tou_pl (ax_ne ha (by decide)) h1 (nz_f g1) (nz_f g2) (pl4 c0 c1 c2 (in_k ha rfl))) ρ
    conv => whnf
    have ha := ax3 (v := (normZ (⟨x3, y3, z3⟩ : V3) (⟨x4, y4, z4⟩ : V3) (⟨x5, y5, z5⟩ : V3))) a0 a1 a2
    exact fun ρ => sbool_e (tou_flat ha rfl) ρ
  · cases hd
def baseE8 : List (FuncId × Dn) := (20, dTouchE) :: baseE7
theorem baseE8_ok : AllOk baseE8 := .cons spTouchE <| baseE7_ok
end Go.Proofs.YtmooplnklcgfjaaGreatDoor
