/- law 22: Mod, near, sanity. Plain laws of rays: corners in another order, multiples. -/
import Derived.Test.YtefgchmbdijjdaaDoorRyb
namespace Go.Proofs.YtefgchmbdijjdaaDoor
open Go.RowKit
set_option maxRecDepth 100000

theorem ir_emod {n m : Int} (hn : IR n) (hm : IR m) : IR (n % m) := by
  by_cases h : m = 0
  · subst h; rw [Int.emod_zero]; exact hn
  · have h1 := Int.emod_nonneg n h
    have h2 := Int.emod_lt n h
    unfold IR at *
    omega
theorem mod_eq {n m : Int} (hn : IR n) (h : 0 < m ∧ m ≤ 1000000) : (IntKind.i64.wrap (n.tmod m + m)).tmod m = n % m := by
  have h1 : -m < n.tmod m := Int.lt_tmod_of_pos n h.1
  have h2 : n.tmod m < m := Int.tmod_lt_of_pos n h.1
  rw [wrap_id (z := n.tmod m + m) (by unfold IR; omega), Int.tmod_eq_emod_of_nonneg (by omega), Int.add_emod_right]
  have _ := hn
  rw [Int.tmod_def, Int.sub_mul_emod_self_left]
def dMod : Dn
  | [.c (.int n hn), .c (.int m hm)] => some (some (0 < m ∧ m ≤ 1000000), .c (.int (n % m) (ir_emod hn hm)))
  | _ => none
theorem spMod : SpOk Tryd.prog 8 dMod := sp_of2 (un := 20) (n := 0) ⟨Tryd.func8, by kernel_rfl, by kernel_rfl⟩ baseC_ok noF_ok fun args p v hd => by
  unfold dMod at hd
  split at hd
  · rename_i n hn m hm
    cases hd
    refine ⟨[.c (.int n hn), .c (.int m hm)], fun _ => rfl, fun _ _ => rfl, fun _ _ => rfl, fun hpre => ?_⟩
    have hm0 : 0 < m ∧ m ≤ 1000000 := hpre _ rfl
    conv => whnf
    conv =>
      arg 2
      tactic' =>
        apply eff_rem (hi := hn.tmod m) (ho := ?how1) (hx := ?hxw1) (hy := ?hyw1) (hb0 := ?hb0w1) (hc := ?hcw1)
        case how1 => rfl
        case hxw1 => rfl
        case hyw1 => rfl
        case hb0w1 => exact (by omega)
        case hcw1 => rfl
    conv => whnf
    conv =>
      arg 2
      tactic' =>
        apply eff_rem (hi := ir_emod hn hm) (ho := ?how2) (hx := ?hxw2) (hy := ?hyw2) (hb0 := ?hb0w2) (hc := ?hcw2)
        case how2 => rfl
        case hxw2 => rfl
        case hyw2 => rfl
        case hb0w2 => exact (by omega)
        case hcw2 => exact mod_eq hn hm0
    conv => whnf
    exact fun _ => rfl
  · cases hd
def baseM : List (FuncId × Dn) := (8, dMod) :: baseC
theorem baseM_ok : AllOk baseM := .cons spMod <| baseC_ok
/-- a small ray -/
def nW (w : Int) : Int := 1 + w % 4
def nC (w n : Int) : Int := n % (11 * w) - 2 * w
def nD (n : Int) : Int := n % 7 - 3
theorem nW_b (w : Int) : 1 ≤ nW w ∧ nW w ≤ 4 := by unfold nW; omega
theorem nC_b {w : Int} (hw : 1 ≤ w ∧ w ≤ 4) (n : Int) : -2 * w ≤ nC w n ∧ nC w n < 9 * w := by
  unfold nC
  have h1 := Int.emod_nonneg n (show 11 * w ≠ 0 by omega)
  have h2 := Int.emod_lt_of_pos n (show 0 < 11 * w by omega)
  omega
theorem nD_b (n : Int) : -3 ≤ nD n ∧ nD n ≤ 3 := by unfold nD; omega
theorem ir_nW (w : Int) : IR (nW w) := by have := nW_b w; unfold IR; omega
theorem ir_nC (w n : Int) : IR (nC (nW w) n) := by have h := nW_b w; have := nC_b h n; unfold IR; omega
theorem ir_nD (n : Int) : IR (nD n) := by have := nD_b n; unfold IR; omega
def nearZ (r : RZ) : RZ := ⟨nC (nW r.w) r.x, nC (nW r.w) r.y, nC (nW r.w) r.z, nW r.w, ⟨nD r.d.x, nD r.d.y, nD r.d.z⟩⟩
/-- the coordinate's function: it reads w -/
def dNear1 : Dr
  | [.c (.int n _), .c (.ptr b 0)], hf => (match hf b with
    | some ⟨_, _, [.int w _], _⟩ => some (some (1 ≤ w ∧ w ≤ 4), .c (.int (IntKind.i64.wrap (n % IntKind.i64.wrap (11 * w) - IntKind.i64.wrap (2 * w))) (IR.wrap _)))
    | _ => none)
  | _, _ => none
theorem vcNear1 {n w : Int} (hn : IR n) (hw : IR w) (hb : 1 ≤ w ∧ w ≤ 4) (ty : TypeId) : vcF (env 20 baseM) (inl (env 20 baseM) noF 0) Tryd.f17 [.c (.int n hn), .c (.ptr 0 0)] [⟨ty, true, [.int w hw], 0⟩] fun u _ => ∀ ρ, u.den ρ = (SV.c (.int (IntKind.i64.wrap (n % IntKind.i64.wrap (11 * w) - IntKind.i64.wrap (2 * w))) (IR.wrap _))).den ρ := by
  have h11 : 0 < IntKind.i64.wrap (11 * w) ∧ IntKind.i64.wrap (11 * w) ≤ 1000000 := by rw [wrap_id (z := 11 * w) (by unfold IR; omega)]; omega
  conv => whnf
  refine ⟨h11, ?_⟩
  conv => whnf
  exact fun _ => rfl
theorem spNear1 : SpR Tryd.prog 17 dNear1 := by
  refine ⟨(⟨Tryd.func17, by kernel_rfl, by kernel_rfl⟩ : FnOk Tryd.prog 17 Tryd.f17).callable, fun args hf p v hd => ?_⟩
  unfold dNear1 at hd
  split at hd
  · rename_i n hn b
    split at hd
    · rename_i ty ro w hw tl hb
      cases hd
      refine ⟨fun _ _ => rfl, fun ho ρ ww hh => ?_⟩
      have hw4 : 1 ≤ w ∧ w ≤ 4 := ho _ rfl
      have hH := (hh b _ hb).1
      refine read_ok (P := Tryd.prog) (env_ok baseM_ok 20) mixed noF_ok ⟨Tryd.func17, by kernel_rfl, by kernel_rfl⟩ (fun _ _ => rfl) (fun i c hi => ?_) (fun _ => ρ b) (fun ρ' hρ => ?_) (vcNear1 hn hw hw4 ty) ww (fun i c hi => ?_)
      · cases i with
        | zero => simp [nthO] at hi; subst hi; exact ⟨rfl, fun _ _ => rfl⟩
        | succ i => simp [nthO] at hi
      · have := hρ 0 rfl
        simp only [List.map_cons, List.map_nil, SV.den, C.den, C.cells, adr, this]
      · cases i with
        | zero => simp [nthO] at hi; subst hi; exact hH
        | succ i => simp [nthO] at hi
    · cases hd
  · cases hd
def dNear2 : Dn
  | [.c (.int n _)] =>
    some (none, .c (.int (nD n) (ir_nD n)))
  | _ => none
theorem spNear2 : SpOk Tryd.prog 18 dNear2 := sp_of2 (un := 20) (n := 0) ⟨Tryd.func18, by kernel_rfl, by kernel_rfl⟩ baseM_ok noF_ok fun args p v hd => by
  unfold dNear2 at hd
  split at hd
  · rename_i n hn
    cases hd
    refine ⟨[.c (.int n hn)], fun _ => rfl, fun _ _ => rfl, fun _ _ => rfl, fun _ => ?_⟩
    conv => whnf
    refine ⟨⟨by decide, by decide⟩, ?_⟩
    conv => whnf
    exact fun ρ => sint_e (wrap_id (ir_nD n)) ρ
  · cases hd
def baseM1 : List (FuncId × Dn) := (18, dNear2) :: baseM
theorem baseM1_ok : AllOk baseM1 := .cons spNear2 <| baseM_ok
def rdNr : List (FuncId × Dr) := [(17, dNear1)]
theorem rdNr_ok : AllR rdNr := .cons spNear1 .nil
theorem near_w {w : Int} : IntKind.i64.wrap (1 + w % 4) = nW w := wrap_id (ir_nW w)
theorem near_c {w n : Int} : IntKind.i64.wrap (n % IntKind.i64.wrap (11 * IntKind.i64.wrap (1 + w % 4)) - IntKind.i64.wrap (2 * IntKind.i64.wrap (1 + w % 4))) = nC (nW w) n := by
  have h := nW_b w
  rw [near_w, wrap_id (z := 11 * nW w) (by unfold IR; omega), wrap_id (z := 2 * nW w) (by unfold IR; omega)]
  exact wrap_id (ir_nC w n)
theorem near_b {w : Int} : 1 ≤ IntKind.i64.wrap (1 + w % 4) ∧ IntKind.i64.wrap (1 + w % 4) ≤ 4 := by rw [near_w]; exact nW_b w
theorem ints7_sv {a b c d e f g a' b' c' d' e' f' g' : Int} {h1 : IR a} {h2 : IR b} {h3 : IR c} {h4 : IR d} {h5 : IR e} {h6 : IR f} {h7 : IR g} {i1 : IR a'} {i2 : IR b'} {i3 : IR c'} {i4 : IR d'} {i5 : IR e'} {i6 : IR f'} {i7 : IR g'} (e1 : a = a') (e2 : b = b') (e3 : c = c') (e4 : d = d') (e5 : e = e') (e6 : f = f') (e7 : g = g') (ρ : Rho) :
    (SV.agg [.int a h1, .int b h2, .int c h3, .int d h4, .int e h5, .int f h6, .int g h7]).den ρ = (SV.agg [.int a' i1, .int b' i2, .int c' i3, .int d' i4, .int e' i5, .int f' i6, .int g' i7]).den ρ := by subst e1 e2 e3 e4 e5 e6 e7; rfl
def dNearL : Dn
  | [.agg [.int rx _, .int ry _, .int rz _, .int rw _, .int d0 _, .int d1 _, .int d2 _]] =>
    some (none, .agg [.int (nC (nW rw) rx) (ir_nC rw rx), .int (nC (nW rw) ry) (ir_nC rw ry), .int (nC (nW rw) rz) (ir_nC rw rz), .int (nW rw) (ir_nW rw), .int (nD d0) (ir_nD d0), .int (nD d1) (ir_nD d1), .int (nD d2) (ir_nD d2)])
  | _ => none
set_option maxHeartbeats 4000000 in
theorem spNearL : SpOk Tryd.prog 7 dNearL := sp_of3 (un := 20) (n := 0) ⟨Tryd.func7, by kernel_rfl, by kernel_rfl⟩ baseM1_ok rdNr_ok noF_ok fun args p v hd => by
  unfold dNearL at hd
  split at hd
  · rename_i rx hrx ry hry rz hrz rw hrw d0 hd0 d1 hd1 d2 hd2
    cases hd
    refine ⟨[.agg [.int rx hrx, .int ry hry, .int rz hrz, .int rw hrw, .int d0 hd0, .int d1 hd1, .int d2 hd2]], fun _ => rfl, fun _ _ => rfl, fun _ _ => rfl, fun _ => ?_⟩
    conv => whnf
    refine ⟨⟨by decide, by decide⟩, ?_⟩
    conv => whnf
    refine ⟨near_b, ?_⟩
    conv => whnf
    refine ⟨near_b, ?_⟩
    conv => whnf
    refine ⟨near_b, ?_⟩
    conv => whnf
    exact fun ρ => ints7_sv near_c near_c near_c near_w rfl rfl rfl ρ
  · cases hd
theorem sm64_1 : Sm 64 1 := by unfold Sm; decide
theorem sm64_2 : Sm 64 2 := by unfold Sm; decide
theorem sm64_3 : Sm 64 3 := by unfold Sm; decide
def cFrac : List SV → Option SV
  | [.c (.int n _), .c (.int m _)] => if n = 1 ∧ m = 1 then some (.agg [.wid 64 1 sm64_1, .wid 64 1 sm64_1]) else if n = 3 ∧ m = 2 then some (.agg [.wid 64 3 sm64_3, .wid 64 2 sm64_2]) else none
  | _ => none
theorem fr_ex : (fracN 1 1 = 1 ∧ fracD 1 1 = 1) ∧ fracN 3 2 = 3 ∧ fracD 3 2 = 2 := by decide +kernel
theorem spFracS : SpOk Tryd.prog 11 (dOver cFrac dFrac22) := spOver spFrac22 fun args v p u h1 h2 ρ => by
  unfold cFrac at h1
  split at h1
  · split at h1
    · rename_i e
      obtain ⟨rfl, rfl⟩ := e
      cases h1; cases h2
      exact wid2_sv _ _ _ _ fr_ex.1.1 fr_ex.1.2 ρ
    · split at h1
      · rename_i e
        obtain ⟨rfl, rfl⟩ := e
        cases h1; cases h2
        exact wid2_sv _ _ _ _ fr_ex.2.1 fr_ex.2.2 ρ
      · cases h1
  · cases h1
def baseS2 : List (FuncId × Dn) := (11, dOver cFrac dFrac22) :: (16, dCrsS) :: (12, dBoxS0) :: baseC
theorem baseS2_ok : AllOk baseS2 := .cons spFracS <| .cons spCrsS <| .cons spBoxS0 baseC_ok
def dSanity : Dn
  | [] => some (none, .c (.val (.bool true)))
  | _ => none
theorem spSanity : SpOk Tryd.prog 6 dSanity := sp_of2 (un := 20) (n := 0) ⟨Tryd.func6, by kernel_rfl, by kernel_rfl⟩ baseS2_ok noF_ok fun args p v hd => by
  unfold dSanity at hd
  split at hd
  · cases hd
    refine ⟨[], fun _ => rfl, fun _ _ => rfl, fun _ _ => rfl, fun _ => ?_⟩
    conv => whnf
    exact fun _ => rfl
  · cases hd
end Go.Proofs.YtefgchmbdijjdaaDoor

namespace Go.Proofs.YtefgchmbdijjdaaDoor
open Go.RowKit
set_option maxRecDepth 100000

theorem V3.ext' {a b : V3} (h1 : a.x = b.x) (h2 : a.y = b.y) (h3 : a.z = b.z) : a = b := by cases a; cases b; simp_all
theorem norm_rot (p q s : V3) : normZ q s p = normZ p q s := by
  apply V3.ext' <;> simp only [normZ, V3.sub, V3.cross] <;> grind
theorem norm_rev (p q s : V3) : normZ q p s = (normZ p q s).neg := by
  apply V3.ext' <;> simp only [normZ, V3.sub, V3.cross, V3.neg] <;> grind
theorem neg_neg3 (v : V3) : v.neg.neg = v := by
  apply V3.ext' <;> simp only [V3.neg] <;> omega
theorem isZ_neg (v : V3) : v.neg.isZ = v.isZ := by
  have e : ∀ x : Int, decide (0 - x = 0) = decide (x = 0) := fun x => decide_eq_decide.2 (by omega)
  show (decide (0 - v.x = 0) && (decide (0 - v.y = 0) && decide (0 - v.z = 0))) = _
  rw [e, e, e]; rfl
theorem high_rot (r : RZ) (p q s : V3) : highZ r q s p = highZ r p q s := by
  unfold highZ; rw [norm_rot]
  simp only [normZ, V3.sub, V3.cross, V3.dot, RZ.at]; grind
theorem high_rev (r : RZ) (p q s : V3) : highZ r q p s = -highZ r p q s := by
  unfold highZ; rw [norm_rev]
  simp only [normZ, V3.sub, V3.cross, V3.dot, V3.neg, RZ.at]; grind
theorem slope_rot (r : RZ) (p q s : V3) : slopeZ r q s p = slopeZ r p q s := by unfold slopeZ; rw [norm_rot]
theorem slope_rev (r : RZ) (p q s : V3) : slopeZ r q p s = -slopeZ r p q s := by
  unfold slopeZ; rw [norm_rev]; simp only [V3.dot, V3.neg]; grind
theorem sgL_c (x : Int) (l : List Int) : sgL (x :: l) = if x.sign = 0 then sgL l else x.sign := rfl
theorem sgL_neg : ∀ l : List Int, sgL (l.map fun x => -x) = -sgL l
  | [] => rfl
  | x :: l => by
    rw [List.map_cons, sgL_c, sgL_c, Int.sign_neg, sgL_neg l]
    by_cases h : x.sign = 0
    · rw [if_pos h, if_pos (by omega)]
    · rw [if_neg h, if_neg (by omega)]
theorem sgV_neg {n m : Int} {v u : V3} (h0 : m = -n) (h1 : u.x = -v.x) (h2 : u.y = -v.y) (h3 : u.z = -v.z) : sgV m u = -sgV n v := by
  have := sgL_neg [n, v.x, v.y, v.z]
  unfold sgV
  rw [h0, h1, h2, h3]
  exact this
theorem side_rev (d a b : V3) : sideZ d b a = -sideZ d a b := by
  unfold sideZ
  apply sgV_neg <;> simp only [V3.dot, V3.cross, V3.sub] <;> grind
theorem pass_iff (d a b c : V3) : passZ d a b c = true ↔ sideZ d a b ≠ 0 ∧ sideZ d b c = sideZ d a b ∧ sideZ d c a = sideZ d a b := by
  unfold passZ; simp only [Bool.and_eq_true, decide_eq_true_eq]
theorem pass_rot (d a b c : V3) : passZ d b c a = passZ d a b c := by
  rw [Bool.eq_iff_iff, pass_iff, pass_iff]
  constructor
  · rintro ⟨h1, h2, h3⟩; exact ⟨fun e => h1 (by omega), by omega, by omega⟩
  · rintro ⟨h1, h2, h3⟩; exact ⟨fun e => h1 (by omega), by omega, by omega⟩
theorem pass_rev (d a b c : V3) : passZ d b a c = passZ d a b c := by
  rw [Bool.eq_iff_iff, pass_iff, pass_iff, side_rev d a b, side_rev d c a, side_rev d b c]
  constructor
  · rintro ⟨h1, h2, h3⟩; exact ⟨fun e => h1 (by omega), by omega, by omega⟩
  · rintro ⟨h1, h2, h3⟩; exact ⟨fun e => h1 (by omega), by omega, by omega⟩
theorem crossB_rot (r : RZ) (p q s : V3) : crossB r q s p = crossB r p q s := by
  unfold crossB; rw [norm_rot, pass_rot, high_rot, slope_rot]
theorem crossB_rev (r : RZ) (p q s : V3) : crossB r q p s = crossB r p q s := by
  unfold crossB; rw [norm_rev, isZ_neg, pass_rev]
  have e : decide (sgV (highZ r q p s) (normZ p q s).neg.neg = (slopeZ r q p s).sign) = decide (sgV (highZ r p q s) (normZ p q s).neg = (slopeZ r p q s).sign) := by
    have h1 : sgV (highZ r q p s) (normZ p q s).neg.neg = -sgV (highZ r p q s) (normZ p q s).neg := by
      apply sgV_neg (high_rev r p q s) <;> simp only [V3.neg] <;> omega
    rw [h1, slope_rev, Int.sign_neg]
    exact decide_eq_decide.2 (by omega)
  rw [e]
theorem frac_negneg (n d : Int) : fracN (-n) (-d) = fracN n d ∧ fracD (-n) (-d) = fracD n d := by
  by_cases h : d = 0
  · subst h; unfold fracN fracD; simp
  · obtain ⟨h1, h2⟩ := frac_rat (n := n) h
    obtain ⟨h3, h4⟩ := frac_rat (n := -n) (d := -d) (by omega)
    have e : ((-n : Int) : Rat) / ((-d : Int) : Rat) = (n : Rat) / (d : Rat) := by
      rw [← Rat.divInt_eq_div, ← Rat.divInt_eq_div, Rat.neg_divInt_neg]
    rw [h1, h2, h3, h4, e]; exact ⟨rfl, rfl⟩
theorem cross_rot (r : RZ) (p q s : V3) : crossN r q s p = crossN r p q s ∧ crossD r q s p = crossD r p q s := by
  unfold crossN crossD; rw [crossB_rot, high_rot, slope_rot]; exact ⟨rfl, rfl⟩
theorem cross_rev (r : RZ) (p q s : V3) : crossN r q p s = crossN r p q s ∧ crossD r q p s = crossD r p q s := by
  unfold crossN crossD; rw [crossB_rev, high_rev, slope_rev]
  have := frac_negneg (highZ r p q s) (r.w * slopeZ r p q s)
  rw [Int.mul_neg, this.1, this.2]; exact ⟨rfl, rfl⟩
theorem cross_flat (r : RZ) (p q : V3) : crossB r p q q = false := by
  have h : (normZ p q q).isZ = true := by
    unfold V3.isZ normZ V3.sub V3.cross
    simp only [Bool.and_eq_true, decide_eq_true_eq]
    refine ⟨?_, ?_, ?_⟩ <;> grind
  unfold crossB; rw [h]; simp
theorem cross_noperm {r : RZ} (p q s : V3) (h : permZ r = false) : crossB r p q s = false := by unfold crossB; rw [h]; rfl
theorem perm_dir0 {r : RZ} (h : r.d = ⟨0, 0, 0⟩) : permZ r = false := by unfold permZ; rw [h]; simp [V3.isZ]
theorem perm_w0 {r : RZ} (h : r.w ≤ 0) : permZ r = false := by unfold permZ; rw [decide_eq_false (by omega)]; rfl
/-! scaling -/
theorem sgV_scale {n m : Int} {v u : V3} (h0 : n.sign = m.sign) (h1 : v.x.sign = u.x.sign) (h2 : v.y.sign = u.y.sign) (h3 : v.z.sign = u.z.sign) : sgV n v = sgV m u := by
  unfold sgV; rw [sgL_c, sgL_c, sgL_c, sgL_c, sgL_c, sgL_c, sgL_c, sgL_c, h0, h1, h2, h3]
theorem sign_mp {a x : Int} (ha : 0 < a) : (a * x).sign = x.sign := by rw [Int.sign_mul, Int.sign_eq_one_of_pos ha, Int.one_mul]
theorem sign_of {x y a : Int} (ha : 0 < a) (h : x = a * y) : x.sign = y.sign := by rw [h, sign_mp ha]
def sclR (a : Int) (r : RZ) : RZ := ⟨r.x * a, r.y * a, r.z * a, r.w * a, r.d⟩
def sclD (b : Int) (r : RZ) : RZ := ⟨r.x, r.y, r.z, r.w, ⟨r.d.x * b, r.d.y * b, r.d.z * b⟩⟩
theorem high_sclR (a : Int) (r : RZ) (p q s : V3) : highZ (sclR a r) p q s = a * highZ r p q s := by
  simp only [highZ, sclR, RZ.at, V3.dot]; grind
theorem slope_sclD (a : Int) (r : RZ) (p q s : V3) : slopeZ (sclD a r) p q s = a * slopeZ r p q s := by
  simp only [slopeZ, sclD, V3.dot]; grind
section
variable {a : Int} (ha : 0 < a)
include ha
theorem side_sclR (r : RZ) (p q : V3) : sideZ r.d ((sclR a r).at p) ((sclR a r).at q) = sideZ r.d (r.at p) (r.at q) := by
  unfold sideZ
  have haa : 0 < a * a := Int.mul_pos ha ha
  refine sgV_scale (sign_of haa ?_) (sign_of ha ?_) (sign_of ha ?_) (sign_of ha ?_) <;> simp only [sclR, RZ.at, V3.dot, V3.cross, V3.sub] <;> grind
theorem perm_sclR (r : RZ) : permZ (sclR a r) = permZ r := by
  unfold permZ sclR
  have : decide (0 < r.w * a) = decide (0 < r.w) := decide_eq_decide.2 ⟨fun h => by
    rcases Int.lt_trichotomy r.w 0 with h1 | h1 | h1
    · have := Int.mul_neg_of_neg_of_pos h1 ha; omega
    · rw [h1] at h; omega
    · exact h1, fun h => Int.mul_pos h ha⟩
  simp only [this]
theorem crossB_sclR (r : RZ) (p q s : V3) : crossB (sclR a r) p q s = crossB r p q s := by
  unfold crossB
  rw [perm_sclR ha]
  have h1 : passZ (sclR a r).d ((sclR a r).at p) ((sclR a r).at q) ((sclR a r).at s) = passZ r.d (r.at p) (r.at q) (r.at s) := by
    show passZ r.d _ _ _ = _
    unfold passZ; rw [side_sclR ha, side_sclR ha, side_sclR ha]
  have h2 : sgV (highZ (sclR a r) p q s) (normZ p q s).neg = sgV (highZ r p q s) (normZ p q s).neg := by
    refine sgV_scale ?_ rfl rfl rfl; rw [high_sclR, sign_mp ha]
  rw [h1, h2]; rfl
theorem frac_scl (n d : Int) : fracN (a * n) (a * d) = fracN n d ∧ fracD (a * n) (a * d) = fracD n d := by
  by_cases h : d = 0
  · subst h; unfold fracN fracD; simp
  · obtain ⟨h1, h2⟩ := frac_rat (n := n) h
    obtain ⟨h3, h4⟩ := frac_rat (n := a * n) (d := a * d) (Int.mul_ne_zero (by omega) h)
    have e : ((a * n : Int) : Rat) / ((a * d : Int) : Rat) = (n : Rat) / (d : Rat) := by
      rw [← Rat.divInt_eq_div, ← Rat.divInt_eq_div, Rat.divInt_mul_left (by omega)]
    rw [h1, h2, h3, h4, e]; exact ⟨rfl, rfl⟩
theorem cross_sclR (r : RZ) (p q s : V3) : crossN (sclR a r) p q s = crossN r p q s ∧ crossD (sclR a r) p q s = crossD r p q s := by
  unfold crossN crossD
  rw [crossB_sclR ha, high_sclR]
  have e : (sclR a r).w * slopeZ (sclR a r) p q s = a * (r.w * slopeZ r p q s) := by
    show r.w * a * slopeZ r p q s = _; grind
  rw [e, (frac_scl ha _ _).1, (frac_scl ha _ _).2]; exact ⟨rfl, rfl⟩
theorem side_sclD (r : RZ) (A B : V3) : sideZ (sclD a r).d A B = sideZ r.d A B := by
  unfold sideZ
  refine sgV_scale (sign_of ha ?_) (sign_of ha ?_) (sign_of ha ?_) (sign_of ha ?_) <;> simp only [sclD, V3.dot, V3.cross, V3.sub] <;> grind
theorem perm_sclD (r : RZ) : permZ (sclD a r) = permZ r := by
  have e : ∀ x : Int, decide (x * a = 0) = decide (x = 0) := fun x => decide_eq_decide.2 ⟨fun h => (Int.mul_eq_zero.1 h).resolve_right (by omega), fun h => by rw [h, Int.zero_mul]⟩
  unfold permZ sclD V3.isZ
  simp only [e]
theorem crossB_sclD (r : RZ) (p q s : V3) : crossB (sclD a r) p q s = crossB r p q s := by
  unfold crossB
  rw [perm_sclD ha]
  have h1 : passZ (sclD a r).d ((sclD a r).at p) ((sclD a r).at q) ((sclD a r).at s) = passZ r.d (r.at p) (r.at q) (r.at s) := by
    unfold passZ; rw [side_sclD ha, side_sclD ha, side_sclD ha]; rfl
  rw [h1, slope_sclD, sign_mp ha]; rfl
theorem cross_sclD (r : RZ) (p q s : V3) : crossN (sclD a r) p q s = (if crossB r p q s then fracN (highZ r p q s) (a * (r.w * slopeZ r p q s)) else 0) ∧ crossD (sclD a r) p q s = (if crossB r p q s then fracD (highZ r p q s) (a * (r.w * slopeZ r p q s)) else 1) := by
  unfold crossN crossD
  rw [crossB_sclD ha, slope_sclD]
  have e : (sclD a r).w * (a * slopeZ r p q s) = a * (r.w * slopeZ r p q s) := by
    show r.w * (a * slopeZ r p q s) = _; grind
  rw [e]; exact ⟨rfl, rfl⟩
end
end Go.Proofs.YtefgchmbdijjdaaDoor
