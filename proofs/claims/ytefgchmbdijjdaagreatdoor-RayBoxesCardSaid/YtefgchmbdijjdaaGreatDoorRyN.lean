/- law 22: Mod, near, sanity. -/
import Derived.Test.YtefgchmbdijjdaaGreatDoorRyb
import Derived.Test.YtefgchmbdijjdaaGreatDoorRyB
namespace Go.Proofs.YtefgchmbdijjdaaGreatDoor
open Go.RowKit
set_option maxRecDepth 100000

theorem ir_emod {n m : Int} (hn : IR n) (hm : IR m) : IR (n % m) := by
  by_cases h : m = 0
  · subst h; rw [Int.emod_zero]; exact hn
  · have h1 := Int.emod_nonneg n h
    have h2 := Int.emod_lt n h
    unfold IR at *
    omega
theorem mod_eq {n m : Int} (hn : IR n) (h : 0 < m ∧ m ≤ 1000000) : (IntKind.i64.wrap (n.tmod m + m)).tmod m = n % m := by
  have h1 : -m < n.tmod m := Int.lt_tmod_of_pos n h.1
  have h2 : n.tmod m < m := Int.tmod_lt_of_pos n h.1
  rw [wrap_id (z := n.tmod m + m) (by unfold IR; omega), Int.tmod_eq_emod_of_nonneg (by omega), Int.add_emod_right]
  have _ := hn
  rw [Int.tmod_def, Int.sub_mul_emod_self_left]
def dMod : Dn
  | [.c (.int n hn), .c (.int m hm)] => some (some (0 < m ∧ m ≤ 1000000), .c (.int (n % m) (ir_emod hn hm)))
  | _ => none
theorem spMod : SpOk Tryz.prog 12 dMod := sp_of2 (un := 20) (n := 0) ⟨Tryz.func12, by kernel_rfl, by kernel_rfl⟩ baseC_ok noF_ok fun args p v hd => by
  unfold dMod at hd
  split at hd
  · rename_i n hn m hm
    cases hd
    refine ⟨[.c (.int n hn), .c (.int m hm)], fun _ => rfl, fun _ _ => rfl, fun _ _ => rfl, fun hpre => ?_⟩
    have hm0 : 0 < m ∧ m ≤ 1000000 := hpre _ rfl
    conv => whnf
    conv =>
      arg 2
      tactic' =>
        apply eff_rem (hi := hn.tmod m) (ho := ?how1) (hx := ?hxw1) (hy := ?hyw1) (hb0 := ?hb0w1) (hc := ?hcw1)
        case how1 => rfl
        case hxw1 => rfl
        case hyw1 => rfl
        case hb0w1 => exact (by omega)
        case hcw1 => rfl
    conv => whnf
    conv =>
      arg 2
      tactic' =>
        apply eff_rem (hi := ir_emod hn hm) (ho := ?how2) (hx := ?hxw2) (hy := ?hyw2) (hb0 := ?hb0w2) (hc := ?hcw2)
        case how2 => rfl
        case hxw2 => rfl
        case hyw2 => rfl
        case hb0w2 => exact (by omega)
        case hcw2 => exact mod_eq hn hm0
    conv => whnf
    exact fun _ => rfl
  · cases hd
def baseM : List (FuncId × Dn) := (12, dMod) :: baseC
theorem baseM_ok : AllOk baseM := .cons spMod <| baseC_ok
/-- a small ray -/
def nW (w : Int) : Int := 1 + w % 4
def nC (w n : Int) : Int := n % (11 * w) - 2 * w
def nD (n : Int) : Int := n % 7 - 3
theorem nW_b (w : Int) : 1 ≤ nW w ∧ nW w ≤ 4 := by unfold nW; omega
theorem nC_b {w : Int} (hw : 1 ≤ w ∧ w ≤ 4) (n : Int) : -2 * w ≤ nC w n ∧ nC w n < 9 * w := by
  unfold nC
  have h1 := Int.emod_nonneg n (show 11 * w ≠ 0 by omega)
  have h2 := Int.emod_lt_of_pos n (show 0 < 11 * w by omega)
  omega
theorem nD_b (n : Int) : -3 ≤ nD n ∧ nD n ≤ 3 := by unfold nD; omega
theorem ir_nW (w : Int) : IR (nW w) := by have := nW_b w; unfold IR; omega
theorem ir_nC (w n : Int) : IR (nC (nW w) n) := by have h := nW_b w; have := nC_b h n; unfold IR; omega
theorem ir_nD (n : Int) : IR (nD n) := by have := nD_b n; unfold IR; omega
def nearZ (r : RZ) : RZ := ⟨nC (nW r.w) r.x, nC (nW r.w) r.y, nC (nW r.w) r.z, nW r.w, ⟨nD r.d.x, nD r.d.y, nD r.d.z⟩⟩
/-- the coordinate's function: it reads w -/
def dNear1 : Dr
  | [.c (.int n _), .c (.ptr b 0)], hf => (match hf b with
    | some ⟨_, _, [.int w _], _⟩ => some (some (1 ≤ w ∧ w ≤ 4), .c (.int (IntKind.i64.wrap (n % IntKind.i64.wrap (11 * w) - IntKind.i64.wrap (2 * w))) (IR.wrap _)))
    | _ => none)
  | _, _ => none
theorem vcNear1 {n w : Int} (hn : IR n) (hw : IR w) (hb : 1 ≤ w ∧ w ≤ 4) (ty : TypeId) : vcF (env 20 baseM) (inl (env 20 baseM) noF 0) Tryz.f34 [.c (.int n hn), .c (.ptr 0 0)] [⟨ty, true, [.int w hw], 0⟩] fun u _ => ∀ ρ, u.den ρ = (SV.c (.int (IntKind.i64.wrap (n % IntKind.i64.wrap (11 * w) - IntKind.i64.wrap (2 * w))) (IR.wrap _))).den ρ := by
  have h11 : 0 < IntKind.i64.wrap (11 * w) ∧ IntKind.i64.wrap (11 * w) ≤ 1000000 := by rw [wrap_id (z := 11 * w) (by unfold IR; omega)]; omega
  conv => whnf
  refine ⟨h11, ?_⟩
  conv => whnf
  exact fun _ => rfl
theorem spNear1 : SpR Tryz.prog 34 dNear1 := by
  refine ⟨(⟨Tryz.func34, by kernel_rfl, by kernel_rfl⟩ : FnOk Tryz.prog 34 Tryz.f34).callable, fun args hf p v hd => ?_⟩
  unfold dNear1 at hd
  split at hd
  · rename_i n hn b
    split at hd
    · rename_i ty ro w hw tl hb
      cases hd
      refine ⟨fun _ _ => rfl, fun ho ρ ww hh => ?_⟩
      have hw4 : 1 ≤ w ∧ w ≤ 4 := ho _ rfl
      have hH := (hh b _ hb).1
      refine read_ok (P := Tryz.prog) (env_ok baseM_ok 20) mixed noF_ok ⟨Tryz.func34, by kernel_rfl, by kernel_rfl⟩ (fun _ _ => rfl) (fun i c hi => ?_) (fun _ => ρ b) (fun ρ' hρ => ?_) (vcNear1 hn hw hw4 ty) ww (fun i c hi => ?_)
      · cases i with
        | zero => simp [nthO] at hi; subst hi; exact ⟨rfl, fun _ _ => rfl⟩
        | succ i => simp [nthO] at hi
      · have := hρ 0 rfl
        simp only [List.map_cons, List.map_nil, SV.den, C.den, C.cells, adr, this]
      · cases i with
        | zero => simp [nthO] at hi; subst hi; exact hH
        | succ i => simp [nthO] at hi
    · cases hd
  · cases hd
def dNear2 : Dn
  | [.c (.int n _)] =>
    some (none, .c (.int (nD n) (ir_nD n)))
  | _ => none
theorem spNear2 : SpOk Tryz.prog 35 dNear2 := sp_of2 (un := 20) (n := 0) ⟨Tryz.func35, by kernel_rfl, by kernel_rfl⟩ baseM_ok noF_ok fun args p v hd => by
  unfold dNear2 at hd
  split at hd
  · rename_i n hn
    cases hd
    refine ⟨[.c (.int n hn)], fun _ => rfl, fun _ _ => rfl, fun _ _ => rfl, fun _ => ?_⟩
    conv => whnf
    refine ⟨⟨by decide, by decide⟩, ?_⟩
    conv => whnf
    exact fun ρ => sint_e (wrap_id (ir_nD n)) ρ
  · cases hd
def baseM1 : List (FuncId × Dn) := (35, dNear2) :: baseM
theorem baseM1_ok : AllOk baseM1 := .cons spNear2 <| baseM_ok
def rdNr : List (FuncId × Dr) := [(34, dNear1)]
theorem rdNr_ok : AllR rdNr := .cons spNear1 .nil
theorem near_w {w : Int} : IntKind.i64.wrap (1 + w % 4) = nW w := wrap_id (ir_nW w)
theorem near_c {w n : Int} : IntKind.i64.wrap (n % IntKind.i64.wrap (11 * IntKind.i64.wrap (1 + w % 4)) - IntKind.i64.wrap (2 * IntKind.i64.wrap (1 + w % 4))) = nC (nW w) n := by
  have h := nW_b w
  rw [near_w, wrap_id (z := 11 * nW w) (by unfold IR; omega), wrap_id (z := 2 * nW w) (by unfold IR; omega)]
  exact wrap_id (ir_nC w n)
theorem near_b {w : Int} : 1 ≤ IntKind.i64.wrap (1 + w % 4) ∧ IntKind.i64.wrap (1 + w % 4) ≤ 4 := by rw [near_w]; exact nW_b w
theorem ints7_sv {a b c d e f g a' b' c' d' e' f' g' : Int} {h1 : IR a} {h2 : IR b} {h3 : IR c} {h4 : IR d} {h5 : IR e} {h6 : IR f} {h7 : IR g} {i1 : IR a'} {i2 : IR b'} {i3 : IR c'} {i4 : IR d'} {i5 : IR e'} {i6 : IR f'} {i7 : IR g'} (e1 : a = a') (e2 : b = b') (e3 : c = c') (e4 : d = d') (e5 : e = e') (e6 : f = f') (e7 : g = g') (ρ : Rho) :
    (SV.agg [.int a h1, .int b h2, .int c h3, .int d h4, .int e h5, .int f h6, .int g h7]).den ρ = (SV.agg [.int a' i1, .int b' i2, .int c' i3, .int d' i4, .int e' i5, .int f' i6, .int g' i7]).den ρ := by subst e1 e2 e3 e4 e5 e6 e7; rfl
def dNearL : Dn
  | [.agg [.int rx _, .int ry _, .int rz _, .int rw _, .int d0 _, .int d1 _, .int d2 _]] =>
    some (none, .agg [.int (nC (nW rw) rx) (ir_nC rw rx), .int (nC (nW rw) ry) (ir_nC rw ry), .int (nC (nW rw) rz) (ir_nC rw rz), .int (nW rw) (ir_nW rw), .int (nD d0) (ir_nD d0), .int (nD d1) (ir_nD d1), .int (nD d2) (ir_nD d2)])
  | _ => none
set_option maxHeartbeats 4000000 in
theorem spNearL : SpOk Tryz.prog 13 dNearL := sp_of3 (un := 20) (n := 0) ⟨Tryz.func13, by kernel_rfl, by kernel_rfl⟩ baseM1_ok rdNr_ok noF_ok fun args p v hd => by
  unfold dNearL at hd
  split at hd
  · rename_i rx hrx ry hry rz hrz rw hrw d0 hd0 d1 hd1 d2 hd2
    cases hd
    refine ⟨[.agg [.int rx hrx, .int ry hry, .int rz hrz, .int rw hrw, .int d0 hd0, .int d1 hd1, .int d2 hd2]], fun _ => rfl, fun _ _ => rfl, fun _ _ => rfl, fun _ => ?_⟩
    conv => whnf
    refine ⟨⟨by decide, by decide⟩, ?_⟩
    conv => whnf
    refine ⟨near_b, ?_⟩
    conv => whnf
    refine ⟨near_b, ?_⟩
    conv => whnf
    refine ⟨near_b, ?_⟩
    conv => whnf
    exact fun ρ => ints7_sv near_c near_c near_c near_w rfl rfl rfl ρ
  · cases hd
theorem sm64_1 : Sm 64 1 := by unfold Sm; decide
theorem sm64_2 : Sm 64 2 := by unfold Sm; decide
theorem sm64_3 : Sm 64 3 := by unfold Sm; decide
def cFrac : List SV → Option SV
  | [.c (.int n _), .c (.int m _)] => if n = 1 ∧ m = 1 then some (.agg [.wid 64 1 sm64_1, .wid 64 1 sm64_1]) else if n = 3 ∧ m = 2 then some (.agg [.wid 64 3 sm64_3, .wid 64 2 sm64_2]) else none
  | _ => none
theorem fr_ex : (fracN 1 1 = 1 ∧ fracD 1 1 = 1) ∧ fracN 3 2 = 3 ∧ fracD 3 2 = 2 := by decide +kernel
theorem spFracS : SpOk Tryz.prog 31 (dOver cFrac dFrac22) := spOver spFrac22 fun args v p u h1 h2 ρ => by
  unfold cFrac at h1
  split at h1
  · split at h1
    · rename_i e
      obtain ⟨rfl, rfl⟩ := e
      cases h1; cases h2
      exact wid2_sv _ _ _ _ fr_ex.1.1 fr_ex.1.2 ρ
    · split at h1
      · rename_i e
        obtain ⟨rfl, rfl⟩ := e
        cases h1; cases h2
        exact wid2_sv _ _ _ _ fr_ex.2.1 fr_ex.2.2 ρ
      · cases h1
  · cases h1
def boxSV : SV := .tup [.agg [.wid 64 1 sm64_1, .wid 64 1 sm64_1], .agg [.wid 64 3 sm64_3, .wid 64 2 sm64_2], .c (.val (.bool true))]
def cBox : List SV → Option SV
  | [.agg [.int rx _, .int ry _, .int rz _, .int rw _, .int d0 _, .int d1 _, .int d2 _], .agg [.int x1 _, .int y1 _, .int z1 _], .agg [.int x2 _, .int y2 _, .int z2 _]] =>
    if rx = 0 ∧ ry = 0 ∧ rz = 0 ∧ rw = 1 ∧ d0 = 1 ∧ d1 = 2 ∧ d2 = 0 ∧ x1 = 1 ∧ y1 = 1 ∧ z1 = 0 ∧ x2 = 2 ∧ y2 = 3 ∧ z2 = 0 then some boxSV else none
  | _ => none
theorem box_ex : boxR ⟨0, 0, 0, 1, ⟨1, 2, 0⟩⟩ ⟨1, 1, 0⟩ ⟨2, 3, 0⟩ = some (1, mkRat 3 2) := by decide +kernel
theorem spBoxS : SpOk Tryz.prog 17 (dOver cBox dBox) := spOver spBoxY fun args v p u h1 h2 ρ => by
  unfold cBox at h1
  split at h1
  · split at h1
    · rename_i e
      obtain ⟨rfl, rfl, rfl, rfl, rfl, rfl, rfl, rfl, rfl, rfl, rfl, rfl, rfl⟩ := e
      cases h1; cases h2
      have e1 : bI ⟨0, 0, 0, 1, ⟨1, 2, 0⟩⟩ ⟨1, 1, 0⟩ ⟨2, 3, 0⟩ = 1 := by unfold bI; rw [opq_eq, box_ex]
      have e2 : bO ⟨0, 0, 0, 1, ⟨1, 2, 0⟩⟩ ⟨1, 1, 0⟩ ⟨2, 3, 0⟩ = mkRat 3 2 := by unfold bO; rw [opq_eq, box_ex]
      exact tup3_sv (wid2_agg _ _ _ _ (by rw [e1]; rfl) (by rw [e1]; rfl) ρ) (wid2_agg _ _ _ _ (by rw [e2]; decide +kernel) (by rw [e2]; decide +kernel) ρ) (by unfold bB; rw [opq_eq, box_ex]; rfl)
    · cases h1
  · cases h1
noncomputable def baseS2 : List (FuncId × Dn) := (31, dOver cFrac dFrac22) :: (33, dCrsS) :: (17, dOver cBox dBox) :: baseC
theorem baseS2_ok : AllOk baseS2 := .cons spFracS <| .cons spCrsS <| .cons spBoxS baseC_ok
def dSanity : Dn
  | [] => some (none, .c (.val (.bool true)))
  | _ => none
theorem spSanity : SpOk Tryz.prog 11 dSanity := sp_of2 (un := 20) (n := 0) ⟨Tryz.func11, by kernel_rfl, by kernel_rfl⟩ baseS2_ok noF_ok fun args p v hd => by
  unfold dSanity at hd
  split at hd
  · cases hd
    refine ⟨[], fun _ => rfl, fun _ _ => rfl, fun _ _ => rfl, fun _ => ?_⟩
    conv => whnf
    exact fun _ => rfl
  · cases hd
end Go.Proofs.YtefgchmbdijjdaaGreatDoor
