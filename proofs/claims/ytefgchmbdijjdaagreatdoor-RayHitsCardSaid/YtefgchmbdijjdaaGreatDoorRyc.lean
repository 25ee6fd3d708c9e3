/- Count and First, of ray and of the reference, by the reckoner: one value. law 22: Mod, near, sanity. law 22: laws over shapes that are known, their frame. -/
import Derived.Test.YtefgchmbdijjdaaGreatDoorRyb
import Derived.Test.YtefgchmbdijjdaaGreatDoorBas
import Derived.Test.YtefgchmbdijjdaaGreatDoorTrd
namespace Go.Proofs.YtefgchmbdijjdaaGreatDoor
open Go.RowKit
set_option maxRecDepth 100000

theorem read_okH {P : Program} {E : Env} (hE : EOk P E) (hm : P.follows .mixedOrders = true) {H : FuncId → List SV → List Blk → (SV → List Blk → Prop) → Prop} (hH : HOk P H) {f : FuncId} {fn : Func} (hf : FnOk P f fn) {args : List SV} {hp : List Blk} {v : SV} (hpure : ∀ ρ ρ', v.den ρ = v.den ρ')
  (hb : ∀ i b, nthO hp i = some b → b.ro = true ∧ PureL b.cs) (ρ : Rho) (hap : ∀ ρ', Agr (nthO hp) ρ' ρ → args.map (SV.den ρ') = args.map (SV.den ρ))
  (h : vcF E H fn args hp fun u _ => ∀ ρ, u.den ρ = v.den ρ) (w : World) (hr : ∀ i b, nthO hp i = some b → w.rangeAt (ρ i).1 (ρ i).2 (cellsL ρ b.cs)) :
  Calls P f (args.map (SV.den ρ)).toArray w fun e w' => e = .returned (v.den ρ) ∧ Below w.heap.size w w' := by
 have hh0 : HRel w.heap.size ⟨w, fun _ => False, ρ⟩ (nthO hp) ρ w := by
  refine ⟨fun i b hi _ => ?_, fun i b hi ho => ?_, fun i j b c hi ho => ?_, fun ρ' hρ i b hi => ?_, Below.refl _ _, Nat.le_refl _, fun i h => h.elim⟩
  ·rename_i hv
   have h0 : 0 < sizeC b.cs := by
    cases hc : b.cs with
    | nil =>
     unfold Blk.void at hv
     rw [hc, (hb i b hi).1] at hv
     cases hv
    | cons x l => cases x <;> simp [sizeC, C.n] <;> omega
   rw [sizeC_eq ρ] at h0
   exact block_lt_of_cell (hr i b hi 0 _ (List.getElem?_eq_getElem h0))
  ·rw [(hb i b hi).1] at ho; cases ho
  ·rw [(hb i b hi).1] at ho; cases ho
  ·obtain ⟨h1, h3⟩ := hb i b hi
   refine ⟨?_, fun ho => by rw [h1] at ho; cases ho⟩
   have h3 : cellsL ρ' b.cs = cellsL ρ b.cs := h3 ρ' ρ
   rw [hρ i (by rw [hi]; rfl), h3]
   exact hr i b hi
 refine (fn_ok hE hm hH hf h w.heap.size _ ρ w hh0 hap).mono ?_
 rintro e w' ⟨u, hp', ρ1, hu, hh', -, he⟩
 have := he ρ1 (Agr.refl _ _)
 exact ⟨by rw [this, hu ρ1, hpure ρ1 ρ], hh'.bel⟩
structure RI where
 x : Int
 y : Int
 z : Int
 w : Int
 a : Int
 b : Int
 c : Int
 hx : IR x
 hy : IR y
 hz : IR z
 hw : IR w
 ha : IR a
 hb : IR b
 hc : IR c
def riC (r : RI) : List C := [.int r.x r.hx, .int r.y r.hy, .int r.z r.hz, .int r.w r.hw, .int r.a r.ha, .int r.b r.hb, .int r.c r.hc]
def RI.z3 (r : RI) : RZ := ⟨r.x, r.y, r.z, r.w, ⟨r.a, r.b, r.c⟩⟩
def PT.v (p : PT) : V3 := ⟨p.x, p.y, p.z⟩
def crB (r : RI) (t : TR) : Bool := crossB r.z3 t.a.v t.b.v t.c.v
def crN (r : RI) (t : TR) : Int := crossN r.z3 t.a.v t.b.v t.c.v
def crD (r : RI) (t : TR) : Int := crossD r.z3 t.a.v t.b.v t.c.v
theorem sm_crN (r : RI) (t : TR) : Sm 3000 (crN r t) := sm_crossN r.hx r.hy r.hz r.hw r.ha r.hb r.hc t.a.hx t.a.hy t.a.hz t.b.hx t.b.hy t.b.hz t.c.hx t.c.hy t.c.hz
theorem sm_crD (r : RI) (t : TR) : Sm 3000 (crD r t) := sm_crossD r.hx r.hy r.hz r.hw r.ha r.hb r.hc t.a.hx t.a.hy t.a.hz t.b.hx t.b.hy t.b.hz t.c.hx t.c.hy t.c.hz
def pt0 : PT := ⟨0, 0, 0, by decide, by decide, by decide⟩
section
variable {r : RI} {l : List TR} {k : Nat} (h : k < l.length)
include h
end
section
variable {r : RI} {l : List TR} {j : Nat} (h : j < l.length)
include h
end
theorem lt_irT {nl : Bool} {k n cap : Nat} (h : SliOk nl n cap) (hk : k ≤ n) : IR k := by have := h.ir; unfold IR at *; omega
theorem pureL_trs2 (l : List TR) : PureL (trsC l) := trsC_pure l
end Go.Proofs.YtefgchmbdijjdaaGreatDoor

namespace Go.Proofs.YtefgchmbdijjdaaGreatDoor
open Go.RowKit
set_option maxRecDepth 100000

theorem ir_emod {n m : Int} (hn : IR n) (hm : IR m) : IR (n % m) := by
 by_cases h : m = 0
 ·subst h; rw [Int.emod_zero]; exact hn
 ·have h1 := Int.emod_nonneg n h
  have h2 := Int.emod_lt n h
  unfold IR at *
  omega
theorem mod_eq {n m : Int} (hn : IR n) (h : 0 < m ∧ m ≤ 1000000) : (IntKind.i64.wrap (n.tmod m + m)).tmod m = n % m := by
 have h1 : -m < n.tmod m := Int.lt_tmod_of_pos n h.1
 have h2 : n.tmod m < m := Int.tmod_lt_of_pos n h.1
 rw [wrap_id (z := n.tmod m + m) (by unfold IR; omega), Int.tmod_eq_emod_of_nonneg (by omega), Int.add_emod_right]
 have _ := hn
 rw [Int.tmod_def, Int.sub_mul_emod_self_left]
def dMod : Dn
 | [.c (.int n hn), .c (.int m hm)] => some (some (0 < m ∧ m ≤ 1000000), .c (.int (n % m) (ir_emod hn hm)))
 | _ => none
theorem spMod : SpOk Tryz.prog 12 dMod := sp_of2 (un := 20) (n := 0) ⟨Tryz.func12, by kernel_rfl, by kernel_rfl⟩ baseC_ok noF_ok fun args p v hd => by
 unfold dMod at hd
 split at hd
 ·rename_i n hn m hm
  cases hd
  refine ⟨[.c (.int n hn), .c (.int m hm)], fun _=>rfl,fun _ _=>rfl,fun _ _=>rfl,fun hpre => ?_⟩
  have hm0 : 0 < m ∧ m ≤ 1000000 := hpre _ rfl
  conv => whnf
  conv =>
   arg 2
   tactic' =>
    apply eff_rem (hi := hn.tmod m) (ho := ?how1) (hx := ?hxw1) (hy := ?hyw1) (hb0 := ?hb0w1) (hc := ?hcw1)
    case how1 => rfl
    case hxw1 => rfl
    case hyw1 => rfl
    case hb0w1 => exact (by omega)
    case hcw1 => rfl
  conv => whnf
  conv =>
   arg 2
   tactic' =>
    apply eff_rem (hi := ir_emod hn hm) (ho := ?how2) (hx := ?hxw2) (hy := ?hyw2) (hb0 := ?hb0w2) (hc := ?hcw2)
    case how2 => rfl
    case hxw2 => rfl
    case hyw2 => rfl
    case hb0w2 => exact (by omega)
    case hcw2 => exact mod_eq hn hm0
  conv => whnf
  exact fun _=>rfl
 ·cases hd
def baseM : List (FuncId × Dn) := (12, dMod) :: baseC
theorem baseM_ok : AllOk baseM := .cons spMod <| baseC_ok
def nW (w : Int) : Int := 1 + w % 4
def nC (w n : Int) : Int := n % (11 * w) - 2 * w
def nD (n : Int) : Int := n % 7 - 3
theorem nW_b (w : Int) : 1 ≤ nW w ∧ nW w ≤ 4 := by unfold nW; omega
theorem nC_b {w : Int} (hw : 1 ≤ w ∧ w ≤ 4) (n : Int) : -2 * w ≤ nC w n ∧ nC w n < 9 * w := by
 unfold nC
 have h1 := Int.emod_nonneg n (show 11 * w ≠ 0 by omega)
 have h2 := Int.emod_lt_of_pos n (show 0 < 11 * w by omega)
 omega
theorem nD_b (n : Int) : -3 ≤ nD n ∧ nD n ≤ 3 := by unfold nD; omega
theorem ir_nW (w : Int) : IR (nW w) := by have := nW_b w; unfold IR; omega
theorem ir_nC (w n : Int) : IR (nC (nW w) n) := by have h := nW_b w; have := nC_b h n; unfold IR; omega
theorem ir_nD (n : Int) : IR (nD n) := by have := nD_b n; unfold IR; omega
def nearZ (r : RZ) : RZ := ⟨nC (nW r.w) r.x, nC (nW r.w) r.y, nC (nW r.w) r.z, nW r.w, ⟨nD r.d.x, nD r.d.y, nD r.d.z⟩⟩
def dNear1 : Dr
 | [.c (.int n _), .c (.ptr b 0)], hf => (match hf b with
  | some ⟨_, _, [.int w _], _⟩ => some (some (1 ≤ w ∧ w ≤ 4), .c (.int (IntKind.i64.wrap (n % IntKind.i64.wrap (11 * w) - IntKind.i64.wrap (2 * w))) (IR.wrap _)))
  | _ => none)
 | _, _ => none
theorem vcNear1 {n w : Int} (hn : IR n) (hw : IR w) (hb : 1 ≤ w ∧ w ≤ 4) (ty : TypeId) : vcF (env 20 baseM) (inl (env 20 baseM) noF 0) Tryz.f34 [.c (.int n hn), .c (.ptr 0 0)] [⟨ty, true, [.int w hw], 0⟩] fun u _ => ∀ ρ, u.den ρ = (SV.c (.int (IntKind.i64.wrap (n % IntKind.i64.wrap (11 * w) - IntKind.i64.wrap (2 * w))) (IR.wrap _))).den ρ := by
 have h11 : 0 < IntKind.i64.wrap (11 * w) ∧ IntKind.i64.wrap (11 * w) ≤ 1000000 := by rw [wrap_id (z := 11 * w) (by unfold IR; omega)]; omega
 conv => whnf
 refine ⟨h11, ?_⟩
 conv => whnf
 exact fun _=>rfl
theorem spNear1 : SpR Tryz.prog 34 dNear1 := by
 refine ⟨(⟨Tryz.func34, by kernel_rfl, by kernel_rfl⟩ : FnOk Tryz.prog 34 Tryz.f34).callable, fun args hf p v hd => ?_⟩
 unfold dNear1 at hd
 split at hd
 ·rename_i n hn b
  split at hd
  ·rename_i ty ro w hw tl hb
   cases hd
   refine ⟨fun _ _=>rfl,fun ho ρ ww hh => ?_⟩
   have hw4 : 1 ≤ w ∧ w ≤ 4 := ho _ rfl
   have hH := (hh b _ hb).1
   refine read_ok (P := Tryz.prog) (env_ok baseM_ok 20) mixed noF_ok ⟨Tryz.func34, by kernel_rfl, by kernel_rfl⟩ (fun _ _=>rfl) (fun i c hi => ?_) (fun _ => ρ b) (fun ρ' hρ => ?_) (vcNear1 hn hw hw4 ty) ww (fun i c hi => ?_)
   ·cases i with
    | zero => simp [nthO] at hi; subst hi; exact ⟨rfl, fun _ _=>rfl⟩
    | succ i => simp [nthO] at hi
   ·have := hρ 0 rfl
    simp only [List.map_cons, List.map_nil, SV.den, C.den, C.cells, adr, this]
   ·cases i with
    | zero => simp [nthO] at hi; subst hi; exact hH
    | succ i => simp [nthO] at hi
  ·cases hd
 ·cases hd
def dNear2 : Dn
 | [.c (.int n _)] =>
  some (none, .c (.int (nD n) (ir_nD n)))
 | _ => none
theorem spNear2 : SpOk Tryz.prog 35 dNear2 := sp_of2 (un := 20) (n := 0) ⟨Tryz.func35, by kernel_rfl, by kernel_rfl⟩ baseM_ok noF_ok fun args p v hd => by
 unfold dNear2 at hd
 split at hd
 ·rename_i n hn
  cases hd
  refine ⟨[.c (.int n hn)], fun _=>rfl,fun _ _=>rfl,fun _ _=>rfl,fun _ => ?_⟩
  conv => whnf
  refine ⟨⟨by decide, by decide⟩, ?_⟩
  conv => whnf
  exact fun ρ => sint_e (wrap_id (ir_nD n)) ρ
 ·cases hd
def baseM1 : List (FuncId × Dn) := (35, dNear2) :: baseM
theorem baseM1_ok : AllOk baseM1 := .cons spNear2 <| baseM_ok
def rdNr : List (FuncId × Dr) := [(34, dNear1)]
theorem rdNr_ok : AllR rdNr := .cons spNear1 .nil
theorem near_w {w : Int} : IntKind.i64.wrap (1 + w % 4) = nW w := wrap_id (ir_nW w)
theorem near_c {w n : Int} : IntKind.i64.wrap (n % IntKind.i64.wrap (11 * IntKind.i64.wrap (1 + w % 4)) - IntKind.i64.wrap (2 * IntKind.i64.wrap (1 + w % 4))) = nC (nW w) n := by
 have h := nW_b w
 rw [near_w, wrap_id (z := 11 * nW w) (by unfold IR; omega), wrap_id (z := 2 * nW w) (by unfold IR; omega)]
 exact wrap_id (ir_nC w n)
theorem near_b {w : Int} : 1 ≤ IntKind.i64.wrap (1 + w % 4) ∧ IntKind.i64.wrap (1 + w % 4) ≤ 4 := by rw [near_w]; exact nW_b w
theorem ints7_sv {a b c d e f g a' b' c' d' e' f' g' : Int} {h1 : IR a} {h2 : IR b} {h3 : IR c} {h4 : IR d} {h5 : IR e} {h6 : IR f} {h7 : IR g} {i1 : IR a'} {i2 : IR b'} {i3 : IR c'} {i4 : IR d'} {i5 : IR e'} {i6 : IR f'} {i7 : IR g'} (e1 : a = a') (e2 : b = b') (e3 : c = c') (e4 : d = d') (e5 : e = e') (e6 : f = f') (e7 : g = g') (ρ : Rho) :
  (SV.agg [.int a h1, .int b h2, .int c h3, .int d h4, .int e h5, .int f h6, .int g h7]).den ρ = (SV.agg [.int a' i1, .int b' i2, .int c' i3, .int d' i4, .int e' i5, .int f' i6, .int g' i7]).den ρ := by subst e1 e2 e3 e4 e5 e6 e7; rfl
def dNearL : Dn
 | [.agg [.int rx _, .int ry _, .int rz _, .int rw _, .int d0 _, .int d1 _, .int d2 _]] =>
  some (none, .agg [.int (nC (nW rw) rx) (ir_nC rw rx), .int (nC (nW rw) ry) (ir_nC rw ry), .int (nC (nW rw) rz) (ir_nC rw rz), .int (nW rw) (ir_nW rw), .int (nD d0) (ir_nD d0), .int (nD d1) (ir_nD d1), .int (nD d2) (ir_nD d2)])
 | _ => none
set_option maxHeartbeats 4000000 in
theorem spNearL : SpOk Tryz.prog 13 dNearL := sp_of3 (un := 20) (n := 0) ⟨Tryz.func13, by kernel_rfl, by kernel_rfl⟩ baseM1_ok rdNr_ok noF_ok fun args p v hd => by
 unfold dNearL at hd
 split at hd
 ·rename_i rx hrx ry hry rz hrz rw hrw d0 hd0 d1 hd1 d2 hd2
  cases hd
  refine ⟨[.agg [.int rx hrx, .int ry hry, .int rz hrz, .int rw hrw, .int d0 hd0, .int d1 hd1, .int d2 hd2]], fun _=>rfl,fun _ _=>rfl,fun _ _=>rfl,fun _ => ?_⟩
  conv => whnf
  refine ⟨⟨by decide, by decide⟩, ?_⟩
  conv => whnf
  refine ⟨near_b, ?_⟩
  conv => whnf
  refine ⟨near_b, ?_⟩
  conv => whnf
  refine ⟨near_b, ?_⟩
  conv => whnf
  exact fun ρ => ints7_sv near_c near_c near_c near_w rfl rfl rfl ρ
 ·cases hd
theorem sm64_1 : Sm 64 1 := by unfold Sm; decide
theorem sm64_2 : Sm 64 2 := by unfold Sm; decide
theorem sm64_3 : Sm 64 3 := by unfold Sm; decide
def cFrac : List SV → Option SV
 | [.c (.int n _), .c (.int m _)] => if n = 1 ∧ m = 1 then some (.agg [.wid 64 1 sm64_1, .wid 64 1 sm64_1]) else if n = 3 ∧ m = 2 then some (.agg [.wid 64 3 sm64_3, .wid 64 2 sm64_2]) else none
 | _ => none
theorem fr_ex : (fracN 1 1 = 1 ∧ fracD 1 1 = 1) ∧ fracN 3 2 = 3 ∧ fracD 3 2 = 2 := by decide +kernel
theorem spFracS : SpOk Tryz.prog 31 (dOver cFrac dFrac22) := spOver spFrac22 fun args v p u h1 h2 ρ => by
 unfold cFrac at h1
 split at h1
 ·split at h1
  ·rename_i e
   obtain ⟨rfl, rfl⟩ := e
   cases h1; cases h2
   exact wid2_sv _ _ _ _ fr_ex.1.1 fr_ex.1.2 ρ
  ·split at h1
   ·rename_i e
    obtain ⟨rfl, rfl⟩ := e
    cases h1; cases h2
    exact wid2_sv _ _ _ _ fr_ex.2.1 fr_ex.2.2 ρ
   ·cases h1
 ·cases h1
def baseS2 : List (FuncId × Dn) := (31, dOver cFrac dFrac22) :: (33, dCrsS) :: (17, dBoxS0) :: baseC
theorem baseS2_ok : AllOk baseS2 := .cons spFracS <| .cons spCrsS <| .cons spBoxS0 baseC_ok
def dSanity : Dn
 | [] => some (none, .c (.val (.bool true)))
 | _ => none
theorem spSanity : SpOk Tryz.prog 11 dSanity := sp_of2 (un := 20) (n := 0) ⟨Tryz.func11, by kernel_rfl, by kernel_rfl⟩ baseS2_ok noF_ok fun args p v hd => by
 unfold dSanity at hd
 split at hd
 ·cases hd
  refine ⟨[], fun _=>rfl,fun _ _=>rfl,fun _ _=>rfl,fun _ => ?_⟩
  conv => whnf
  exact fun _=>rfl
 ·cases hd
end Go.Proofs.YtefgchmbdijjdaaGreatDoor

namespace Go.Proofs.YtefgchmbdijjdaaGreatDoor
open Go.RowKit
set_option maxRecDepth 100000

def nearI (r : RI) : RI := ⟨nC (nW r.w) r.x, nC (nW r.w) r.y, nC (nW r.w) r.z, nW r.w, nD r.a, nD r.b, nD r.c, ir_nC _ _, ir_nC _ _, ir_nC _ _, ir_nW _, ir_nD _, ir_nD _, ir_nD _⟩
theorem sm64_0 : Sm 64 0 := sm_zero 64
def baseLL : List (FuncId × Dn) := (11, dSanity) :: (13, dNearL) :: baseC
theorem baseLL_ok : AllOk baseLL := .cons spSanity <| .cons spNearL <| baseC_ok
theorem imp_viaO {S : List TR} {Z : (o : OT) → o.l = S → Prop} {G : Prop} (h : (∀ o ho, Z o ho) → G) (z : ∀ o ho, Z o ho) : G := h z
theorem shpL_len (b : Int) (L : List ZI) (len : Nat) : (shpL b L len).length ≤ 324 := by
 unfold shpL; split
 ·rw [hillsL_len]
  have h := (hM_eq (IntKind.i64.wrap (b.tmod 4))).2
  generalize hM (IntKind.i64.wrap (b.tmod 4)) = M at h
  have : 2 * M * M ≤ 2 * 6 * 6 := Nat.mul_le_mul (Nat.mul_le_mul_left 2 h) h
  omega
 ·exact voxL_len _ _ _ 27
def lawC : List (FuncId × NewC) := [(19, cShape)]
theorem lawC_ok : AllC Tryz.prog lawC := .cons csShape .nil
def okLaw (args : List SV) (ros : List Blk) : Prop := ∃ r b v ty L, args = [.agg (riC r), .c (.val (.int .u32 b)), .c v] ∧ ros = [⟨ty, true, intsC L, 0⟩] ∧ okHs v ty L
def cLaw : NewC := fun args ros K => okLaw args ros ∧ K (.c (.val (.bool true))) []
theorem call_law {f : FuncId} (hf : CSp Tryz.prog f cLaw) {b : Int} {v : C} {ty : TypeId} {L : List ZI} {a : Nat × Nat} (r : RI) (hv : okHs v ty L) (w : World) (hr : w.rangeAt a.1 a.2 (cellsL (fun _ => a) (intsC L))) :
  Calls Tryz.prog f #[.agg #[.int .i64 r.x, .int .i64 r.y, .int .i64 r.z, .int .i64 r.w, .int .i64 r.a, .int .i64 r.b, .int .i64 r.c], .int .u32 b, (SV.c v).den (fun _ => a)] w fun e w' => e = .returned (.bool true) ∧ Below w.heap.size w w' := by
 refine (hf.2 [.agg (riC r), .c (.val (.int .u32 b)), .c v] [⟨ty, true, intsC L, 0⟩] (fun u _ => u = .c (.val (.bool true))) ⟨⟨_, _, _, _, _, rfl,rfl,hv⟩, rfl⟩ ⟨rfl, trivial⟩ ⟨intsC_pure L, trivial⟩ (fun _ => a) w (fun i c hi => ?_)).mono ?_
 ·cases i with
  | zero => simp [nthO] at hi; subst hi; exact hr
  | succ i => simp [nthO] at hi
 ·rintro e w' ⟨u, news, σ, rfl, _, hh, _, he⟩
  exact ⟨he σ (Agr.refl _ _), hh.bel⟩
end Go.Proofs.YtefgchmbdijjdaaGreatDoor
