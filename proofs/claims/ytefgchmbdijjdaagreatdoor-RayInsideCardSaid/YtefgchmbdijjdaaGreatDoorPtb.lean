/- ray.Inside as a reader; Voxels' frame; the cell's closure. law 22: RayInside, by the reckoner. -/
import Derived.Test.YtefgchmbdijjdaaGreatDoorRyc
import Derived.Test.YtefgchmbdijjdaaGreatDoorPta
namespace Go.Proofs.YtefgchmbdijjdaaGreatDoor
open Go.RowKit
set_option maxRecDepth 100000

def insV (R : RI) (l : List TR) : Bool := decide (((cntK R l l.length : Nat) : Int).tmod 2 = 1)
def dIns : Dr
 | [.c (.sli _ b off len _ _), .c (.int x hx), .c (.int y hy), .c (.int z hz), .c (.int w hw)], hf => (match hf b, off with
  | some blk, 0 => (match toTrs blk.cs with
   | some l => if l.length = len ∧ l.length ≤ 1000000 then some (none, .c (.val (.bool (insV ⟨x, y, z, w, 1, 0, 0, hx, hy, hz, hw, by decide, by decide, by decide⟩ l)))) else none
   | none => none)
  | _, _ => none)
 | _, _ => none
theorem dCnt_bl {l : List TR} {nl : Bool} {b cap : Nat} {hl : SliOk nl l.length cap} {R : RI} {hf : Nat → Option Blk} {ty : TypeId} {ro : Bool} {tl : Nat} (hb : hf b = some ⟨ty, ro, trsC l, tl⟩) (hn : l.length ≤ 1000000) : dCnt [.agg (riC R), .c (.sli nl b 0 l.length cap hl)] hf = some (none, cntV R l hn) := by
 unfold dCnt riC
 simp only [hb, toTrs_trs]
 rw [dif_pos ⟨trivial, hn⟩]
abbrev rdI : List (FuncId × Dr) := [(24, dCnt)]
theorem rdI_ok : AllR rdI := .cons spCountY .nil
abbrev EI : Env := envN 0 baseC rdI fun _ => false
theorem dI0 {n0 : Nat} {args : List SV} {hf : Nat → Option Blk} {l : List TR} {nl : Bool} {b cap : Nat} {hl : SliOk nl l.length cap} {R : RI} {ty : TypeId} {ro : Bool} {tl : Nat} (ha : args = [.agg (riC R), .c (.sli nl b 0 l.length cap hl)]) (hb : hf b = some ⟨ty, ro, trsC l, tl⟩) (hn : l.length ≤ 1000000) :
  ({ T := EI.T, un := EI.un, D := EI.D, O := EI.O, n0 := n0, ord := EI.ord } : Env).D 24 args hf = some (none, cntV R l hn) := by
 subst ha
 exact dCnt_bl (nl := nl) (cap := cap) (hl := hl) hb hn
set_option maxHeartbeats 4000000 in
theorem vcIns (l : List TR) (ty : TypeId) (nl : Bool) (cap : Nat) (h1 : l.length ≤ 1000000) (hl : SliOk nl l.length cap) {x y z w : Int} (hx : IR x) (hy : IR y) (hz : IR z) (hw : IR w) : vcF EI (mix [] EI noF 0) Tryz.f27 [.c (.sli nl 0 0 l.length cap hl), .c (.int x hx), .c (.int y hy), .c (.int z hz), .c (.int w hw)] [⟨ty, true, trsC l, 0⟩] fun u _ => ∀ ρ, u.den ρ = (SV.c (.val (.bool (insV ⟨x, y, z, w, 1, 0, 0, hx, hy, hz, hw, by decide, by decide, by decide⟩ l)))).den ρ := by
 conv => whnf
 conv =>
  arg 2
  tactic' =>
   apply dI0 (hn := h1) (l := l) (b := 0) (R := ⟨x, y, z, w, 1, 0, 0, hx, hy, hz, hw, by decide, by decide, by decide⟩) (ha := ?haw13) (hb := ?hbw13)
   case haw13 => rfl
   case hbw13 => rfl
 conv => whnf
 exact fun _=>rfl
theorem spIns : SpR Tryz.prog 27 dIns := by
 refine ⟨(⟨Tryz.func27, by kernel_rfl, by kernel_rfl⟩ : FnOk Tryz.prog 27 Tryz.f27).callable, fun args hf p v hd => ?_⟩
 unfold dIns at hd
 split at hd
 ·rename_i nl b off len cap hl x hx y hy z hz ww hw
  split at hd
  ·rename_i blk hb
   split at hd
   ·rename_i l hpl
    split at hd
    ·rename_i hlen
     cases hd
     obtain ⟨rfl, h1⟩ := hlen
     have hcs := toTrs_ok hpl
     refine ⟨fun _ _=>rfl,fun _ ρ w hh => ?_⟩
     have hH := (hh b blk hb).1
     rw [hcs] at hH
     have hv := vcIns l blk.ty nl cap h1 hl hx hy hz hw
     refine read_okH (envN_ok baseC_ok rdI_ok 0 fun _ => false) mixed (mix_ok .nil (envN_ok baseC_ok rdI_ok 0 fun _ => false) mixed noF_ok 0) ⟨Tryz.func27, by kernel_rfl, by kernel_rfl⟩ (fun _ _=>rfl) (fun i c hi => ?_) (fun _ => ρ b) (fun ρ' hρ => ?_) hv w (fun i c hi => ?_)
     ·cases i with
      | zero => simp [nthO] at hi; subst hi; exact ⟨rfl, trsC_pure l⟩
      | succ i => simp [nthO] at hi
     ·have := hρ 0 rfl
      simp only [List.map_cons, List.map_nil, SV.den, C.den, C.cells, this]
     ·cases i with
      | zero => simp [nthO] at hi; subst hi; rw [trsC_pure l (fun _ => ρ b) ρ]; exact hH
      | succ i => simp [nthO] at hi
    ·cases hd
   ·cases hd
  ·cases hd
 ·cases hd
theorem dIns_ot {o : OT} {b : Nat} {x y z w : Int} {hx : IR x} {hy : IR y} {hz : IR z} {hw : IR w} {hf : Nat → Option Blk} (hb : hf b = some o.blk) (hn : o.l.length ≤ 1000000) : dIns [o.sl b, .c (.int x hx), .c (.int y hy), .c (.int z hz), .c (.int w hw)] hf = some (none, .c (.val (.bool (insV ⟨x, y, z, w, 1, 0, 0, hx, hy, hz, hw, by decide, by decide, by decide⟩ o.l)))) := by
 unfold dIns OT.sl
 simp only [hb, OT.blk, toTrs_trs]
 rw [if_pos ⟨trivial, hn⟩]
theorem ir_cell {w n : Int} (hn : IR n) : IR (cellZ w n) := by
 unfold cellZ
 split
 ·decide
 ·have := Int.natAbs_ediv_le_natAbs n (2 * w)
  unfold IR at *; omega
theorem eff_quo {T : TypeId → Option TI} {op : Op} {ev : Operand → SV} {hp : Nat → Option Blk} {t yt : TypeId} {x y : Operand} (ho : op = .binOp .quo t x y yt) {a : Int} {ha : IR a} (hx : ev x = .c (.int a ha)) {b : Int} {hb : IR b} (hy : ev y = .c (.int b hb)) {c : Int} (hb0 : b ≠ 0) (hc : IntKind.i64.wrap (a.tdiv b) = c) (hi : IR c) :
  eff T op ev hp = some (.val (.c (.int c hi))) := by
 subst ho hc
 simp only [eff, hx, hy, binS]
 rw [if_neg hb0]
 rfl
def dCell : Dr
 | [.c (.int n hn), .c (.ptr b 0)], hf => (match hf b with
  | some ⟨_, _, [.int _ _, .int _ _, .int _ _, .int w _, .int _ _, .int _ _, .int _ _], _⟩ => some (some (1 ≤ w ∧ w ≤ 4), .c (.int (cellZ w n) (ir_cell hn)))
  | _ => none)
 | _, _ => none
theorem tdiv_cell {w n : Int} (hw : 1 ≤ w ∧ w ≤ 4) (hn : ¬ n < 0) (hi : IR n) : IntKind.i64.wrap (n.tdiv (IntKind.i64.wrap (2 * w))) = cellZ w n := by
 unfold cellZ
 rw [if_neg hn, wrap_id (z := 2 * w) (by unfold IR; omega), Int.tdiv_eq_ediv_of_nonneg (by omega)]
 refine wrap_id ?_
 have := Int.natAbs_ediv_le_natAbs n (2 * w)
 unfold IR at *; omega
theorem wrap2_nz {w : Int} (hw : 1 ≤ w ∧ w ≤ 4) : IntKind.i64.wrap (2 * w) ≠ 0 := by rw [wrap_id (z := 2 * w) (by unfold IR; omega)]; omega
theorem cell_neg {w n : Int} (hn : n < 0) : (-1 : Int) = cellZ w n := by unfold cellZ; rw [if_pos hn]
theorem vcCell {n x y z w d0 d1 d2 : Int} (hn : IR n) (hx : IR x) (hy : IR y) (hz : IR z) (hw : IR w) (h0 : IR d0) (h1 : IR d1) (h2 : IR d2) (hb : 1 ≤ w ∧ w ≤ 4) (ty : TypeId) : vcF (env 20 baseC) (inl (env 20 baseC) noF 0) Tryz.f26 [.c (.int n hn), .c (.ptr 0 0)] [⟨ty, true, [.int x hx, .int y hy, .int z hz, .int w hw, .int d0 h0, .int d1 h1, .int d2 h2], 0⟩] fun u _ => ∀ ρ, u.den ρ = (SV.c (.int (cellZ w n) (ir_cell hn))).den ρ := by
 conv => whnf
 refine bcase_intro (fun h => ?_) (fun h => ?_)
 ·have h : n < 0 := of_decide_eq_true h
  conv => whnf
  exact fun ρ => sint_e (cell_neg h) ρ
 ·have h : ¬ n < 0 := of_decide_eq_false h
  conv => whnf
  conv =>
   arg 2
   tactic' =>
    apply eff_quo (hi := ir_cell hn) (ho := ?how9) (hx := ?hxw9) (hy := ?hyw9) (hb0 := ?hb0w9) (hc := ?hcw9)
    case how9 => rfl
    case hxw9 => rfl
    case hyw9 => rfl
    case hb0w9 => exact wrap2_nz hb
    case hcw9 => exact tdiv_cell hb h hn
  conv => whnf
  exact fun _=>rfl
theorem spCell : SpR Tryz.prog 26 dCell := by
 refine ⟨(⟨Tryz.func26, by kernel_rfl, by kernel_rfl⟩ : FnOk Tryz.prog 26 Tryz.f26).callable, fun args hf p v hd => ?_⟩
 unfold dCell at hd
 split at hd
 ·rename_i n hn b
  split at hd
  ·rename_i ty ro x hx y hy z hz w hw d0 h0 d1 h1 d2 h2 tl hb
   cases hd
   refine ⟨fun _ _=>rfl,fun ho ρ ww hh => ?_⟩
   have hw4 : 1 ≤ w ∧ w ≤ 4 := ho _ rfl
   have hH := (hh b _ hb).1
   refine read_ok (P := Tryz.prog) (env_ok baseC_ok 20) mixed noF_ok ⟨Tryz.func26, by kernel_rfl, by kernel_rfl⟩ (fun _ _=>rfl) (fun i c hi => ?_) (fun _ => ρ b) (fun ρ' hρ => ?_) (vcCell hn hx hy hz hw h0 h1 h2 hw4 ty) ww (fun i c hi => ?_)
   ·cases i with
    | zero => simp [nthO] at hi; subst hi; exact ⟨rfl, fun _ _=>rfl⟩
    | succ i => simp [nthO] at hi
   ·have := hρ 0 rfl
    simp only [List.map_cons, List.map_nil, SV.den, C.den, C.cells, adr, this]
   ·cases i with
    | zero => simp [nthO] at hi; subst hi; exact hH
    | succ i => simp [nthO] at hi
  ·cases hd
 ·cases hd
end Go.Proofs.YtefgchmbdijjdaaGreatDoor

namespace Go.Proofs.YtefgchmbdijjdaaGreatDoor
open Go.RowKit
set_option maxRecDepth 100000

theorem sumN_no {r : RZ} (h : permZ r = false) : ∀ l : List TR, sumN (crN' r) l = 0
 | [] => rfl
 | t :: l => by
  show nT (crN' r) t + sumN (crN' r) l = 0
  rw [sumN_no h l]
  unfold nT crN'
  rw [cross_noperm _ _ _ h]; rfl
theorem insV_eq (R : RI) (l : List TR) : insV R l = decide (sumN (crN' R.z3) l % 2 = 1) := by
 unfold insV
 rw [cnt_sum]
 refine decide_eq_decide.2 ?_
 rw [Int.tmod_eq_emod_of_nonneg (by omega)]; omega
theorem ins_want {R : RI} {B : Int} {l : List TR} (hl : l = voxL B 2 pt0 27) (hp : permZ R.z3 = true) : insV R l = wantB B R.z3 := by
 have e := inside_par hp B
 rw [← hl] at e
 rw [insV_eq, e]
 generalize wantB B R.z3 = w
 cases w <;> rfl
theorem ins_no {R : RI} (l : List TR) (hp : permZ R.z3 = false) : insV R l = false := by
 rw [insV_eq, sumN_no hp]; rfl
theorem bit_or (n : Nat) (x : BitVec 64) (h : n = (x &&& BitVec.ofInt 64 1).toNat) : n = 0 ∨ n = 1 := by
 subst h
 have e : BitVec.ofInt 64 1 = 1#64 := by decide
 rw [e, BitVec.toNat_and]
 have : (1#64).toNat = 2 ^ 1 - 1 := by decide
 rw [this, Nat.and_two_pow_sub_one_eq_mod]; omega
theorem want_bit {B i : Int} (h : 0 ≤ i ∧ i < 27) : decide (IntKind.i64.wrap (((BitVec.ofInt 64 (B.fdiv (2 ^ (min i.toNat 64))) &&& BitVec.ofInt 64 1).toNat : Nat) : Int) = 1) = bs B i.toNat := by
 unfold bs bit0
 have e : IntKind.u64.wrap (i.toNat : Int) = i := by
  unfold IntKind.wrap
  simp [IntKind.bits, IntKind.signed]
  omega
 rw [e]
 have hb := bit_or _ _ (rfl : ((BitVec.ofInt 64 (B.fdiv (2 ^ (min i.toNat 64))) &&& BitVec.ofInt 64 1).toNat : Nat) = _)
 generalize (BitVec.ofInt 64 (B.fdiv (2 ^ (min i.toNat 64))) &&& BitVec.ofInt 64 1).toNat = n at hb ⊢
 rcases hb with rfl | rfl <;> decide
theorem want_ix {x y z : Int} (hx : 0 ≤ x ∧ x < 3) (hy : 0 ≤ y ∧ y < 3) (hz : 0 ≤ z ∧ z < 3) : IntKind.i64.wrap (IntKind.i64.wrap (IntKind.i64.wrap (IntKind.i64.wrap (z * 3) + y) * 3) + x) = (z * 3 + y) * 3 + x := by
 rw [wrap_id (z := z * 3) (by unfold IR; omega), wrap_id (z := z * 3 + y) (by unfold IR; omega), wrap_id (z := (z * 3 + y) * 3) (by unfold IR; omega), wrap_id (by unfold IR; omega)]
theorem min3 {x y z : Int} : decide (0 ≤ minI (minI x y) z) = decide (0 ≤ x ∧ 0 ≤ y ∧ 0 ≤ z) := decide_eq_decide.2 (by unfold minI; split <;> split <;> omega)
theorem max3 {x y z : Int} : decide (maxI (maxI x y) z < 3) = decide (x < 3 ∧ y < 3 ∧ z < 3) := decide_eq_decide.2 (by unfold maxI; split <;> split <;> omega)
theorem want_f1 {B : Int} {r : RZ} (h : decide (0 ≤ minI (minI (cellZ r.w r.x) (cellZ r.w r.y)) (cellZ r.w r.z)) = false) : wantB B r = false := by
 rw [min3] at h
 unfold wantB
 rw [decide_eq_false (fun k => of_decide_eq_false h ⟨k.1, k.2.1, k.2.2.1⟩)]; rfl
theorem want_f2 {B : Int} {r : RZ} (h : decide (maxI (maxI (cellZ r.w r.x) (cellZ r.w r.y)) (cellZ r.w r.z) < 3) = false) : wantB B r = false := by
 rw [max3] at h
 unfold wantB
 rw [decide_eq_false (fun k => of_decide_eq_false h ⟨k.2.2.2.1, k.2.2.2.2.1, k.2.2.2.2.2⟩)]; rfl
theorem want_t {B : Int} {r : RZ} (h1 : decide (0 ≤ minI (minI (cellZ r.w r.x) (cellZ r.w r.y)) (cellZ r.w r.z)) = true) (h2 : decide (maxI (maxI (cellZ r.w r.x) (cellZ r.w r.y)) (cellZ r.w r.z) < 3) = true) :
  0 ≤ IntKind.i64.wrap (IntKind.i64.wrap (IntKind.i64.wrap (IntKind.i64.wrap (cellZ r.w r.z * 3) + cellZ r.w r.y) * 3) + cellZ r.w r.x) ∧
  decide (IntKind.i64.wrap (((BitVec.ofInt 64 (B.fdiv (2 ^ (min (IntKind.i64.wrap (IntKind.i64.wrap (IntKind.i64.wrap (IntKind.i64.wrap (cellZ r.w r.z * 3) + cellZ r.w r.y) * 3) + cellZ r.w r.x)).toNat 64))) &&& BitVec.ofInt 64 1).toNat : Nat) : Int) = 1) = wantB B r := by
 rw [min3, decide_eq_true_eq] at h1
 rw [max3, decide_eq_true_eq] at h2
 rw [want_ix ⟨h1.1, h2.1⟩ ⟨h1.2.1, h2.2.1⟩ ⟨h1.2.2, h2.2.2⟩]
 refine ⟨by omega, ?_⟩
 rw [want_bit (by omega)]
 unfold wantB
 rw [decide_eq_true ⟨h1.1, h1.2.1, h1.2.2, h2.1, h2.2.1, h2.2.2⟩]; rfl
abbrev rdIn : List (FuncId × Dr) := [(24, dCnt), (27, dIns), (26, dCell)]
theorem rdIn_ok : AllR rdIn := .cons spCountY (.cons spIns (.cons spCell .nil))
def voxI : List (FuncId × NewC) := [(25, cVoxD)]
theorem voxI_ok : AllC Tryz.prog voxI := .cons csVoxD .nil
noncomputable abbrev EIn : Env := envN 0 baseLL rdIn fun _ => false
theorem dIn0 {n0 : Nat} {args : List SV} {hf : Nat → Option Blk} {o : OT} {b : Nat} {R : RI} (ha : args = [.agg (riC R), o.sl b]) (hb : hf b = some o.blk) (hn : o.l.length ≤ 1000000) :
  ({ T := EIn.T, un := EIn.un, D := EIn.D, O := EIn.O, n0 := n0, ord := EIn.ord } : Env).D 24 args hf = some (none, cntV R o.l hn) := by
 subst ha
 exact dCnt_ot hb hn
theorem dIn1 {n0 : Nat} {args : List SV} {hf : Nat → Option Blk} {o : OT} {b : Nat} {x y z w : Int} {hx : IR x} {hy : IR y} {hz : IR z} {hw : IR w} (ha : args = [o.sl b, .c (.int x hx), .c (.int y hy), .c (.int z hz), .c (.int w hw)]) (hb : hf b = some o.blk) (hn : o.l.length ≤ 1000000) :
  ({ T := EIn.T, un := EIn.un, D := EIn.D, O := EIn.O, n0 := n0, ord := EIn.ord } : Env).D 27 args hf = some (none, .c (.val (.bool (insV ⟨x, y, z, w, 1, 0, 0, hx, hy, hz, hw, by decide, by decide, by decide⟩ o.l)))) := by
 subst ha
 exact dIns_ot hb hn
def cLawI : NewC := fun args ros K => (∃ (r : RI) (b : Int), args = [.c (.val (.int .u32 b)), .agg (riC r)] ∧ ros = []) ∧ K (.c (.val (.bool true))) []
theorem call_lawI {f : FuncId} (hf : CSp Tryz.prog f cLawI) {b : Int} (r : RI) (w : World) :
  Calls Tryz.prog f #[.int .u32 b, .agg #[.int .i64 r.x, .int .i64 r.y, .int .i64 r.z, .int .i64 r.w, .int .i64 r.a, .int .i64 r.b, .int .i64 r.c]] w fun e w' => e = .returned (.bool true) ∧ Below w.heap.size w w' := by
 refine (hf.2 [.c (.val (.int .u32 b)), .agg (riC r)] [] (fun u _ => u = .c (.val (.bool true))) ⟨⟨_, _, rfl, rfl⟩, rfl⟩ trivial trivial (fun _ => (0, 0)) w (fun i c hi => by simp [nthO] at hi)).mono ?_
 rintro e w' ⟨u, news, σ, rfl, _, hh, _, he⟩
 exact ⟨he σ (Agr.refl _ _), hh.bel⟩
theorem near_p (r : RI) : permZ (RI.mk (nearI r).x (nearI r).y (nearI r).z (nearI r).w 1 0 0 (nearI r).hx (nearI r).hy (nearI r).hz (nearI r).hw (by decide) (by decide) (by decide)).z3 = true := by
 have := nW_b r.w
 unfold permZ
 have e : decide (0 < (nearI r).w) = true := decide_eq_true (by show 0 < nW r.w; omega)
 show (decide (0 < (nearI r).w) && _) = true
 rw [e]; rfl
theorem beq_t {a b : Bool} (h : a = b) : (a == b) = true := by subst h; cases a <;> rfl
theorem nott_t {a : Bool} (h : a = false) : (!a) = true := by rw [h]; rfl
theorem near_wn (r : RI) : IntKind.i64.wrap (0 - nW r.w) ≤ 0 := by
 have := nW_b r.w
 rw [wrap_id (by unfold IR; omega)]; omega
theorem eff_shr2 {T : TypeId → Option TI} {op : Op} {ev : Operand → SV} {hp : Nat → Option Blk} {t yt : TypeId} {x y : Operand} (ho : op = .binOp .shr t x y yt) {a : Int} {ha : IR a} (hx : ev x = .c (.int a ha)) {b : Int} {ib : IR b} (hy : ev y = .c (.int b ib)) (hb : 0 ≤ b) :
  eff T op ev hp = some (.val (.c (.int (a.fdiv (2 ^ (min b.toNat 64))) (ha.fdiv _)))) := by
 subst ho
 simp only [eff, hx, hy, binS]
 rw [if_neg (by omega)]
theorem near_d {r : RI} (h : (decide ((nearI r).a = 0) && (decide ((nearI r).b = 0) && decide ((nearI r).c = 0))) = false) : permZ (nearI r).z3 = true := by
 have := nW_b r.w
 unfold permZ
 have e : decide (0 < (nearI r).w) = true := decide_eq_true (by show 0 < nW r.w; omega)
 show (decide (0 < (nearI r).w) && !(decide ((nearI r).a = 0) && (decide ((nearI r).b = 0) && decide ((nearI r).c = 0)))) = true
 rw [e, h]; rfl
set_option maxHeartbeats 16000000 in
theorem csLawIn : CSp Tryz.prog 7 cLawI := csp_of (envN_ok baseLL_ok rdIn_ok 0 fun _ => false) mixed (hnew_ok voxI_ok (inl_ok (envN_ok baseLL_ok rdIn_ok 20 fun _ => false) mixed noF_ok 0)) ⟨Tryz.func7, by kernel_rfl, by kernel_rfl⟩ fun args ros K hc => by
 obtain ⟨⟨r, b, rfl, rfl⟩, hc⟩ := hc
 refine ⟨fun ρ ρ' _ => rfl, ?_⟩
 conv => whnf
 refine ⟨fun _ _=>rfl,?_⟩
 conv => whnf
 refine ⟨trivial, ⟨_, _, _, ⟨_, _⟩, ⟨2, by decide⟩, pt0, rfl,rfl,rfl,rfl,rfl, fun o ho => ?_⟩⟩
 have hn : o.l.length ≤ 1000000 := by rw [ho]; exact Nat.le_trans (voxL_len _ _ _ 27) (by decide)
 conv => whnf
 refine ⟨nW_b r.w, ?_⟩
 conv => whnf
 refine ⟨nW_b r.w, ?_⟩
 conv => whnf
 refine ⟨nW_b r.w, ?_⟩
 conv => whnf
 have I1 : insV ⟨(nearI r).x, (nearI r).y, (nearI r).z, (nearI r).w, 1, 0, 0, (nearI r).hx, (nearI r).hy, (nearI r).hz, (nearI r).hw, by decide, by decide, by decide⟩ o.l = wantB (IntKind.i64.wrap (IntKind.u32.wrap ((BitVec.ofInt IntKind.u32.bits b &&& BitVec.ofInt IntKind.u32.bits 134217727).toNat : Nat))) (nearI r).z3 := ins_want ho (near_p r)
 have I2 : insV ⟨(nearI r).x, (nearI r).y, (nearI r).z, 0, 1, 0, 0, (nearI r).hx, (nearI r).hy, (nearI r).hz, by decide, by decide, by decide, by decide⟩ o.l = false := ins_no _ (perm_w0 (Int.le_refl 0))
 have I3 : ∀ h : IR (IntKind.i64.wrap (0 - nW r.w)), insV ⟨(nearI r).x, (nearI r).y, (nearI r).z, IntKind.i64.wrap (0 - nW r.w), 1, 0, 0, (nearI r).hx, (nearI r).hy, (nearI r).hz, h, by decide, by decide, by decide⟩ o.l = false := fun h => ins_no _ (perm_w0 (near_wn r))
 refine bcase_intro (fun h1 => ?_) (fun h1 => ?_)
 ·conv => whnf
  refine bcase_intro (fun h2 => ?_) (fun h2 => ?_)
  ·have h1 : decide (0 ≤ minI (minI (cellZ (nW r.w) (nC (nW r.w) r.x)) (cellZ (nW r.w) (nC (nW r.w) r.y))) (cellZ (nW r.w) (nC (nW r.w) r.z))) = true := h1
   have h2 : decide (maxI (maxI (cellZ (nW r.w) (nC (nW r.w) r.x)) (cellZ (nW r.w) (nC (nW r.w) r.y))) (cellZ (nW r.w) (nC (nW r.w) r.z)) < 3) = true := h2
   have hT := want_t (B := (IntKind.i64.wrap (IntKind.u32.wrap ((BitVec.ofInt IntKind.u32.bits b &&& BitVec.ofInt IntKind.u32.bits 134217727).toNat : Nat)))) (r := (nearI r).z3) h1 h2
   have hW : wantB (IntKind.i64.wrap (IntKind.u32.wrap ((BitVec.ofInt IntKind.u32.bits b &&& BitVec.ofInt IntKind.u32.bits 134217727).toNat : Nat))) (nearI r).z3 = decide (IntKind.i64.wrap (((BitVec.ofInt 64 ((IntKind.i64.wrap (IntKind.u32.wrap ((BitVec.ofInt IntKind.u32.bits b &&& BitVec.ofInt IntKind.u32.bits 134217727).toNat : Nat))).fdiv (2 ^ (min (IntKind.i64.wrap (IntKind.i64.wrap (IntKind.i64.wrap (IntKind.i64.wrap ((cellZ (nW r.w) (nC (nW r.w) r.z)) * 3) + (cellZ (nW r.w) (nC (nW r.w) r.y))) * 3) + (cellZ (nW r.w) (nC (nW r.w) r.x)))).toNat 64))) &&& BitVec.ofInt 64 1).toNat : Nat) : Int) = 1) := hT.2.symm
   conv => whnf
   conv =>
    arg 2
    tactic' =>
     apply eff_shr2 (hb := hT.1) (ho := ?how11) (hx := ?hxw11) (hy := ?hyw11)
     case how11 => rfl
     case hxw11 => rfl
     case hyw11 => rfl
   conv => whnf
   conv =>
    arg 2
    tactic' =>
     apply dIn0 (hn := hn) (o := o) (b := 1) (R := nearI r) (ha := ?haw9) (hb := ?hbw9)
     case haw9 => rfl
     case hbw9 => rfl
   conv => whnf
   conv =>
    arg 2
    tactic' =>
     apply dIn1 (hn := hn) (o := o) (b := 1) (ha := ?haw10) (hb := ?hbw10)
     case haw10 => rfl
     case hbw10 => rfl
   conv => whnf
   refine bcase_intro (fun h3 => ?_) (fun h3 => absurd (h3.symm.trans (beq_t (I1.trans hW))) (by decide))
   conv => whnf
   refine bcase_intro (fun h4 => ?_) (fun h4 => ?_)
   ·conv => whnf
    conv =>
     arg 2
     tactic' =>
      apply dIn1 (hn := hn) (o := o) (b := 1) (ha := ?haw10) (hb := ?hbw10)
      case haw10 => rfl
      case hbw10 => rfl
    conv => whnf
    refine bcase_intro (fun h5 => ?_) (fun h5 => absurd (h5.symm.trans (nott_t I2)) (by decide))
    conv => whnf
    conv =>
     arg 2
     tactic' =>
      apply dIn1 (hn := hn) (o := o) (b := 1) (ha := ?haw10) (hb := ?hbw10)
      case haw10 => rfl
      case hbw10 => rfl
    conv => whnf
    refine ⟨[], [], fun vs3 => ?_⟩
    conv => whnf
    refine ⟨_, [], rfl, trivial, trivial, _, fun ρ => ?_, hc⟩
    exact sbool_e (nott_t (I3 (IR.wrap _))) ρ
   ·have I4 : insV (nearI r) o.l = wantB (IntKind.i64.wrap (IntKind.u32.wrap ((BitVec.ofInt IntKind.u32.bits b &&& BitVec.ofInt IntKind.u32.bits 134217727).toNat : Nat))) (nearI r).z3 := ins_want ho (near_d h4)
    conv => whnf
    refine bcase_intro (fun h6 => ?_) (fun h6 => absurd (h6.symm.trans (beq_t (I4.trans hW))) (by decide))
    conv => whnf
    conv =>
     arg 2
     tactic' =>
      apply dIn1 (hn := hn) (o := o) (b := 1) (ha := ?haw10) (hb := ?hbw10)
      case haw10 => rfl
      case hbw10 => rfl
    conv => whnf
    refine bcase_intro (fun h5 => ?_) (fun h5 => absurd (h5.symm.trans (nott_t I2)) (by decide))
    conv => whnf
    conv =>
     arg 2
     tactic' =>
      apply dIn1 (hn := hn) (o := o) (b := 1) (ha := ?haw10) (hb := ?hbw10)
      case haw10 => rfl
      case hbw10 => rfl
    conv => whnf
    refine ⟨[], [], fun vs3 => ?_⟩
    conv => whnf
    refine ⟨_, [], rfl, trivial, trivial, _, fun ρ => ?_, hc⟩
    exact sbool_e (nott_t (I3 (IR.wrap _))) ρ
  ·have h2 : decide (maxI (maxI (cellZ (nW r.w) (nC (nW r.w) r.x)) (cellZ (nW r.w) (nC (nW r.w) r.y))) (cellZ (nW r.w) (nC (nW r.w) r.z)) < 3) = false := h2
   have hW : wantB (IntKind.i64.wrap (IntKind.u32.wrap ((BitVec.ofInt IntKind.u32.bits b &&& BitVec.ofInt IntKind.u32.bits 134217727).toNat : Nat))) (nearI r).z3 = false := want_f2 h2
   conv => whnf
   conv =>
    arg 2
    tactic' =>
     apply dIn0 (hn := hn) (o := o) (b := 1) (R := nearI r) (ha := ?haw9) (hb := ?hbw9)
     case haw9 => rfl
     case hbw9 => rfl
   conv => whnf
   conv =>
    arg 2
    tactic' =>
     apply dIn1 (hn := hn) (o := o) (b := 1) (ha := ?haw10) (hb := ?hbw10)
     case haw10 => rfl
     case hbw10 => rfl
   conv => whnf
   refine bcase_intro (fun h3 => ?_) (fun h3 => absurd (h3.symm.trans (beq_t (I1.trans hW))) (by decide))
   conv => whnf
   refine bcase_intro (fun h4 => ?_) (fun h4 => ?_)
   ·conv => whnf
    conv =>
     arg 2
     tactic' =>
      apply dIn1 (hn := hn) (o := o) (b := 1) (ha := ?haw10) (hb := ?hbw10)
      case haw10 => rfl
      case hbw10 => rfl
    conv => whnf
    refine bcase_intro (fun h5 => ?_) (fun h5 => absurd (h5.symm.trans (nott_t I2)) (by decide))
    conv => whnf
    conv =>
     arg 2
     tactic' =>
      apply dIn1 (hn := hn) (o := o) (b := 1) (ha := ?haw10) (hb := ?hbw10)
      case haw10 => rfl
      case hbw10 => rfl
    conv => whnf
    refine ⟨[], [], fun vs3 => ?_⟩
    conv => whnf
    refine ⟨_, [], rfl, trivial, trivial, _, fun ρ => ?_, hc⟩
    exact sbool_e (nott_t (I3 (IR.wrap _))) ρ
   ·have I4 : insV (nearI r) o.l = wantB (IntKind.i64.wrap (IntKind.u32.wrap ((BitVec.ofInt IntKind.u32.bits b &&& BitVec.ofInt IntKind.u32.bits 134217727).toNat : Nat))) (nearI r).z3 := ins_want ho (near_d h4)
    conv => whnf
    refine bcase_intro (fun h6 => ?_) (fun h6 => absurd (h6.symm.trans (beq_t (I4.trans hW))) (by decide))
    conv => whnf
    conv =>
     arg 2
     tactic' =>
      apply dIn1 (hn := hn) (o := o) (b := 1) (ha := ?haw10) (hb := ?hbw10)
      case haw10 => rfl
      case hbw10 => rfl
    conv => whnf
    refine bcase_intro (fun h5 => ?_) (fun h5 => absurd (h5.symm.trans (nott_t I2)) (by decide))
    conv => whnf
    conv =>
     arg 2
     tactic' =>
      apply dIn1 (hn := hn) (o := o) (b := 1) (ha := ?haw10) (hb := ?hbw10)
      case haw10 => rfl
      case hbw10 => rfl
    conv => whnf
    refine ⟨[], [], fun vs3 => ?_⟩
    conv => whnf
    refine ⟨_, [], rfl, trivial, trivial, _, fun ρ => ?_, hc⟩
    exact sbool_e (nott_t (I3 (IR.wrap _))) ρ
 ·have h1 : decide (0 ≤ minI (minI (cellZ (nW r.w) (nC (nW r.w) r.x)) (cellZ (nW r.w) (nC (nW r.w) r.y))) (cellZ (nW r.w) (nC (nW r.w) r.z))) = false := h1
  have hW : wantB (IntKind.i64.wrap (IntKind.u32.wrap ((BitVec.ofInt IntKind.u32.bits b &&& BitVec.ofInt IntKind.u32.bits 134217727).toNat : Nat))) (nearI r).z3 = false := want_f1 h1
  conv => whnf
  conv =>
   arg 2
   tactic' =>
    apply dIn0 (hn := hn) (o := o) (b := 1) (R := nearI r) (ha := ?haw9) (hb := ?hbw9)
    case haw9 => rfl
    case hbw9 => rfl
  conv => whnf
  conv =>
   arg 2
   tactic' =>
    apply dIn1 (hn := hn) (o := o) (b := 1) (ha := ?haw10) (hb := ?hbw10)
    case haw10 => rfl
    case hbw10 => rfl
  conv => whnf
  refine bcase_intro (fun h3 => ?_) (fun h3 => absurd (h3.symm.trans (beq_t (I1.trans hW))) (by decide))
  conv => whnf
  refine bcase_intro (fun h4 => ?_) (fun h4 => ?_)
  ·conv => whnf
   conv =>
    arg 2
    tactic' =>
     apply dIn1 (hn := hn) (o := o) (b := 1) (ha := ?haw10) (hb := ?hbw10)
     case haw10 => rfl
     case hbw10 => rfl
   conv => whnf
   refine bcase_intro (fun h5 => ?_) (fun h5 => absurd (h5.symm.trans (nott_t I2)) (by decide))
   conv => whnf
   conv =>
    arg 2
    tactic' =>
     apply dIn1 (hn := hn) (o := o) (b := 1) (ha := ?haw10) (hb := ?hbw10)
     case haw10 => rfl
     case hbw10 => rfl
   conv => whnf
   refine ⟨[], [], fun vs3 => ?_⟩
   conv => whnf
   refine ⟨_, [], rfl, trivial, trivial, _, fun ρ => ?_, hc⟩
   exact sbool_e (nott_t (I3 (IR.wrap _))) ρ
  ·have I4 : insV (nearI r) o.l = wantB (IntKind.i64.wrap (IntKind.u32.wrap ((BitVec.ofInt IntKind.u32.bits b &&& BitVec.ofInt IntKind.u32.bits 134217727).toNat : Nat))) (nearI r).z3 := ins_want ho (near_d h4)
   conv => whnf
   refine bcase_intro (fun h6 => ?_) (fun h6 => absurd (h6.symm.trans (beq_t (I4.trans hW))) (by decide))
   conv => whnf
   conv =>
    arg 2
    tactic' =>
     apply dIn1 (hn := hn) (o := o) (b := 1) (ha := ?haw10) (hb := ?hbw10)
     case haw10 => rfl
     case hbw10 => rfl
   conv => whnf
   refine bcase_intro (fun h5 => ?_) (fun h5 => absurd (h5.symm.trans (nott_t I2)) (by decide))
   conv => whnf
   conv =>
    arg 2
    tactic' =>
     apply dIn1 (hn := hn) (o := o) (b := 1) (ha := ?haw10) (hb := ?hbw10)
     case haw10 => rfl
     case hbw10 => rfl
   conv => whnf
   refine ⟨[], [], fun vs3 => ?_⟩
   conv => whnf
   refine ⟨_, [], rfl, trivial, trivial, _, fun ρ => ?_, hc⟩
   exact sbool_e (nott_t (I3 (IR.wrap _))) ρ
end Go.Proofs.YtefgchmbdijjdaaGreatDoor
