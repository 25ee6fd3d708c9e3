/- Count and First, of ray and of the reference, by the reckoner: one value. law 22: Mod, near, sanity. law 22: laws over shapes that are known, their frame. -/
import Derived.Test.YtocbklodkcdhkaaGreatDoorRyb
import Derived.Test.YtocbklodkcdhkaaGreatDoorBas
import Derived.Test.YtocbklodkcdhkaaGreatDoorTrd
namespace Go.Proofs.YtocbklodkcdhkaaGreatDoor
open Go.RowKit
set_option maxRecDepth 100000

theorem read_okH {P : Program} {E : Env} (hE : EOk P E) (hm : P.follows .mixedOrders = true) {H : FuncId → List SV → List Blk → (SV → List Blk → Prop) → Prop} (hH : HOk P H) {f : FuncId} {fn : Func} (hf : FnOk P f fn) {args : List SV} {hp : List Blk} {v : SV} (hpure : ∀ ρ ρ', v.den ρ = v.den ρ')
  (hb : ∀ i b, nthO hp i = some b → b.ro = true ∧ PureL b.cs) (ρ : Rho) (hap : ∀ ρ', Agr (nthO hp) ρ' ρ → args.map (SV.den ρ') = args.map (SV.den ρ))
  (h : vcF E H fn args hp fun u _ => ∀ ρ, u.den ρ = v.den ρ) (w : World) (hr : ∀ i b, nthO hp i = some b → w.rangeAt (ρ i).1 (ρ i).2 (cellsL ρ b.cs)) :
  Calls P f (args.map (SV.den ρ)).toArray w fun e w' => e = .returned (v.den ρ) ∧ Below w.heap.size w w' := by
 have hh0 : HRel w.heap.size ⟨w, fun _ => False, ρ, 0⟩ (nthO hp) ρ w := by
  refine ⟨fun i b hi _ => ?_, fun i b hi ho => ?_, fun i j b c hi ho => ?_, fun ρ' hρ i b hi => ?_, BelO.refl _ _, Nat.le_refl _, fun i h => h.elim⟩
  ·rename_i hv
   have h0 : 0 < sizeC b.cs := by
    cases hc : b.cs with
    | nil =>
     unfold Blk.void at hv
     rw [hc, (hb i b hi).1] at hv
     cases hv
    | cons x l => cases x <;> simp [sizeC, C.n] <;> omega
   rw [sizeC_eq ρ] at h0
   exact block_lt_of_cell (hr i b hi 0 _ (List.getElem?_eq_getElem h0))
  ·rw [(hb i b hi).1] at ho; cases ho
  ·rw [(hb i b hi).1] at ho; cases ho
  ·obtain ⟨h1, h3⟩ := hb i b hi
   refine ⟨?_, fun ho => by rw [h1] at ho; cases ho⟩
   have h3 : cellsL ρ' b.cs = cellsL ρ b.cs := h3 ρ' ρ
   rw [hρ i (by rw [hi]; rfl), h3]
   exact hr i b hi
 refine (fn_ok hE hm hH hf h w.heap.size _ ρ w hh0 hap).mono ?_
 rintro e w' ⟨u, hp', ρ1, hu, hh', -, he⟩
 have := he ρ1 (Agr.refl _ _)
 exact ⟨by rw [this, hu ρ1, hpure ρ1 ρ], hh'.bel.below⟩
def Best (c : Nat → Bool) (q : Nat → Rat) (m n : Nat) (s : Option Nat) : Prop := match s with
 | none => ∀ j, m ≤ j → j < n → c j = false
 | some i => m ≤ i ∧ i < n ∧ c i = true ∧ ∀ j, m ≤ j → j < n → c j = true → q i < q j ∨ q i = q j ∧ i ≤ j
def fwd (c : Nat → Bool) (q : Nat → Rat) : Nat → Option Nat
 | 0 => none
 | k + 1 => if c k = true then (match fwd c q k with | none => some k | some i => if q k < q i then some k else some i) else fwd c q k
theorem fwd_best (c : Nat → Bool) (q : Nat → Rat) : ∀ n, Best c q 0 n (fwd c q n)
 | 0 => fun j _ h => absurd h (Nat.not_lt_zero j)
 | n + 1 => by
  have ih := fwd_best c q n
  unfold fwd
  split
  ·rename_i hc
   split
   ·rename_i hs
    rw [hs] at ih
    refine ⟨Nat.zero_le _, Nat.lt_succ_self n, hc, fun j _ hj hcj => ?_⟩
    by_cases h : j = n
    ·subst h; exact .inr ⟨rfl, Nat.le_refl _⟩
    ·have := ih j (Nat.zero_le _) (by omega); rw [hcj] at this; cases this
   ·rename_i i hs
    rw [hs] at ih
    obtain ⟨-, h2, h3, h4⟩ := ih
    split
    ·rename_i hq
     refine ⟨Nat.zero_le _, Nat.lt_succ_self n, hc, fun j _ hj hcj => ?_⟩
     by_cases h : j = n
     ·subst h; exact .inr ⟨rfl, Nat.le_refl _⟩
     ·rcases h4 j (Nat.zero_le _) (by omega) hcj with h5 | ⟨h5, _⟩
      ·exact .inl (by grind)
      ·exact .inl (by grind)
    ·rename_i hq
     refine ⟨Nat.zero_le _, by omega, h3, fun j _ hj hcj => ?_⟩
     by_cases h : j = n
     ·subst h
      by_cases he : q i = q j
      ·exact .inr ⟨he, by omega⟩
      ·exact .inl (by grind)
     ·exact h4 j (Nat.zero_le _) (by omega) hcj
  ·rename_i hc
   have hc : c n = false := by simpa using hc
   cases hs : fwd c q n with
   | none =>
    rw [hs] at ih
    intro j _ hj
    by_cases h : j = n
    ·subst h; exact hc
    ·exact ih j (Nat.zero_le _) (by omega)
   | some i =>
    rw [hs] at ih
    obtain ⟨-, h2, h3, h4⟩ := ih
    refine ⟨Nat.zero_le _, by omega, h3, fun j _ hj hcj => ?_⟩
    by_cases h : j = n
    ·subst h; rw [hc] at hcj; cases hcj
    ·exact h4 j (Nat.zero_le _) (by omega) hcj
structure RI where
 x : Int
 y : Int
 z : Int
 w : Int
 a : Int
 b : Int
 c : Int
 hx : IR x
 hy : IR y
 hz : IR z
 hw : IR w
 ha : IR a
 hb : IR b
 hc : IR c
def riC (r : RI) : List C := [.int r.x r.hx, .int r.y r.hy, .int r.z r.hz, .int r.w r.hw, .int r.a r.ha, .int r.b r.hb, .int r.c r.hc]
def RI.z3 (r : RI) : RZ := ⟨r.x, r.y, r.z, r.w, ⟨r.a, r.b, r.c⟩⟩
def PT.v (p : PT) : V3 := ⟨p.x, p.y, p.z⟩
def crB (r : RI) (t : TR) : Bool := crossB r.z3 t.a.v t.b.v t.c.v
def crN (r : RI) (t : TR) : Int := crossN r.z3 t.a.v t.b.v t.c.v
def crD (r : RI) (t : TR) : Int := crossD r.z3 t.a.v t.b.v t.c.v
theorem sm_crN (r : RI) (t : TR) : Sm 3000 (crN r t) := sm_crossN r.hx r.hy r.hz r.hw r.ha r.hb r.hc t.a.hx t.a.hy t.a.hz t.b.hx t.b.hy t.b.hz t.c.hx t.c.hy t.c.hz
theorem sm_crD (r : RI) (t : TR) : Sm 3000 (crD r t) := sm_crossD r.hx r.hy r.hz r.hw r.ha r.hb r.hc t.a.hx t.a.hy t.a.hz t.b.hx t.b.hy t.b.hz t.c.hx t.c.hy t.c.hz
def pt0 : PT := ⟨0, 0, 0, by decide, by decide, by decide⟩
def tAt (l : List TR) (i : Nat) : TR := (l[i]?).getD ⟨pt0, pt0, pt0⟩
theorem tAt_eq {l : List TR} {i : Nat} (h : i < l.length) : tAt l i = l[i] := by unfold tAt; rw [List.getElem?_eq_getElem h]; rfl
def cAt (r : RI) (l : List TR) (i : Nat) : Bool := crB r (tAt l i)
def qAt (r : RI) (l : List TR) (i : Nat) : Rat := ratOf (crN r (tAt l i)) (crD r (tAt l i))
def cntK (r : RI) (l : List TR) : Nat → Nat
 | 0 => 0
 | k + 1 => cntK r l k + (if cAt r l k = true then 1 else 0)
theorem cntK_s (r : RI) (l : List TR) (k : Nat) : cntK r l (k + 1) = cntK r l k + (if cAt r l k = true then 1 else 0) := rfl
theorem cntK_le (r : RI) (l : List TR) : ∀ k, cntK r l k ≤ k
 | 0 => Nat.le_refl _
 | k + 1 => by have := cntK_le r l k; unfold cntK; split <;> omega
theorem ir_cnt (r : RI) (l : List TR) {k : Nat} (h : k ≤ 1000000) : IR (cntK r l k : Nat) := by have := cntK_le r l k; unfold IR; omega
def hN (r : RI) (l : List TR) : Option Nat → Int
 | none => 0
 | some i => crN r (tAt l i)
def hD (r : RI) (l : List TR) : Option Nat → Int
 | none => 1
 | some i => crD r (tAt l i)
def hK : Option Nat → Int
 | none => 0
 | some i => ((min i 1000000 : Nat) : Int)
theorem sm_hN (r : RI) (l : List TR) (s : Option Nat) : Sm 3000 (hN r l s) := by
 cases s with
 | none => exact sm_zero 3000
 | some i => exact sm_crN r _
theorem sm_hD (r : RI) (l : List TR) (s : Option Nat) : Sm 3000 (hD r l s) := by
 cases s with
 | none => have : Sm 1 1 := (by unfold Sm; decide); exact this.mono (by decide)
 | some i => exact sm_crD r _
theorem ir_hK (s : Option Nat) : IR (hK s) := by
 cases s with
 | none => decide
 | some i => show IR ((min i 1000000 : Nat) : Int); unfold IR; omega
def hitC (r : RI) (l : List TR) (s : Option Nat) : List C := [.wid 3000 (hN r l s) (sm_hN r l s), .wid 3000 (hD r l s) (sm_hD r l s), .int (hK s) (ir_hK s)]
theorem cr_at {r : RI} {l : List TR} {k : Nat} (h : k < l.length) : crB r l[k] = cAt r l k ∧ crN r l[k] = hN r l (some k) ∧ crD r l[k] = hD r l (some k) := by
 refine ⟨?_, ?_, ?_⟩
 ·unfold cAt; rw [tAt_eq h]
 ·show _ = crN r (tAt l k); rw [tAt_eq h]
 ·show _ = crD r (tAt l k); rw [tAt_eq h]
theorem cnt_y {r : RI} {l : List TR} {k : Nat} (h : k < l.length) (hc : crB r l[k] = true) (hk : k ≤ 1000000) : IntKind.i64.wrap ((cntK r l k : Nat) + 1) = ((cntK r l (k + 1) : Nat) : Int) := by
 rw [(cr_at h).1] at hc
 have := cntK_le r l k
 rw [cntK_s, if_pos hc, wrap_id (by unfold IR; omega)]
 omega
theorem cnt_n {r : RI} {l : List TR} {k : Nat} (h : k < l.length) (hc : crB r l[k] = false) : ((cntK r l k : Nat) : Int) = ((cntK r l (k + 1) : Nat) : Int) := by
 rw [(cr_at h).1] at hc
 rw [cntK_s, hc]; rfl
section
variable {r : RI} {l : List TR} {k : Nat} (h : k < l.length)
include h
end
section
variable {r : RI} {l : List TR} {j : Nat} (h : j < l.length)
include h
end
theorem lt_irT {nl : Bool} {k n cap : Nat} (h : SliOk nl n cap) (hk : k ≤ n) : IR k := by have := h.ir; unfold IR at *; omega
theorem pureL_trs2 (l : List TR) : PureL (trsC l) := trsC_pure l
def frstS (r : RI) (l : List TR) : Option Nat := fwd (cAt r l) (qAt r l) l.length
def frstV (r : RI) (l : List TR) : SV := .tup [.agg (hitC r l (frstS r l)), .c (.val (.bool (frstS r l).isSome))]
def cntV (r : RI) (l : List TR) (h : l.length ≤ 1000000) : SV := .c (.int (cntK r l l.length : Nat) (ir_cnt r l h))
set_option maxHeartbeats 16000000 in
theorem vcCountY (r : RI) (l : List TR) (ty : TypeId) (nl : Bool) (cap : Nat) (h1 : l.length ≤ 1000000) (hl : SliOk nl l.length cap) : vcF (envN 0 baseC [] fun _ => false) (mix [] (envN 0 baseC [] fun _ => false) noF 0) Tryz.f10 [.agg (riC r), .c (.sli nl 0 0 l.length cap hl)] [⟨ty, true, trsC l, 0⟩] fun u _ => ∀ ρ, u.den ρ = (cntV r l h1).den ρ := by
 conv => whnf
 refine loop_st (G := {k : Nat // k ≤ l.length} × (Nat → Value)) (fun g => (.c (.val (g.2 0)) :: .c (.val (g.2 1)) :: .c (.ptr 1 0) :: .c (.val (g.2 3)) :: .c (.val (g.2 4)) :: .c (.int (cntK r l g.1.1 : Nat) (ir_cnt r l (Nat.le_trans g.1.2 h1))) :: .c (.val (g.2 6)) :: .c (.val (g.2 7)) :: .c (.val (g.2 8)) :: .c (.val (g.2 9)) :: .c (.sli nl 0 0 l.length cap hl) :: .c (.int (l.length : Nat) hl.ir) :: .c (.int (g.1.1 : Nat) (lt_irT hl g.1.2)) :: .c (.val (g.2 13)) :: .c (.val (g.2 14)) :: .c (.val (g.2 15)) :: .c (.val (g.2 16)) :: .c (.val (g.2 17)) :: .c (.val (g.2 18)) :: .c (.val (g.2 19)) :: .c (.val (g.2 20)) :: .c (.val (g.2 21)) :: .c (.val (g.2 22)) :: .c (.val (g.2 23)) :: .c (.val (g.2 24)) :: .c (.val (g.2 25)) :: .c (.val (g.2 26)) :: [])) (fun g => [⟨ty, true, trsC l, 0⟩, ⟨24, false, riC r, 0⟩]) (fun g => l.length - g.1.1) ?_ ?_
 ·refine ⟨[0,1], [2,5,10,11,12], [0,1], fun vs => ?_⟩
  conv => whnf
  refine ⟨pureL_trs2 l, fun _ _=>rfl,?_⟩
  conv => whnf
  refine ⟨_, _, ?_, ?_, (⟨0, Nat.zero_le _⟩, vs), rfl, rfl⟩
  ·exact stm _
  ·exact ⟨⟨rfl,rfl,rfl, fun _=>rfl⟩, ⟨rfl,rfl,rfl, fun _=>rfl⟩, trivial⟩
 ·rintro ⟨⟨k, hk⟩, vs⟩
  conv => whnf
  refine bcase_intro (fun hlt => ?_) (fun hlt => ?_)
  ·have hlt : k < l.length := n_lt hlt
   conv => whnf
   conv =>
    arg 2
    tactic' =>
     apply eff_index_sli (ho := ?how1) (hT := ?hTw1) (hx := ?hxw1) (hk := ?hkw1) (hlt := ?hltw1)
     case how1 => rfl
     case hTw1 => rfl
     case hxw1 => rfl
     case hkw1 => rfl
     case hltw1 => exact hlt
   conv => whnf
   conv =>
    arg 2
    tactic' =>
     apply eff_load_sub (ho := ?how2) (hT := ?hTw2) (hx := ?hxw2) (hb := ?hbw2) (hm := ?hmw2) (hv := ?hvw2)
     case how2 => rfl
     case hTw2 => rfl
     case hxw2 => rfl
     case hbw2 => rfl
     case hmw2 => exact (by rw [Nat.zero_add]; exact subC_trs l hlt : subC (trsC l) (0 + k * 9) 9 = some (trC l[k]))
     case hvw2 => rfl
   conv => whnf
   refine bcase_intro (fun hc => ?_) (fun hc => ?_)
   ·have hc : crB r l[k] = true := hc
    conv => whnf
    refine ⟨[0,1], [2,5,10,11,12], [0,1], fun vs2 => ?_⟩
    conv => whnf
    refine ⟨pureL_trs2 l, fun _ _=>rfl,?_⟩
    conv => whnf
    refine ⟨_, _, ?_, ?_, (⟨k + 1, hlt⟩, vs2), (by omega : l.length - (k + 1) < l.length - k), rfl, rfl⟩
    ·exact ⟨fun _=>rfl,fun _=>rfl,fun _=>rfl,fun _=>rfl,fun _=>rfl,fun ρ => sint_e (cnt_y hlt hc (Nat.le_trans hk h1)) ρ, fun _=>rfl,fun _=>rfl,fun _=>rfl,fun _=>rfl,fun _=>rfl,fun _=>rfl,fun ρ => sint_e (wrap_add1 hlt hl.ir) ρ, stm _⟩
    ·exact ⟨⟨rfl,rfl,rfl, fun _=>rfl⟩, ⟨rfl,rfl,rfl, fun _=>rfl⟩, trivial⟩
   ·have hc : crB r l[k] = false := hc
    conv => whnf
    refine ⟨[0,1], [2,5,10,11,12], [0,1], fun vs2 => ?_⟩
    conv => whnf
    refine ⟨pureL_trs2 l, fun _ _=>rfl,?_⟩
    conv => whnf
    refine ⟨_, _, ?_, ?_, (⟨k + 1, hlt⟩, vs2), (by omega : l.length - (k + 1) < l.length - k), rfl, rfl⟩
    ·exact ⟨fun _=>rfl,fun _=>rfl,fun _=>rfl,fun _=>rfl,fun _=>rfl,fun ρ => sint_e (cnt_n hlt hc) ρ, fun _=>rfl,fun _=>rfl,fun _=>rfl,fun _=>rfl,fun _=>rfl,fun _=>rfl,fun ρ => sint_e (wrap_add1 hlt hl.ir) ρ, stm _⟩
    ·exact ⟨⟨rfl,rfl,rfl, fun _=>rfl⟩, ⟨rfl,rfl,rfl, fun _=>rfl⟩, trivial⟩
  ·have e : k = l.length := Nat.le_antisymm hk (n_ge hlt)
   subst e
   conv => whnf
   exact fun ρ => rfl
def dCnt : Dr
 | [.agg [.int rx hrx, .int ry hry, .int rz hrz, .int rw hrw, .int d0 hd0, .int d1 hd1, .int d2 hd2], .c (.sli _ b off len _ _)], hf => (match hf b, off with
  | some blk, 0 => (match toTrs blk.cs with
   | some l => if h : l.length = len ∧ l.length ≤ 1000000 then some (none, cntV ⟨rx, ry, rz, rw, d0, d1, d2, hrx, hry, hrz, hrw, hd0, hd1, hd2⟩ l h.2) else none
   | none => none)
  | _, _ => none)
 | _, _ => none
theorem spCountY : SpR Tryz.prog 10 dCnt := by
 refine ⟨(⟨Tryz.func10, by kernel_rfl, by kernel_rfl⟩ : FnOk Tryz.prog 10 Tryz.f10).callable, fun args hf p v hd => ?_⟩
 unfold dCnt at hd
 split at hd
 ·rename_i rx hrx ry hry rz hrz rw hrw d0 hd0 d1 hd1 d2 hd2 nl b off len cap hl
  split at hd
  ·rename_i blk hb
   split at hd
   ·rename_i l hpl
    split at hd
    ·rename_i hlen
     cases hd
     obtain ⟨rfl, h1⟩ := hlen
     have hcs := toTrs_ok hpl
     refine ⟨fun _ _=>rfl,fun _ ρ w hh => ?_⟩
     have hH := (hh b blk hb).1
     rw [hcs] at hH
     have hv := vcCountY ⟨rx, ry, rz, rw, d0, d1, d2, hrx, hry, hrz, hrw, hd0, hd1, hd2⟩ l blk.ty nl cap h1 hl
     refine read_okH (envN_ok baseC_ok .nil 0 fun _ => false) mixed (mix_ok .nil (envN_ok baseC_ok .nil 0 fun _ => false) mixed noF_ok 0) ⟨Tryz.func10, by kernel_rfl, by kernel_rfl⟩ (fun _ _=>rfl) (fun i c hi => ?_) (fun _ => ρ b) (fun ρ' hρ => ?_) hv w (fun i c hi => ?_)
     ·cases i with
      | zero => simp [nthO] at hi; subst hi; exact ⟨rfl, trsC_pure l⟩
      | succ i => simp [nthO] at hi
     ·have := hρ 0 rfl
      simp only [List.map_cons, List.map_nil, SV.den, C.den, C.cells, this]
      rfl
     ·cases i with
      | zero => simp [nthO] at hi; subst hi; rw [trsC_pure l (fun _ => ρ b) ρ]; exact hH
      | succ i => simp [nthO] at hi
    ·cases hd
   ·cases hd
  ·cases hd
 ·cases hd
end Go.Proofs.YtocbklodkcdhkaaGreatDoor

namespace Go.Proofs.YtocbklodkcdhkaaGreatDoor
open Go.RowKit
set_option maxRecDepth 100000

theorem ir_emod {n m : Int} (hn : IR n) (hm : IR m) : IR (n % m) := by
 by_cases h : m = 0
 ·subst h; rw [Int.emod_zero]; exact hn
 ·have h1 := Int.emod_nonneg n h
  have h2 := Int.emod_lt n h
  unfold IR at *
  omega
theorem mod_eq {n m : Int} (hn : IR n) (h : 0 < m ∧ m ≤ 1000000) : (IntKind.i64.wrap (n.tmod m + m)).tmod m = n % m := by
 have h1 : -m < n.tmod m := Int.lt_tmod_of_pos n h.1
 have h2 : n.tmod m < m := Int.tmod_lt_of_pos n h.1
 rw [wrap_id (z := n.tmod m + m) (by unfold IR; omega), Int.tmod_eq_emod_of_nonneg (by omega), Int.add_emod_right]
 have _ := hn
 rw [Int.tmod_def, Int.sub_mul_emod_self_left]
def dMod : Dn
 | [.c (.int n hn), .c (.int m hm)] => some (some (0 < m ∧ m ≤ 1000000), .c (.int (n % m) (ir_emod hn hm)))
 | _ => none
theorem spMod : SpOk Tryz.prog 8 dMod := sp_of2 (un := 20) (n := 0) ⟨Tryz.func8, by kernel_rfl, by kernel_rfl⟩ baseC_ok noF_ok fun args p v hd => by
 unfold dMod at hd
 split at hd
 ·rename_i n hn m hm
  cases hd
  refine ⟨[.c (.int n hn), .c (.int m hm)], fun _=>rfl,fun _ _=>rfl,fun _ _=>rfl,fun hpre => ?_⟩
  have hm0 : 0 < m ∧ m ≤ 1000000 := hpre _ rfl
  conv => whnf
  conv =>
   arg 2
   tactic' =>
    apply eff_rem (hi := hn.tmod m) (ho := ?how1) (hx := ?hxw1) (hy := ?hyw1) (hb0 := ?hb0w1) (hc := ?hcw1)
    case how1 => rfl
    case hxw1 => rfl
    case hyw1 => rfl
    case hb0w1 => exact (by omega)
    case hcw1 => rfl
  conv => whnf
  conv =>
   arg 2
   tactic' =>
    apply eff_rem (hi := ir_emod hn hm) (ho := ?how2) (hx := ?hxw2) (hy := ?hyw2) (hb0 := ?hb0w2) (hc := ?hcw2)
    case how2 => rfl
    case hxw2 => rfl
    case hyw2 => rfl
    case hb0w2 => exact (by omega)
    case hcw2 => exact mod_eq hn hm0
  conv => whnf
  exact fun _=>rfl
 ·cases hd
def baseM : List (FuncId × Dn) := (8, dMod) :: baseC
theorem baseM_ok : AllOk baseM := .cons spMod <| baseC_ok
def nW (w : Int) : Int := 1 + w % 4
def nC (w n : Int) : Int := n % (11 * w) - 2 * w
def nD (n : Int) : Int := n % 7 - 3
theorem nW_b (w : Int) : 1 ≤ nW w ∧ nW w ≤ 4 := by unfold nW; omega
theorem nC_b {w : Int} (hw : 1 ≤ w ∧ w ≤ 4) (n : Int) : -2 * w ≤ nC w n ∧ nC w n < 9 * w := by
 unfold nC
 have h1 := Int.emod_nonneg n (show 11 * w ≠ 0 by omega)
 have h2 := Int.emod_lt_of_pos n (show 0 < 11 * w by omega)
 omega
theorem nD_b (n : Int) : -3 ≤ nD n ∧ nD n ≤ 3 := by unfold nD; omega
theorem ir_nW (w : Int) : IR (nW w) := by have := nW_b w; unfold IR; omega
theorem ir_nC (w n : Int) : IR (nC (nW w) n) := by have h := nW_b w; have := nC_b h n; unfold IR; omega
theorem ir_nD (n : Int) : IR (nD n) := by have := nD_b n; unfold IR; omega
def dNear1 : Dr
 | [.c (.int n _), .c (.ptr b 0)], hf => (match hf b with
  | some ⟨_, _, [.int w _], _⟩ => some (some (1 ≤ w ∧ w ≤ 4), .c (.int (IntKind.i64.wrap (n % IntKind.i64.wrap (11 * w) - IntKind.i64.wrap (2 * w))) (IR.wrap _)))
  | _ => none)
 | _, _ => none
theorem vcNear1 {n w : Int} (hn : IR n) (hw : IR w) (hb : 1 ≤ w ∧ w ≤ 4) (ty : TypeId) : vcF (env 20 baseM) (inl (env 20 baseM) noF 0) Tryz.f18 [.c (.int n hn), .c (.ptr 0 0)] [⟨ty, true, [.int w hw], 0⟩] fun u _ => ∀ ρ, u.den ρ = (SV.c (.int (IntKind.i64.wrap (n % IntKind.i64.wrap (11 * w) - IntKind.i64.wrap (2 * w))) (IR.wrap _))).den ρ := by
 have h11 : 0 < IntKind.i64.wrap (11 * w) ∧ IntKind.i64.wrap (11 * w) ≤ 1000000 := by rw [wrap_id (z := 11 * w) (by unfold IR; omega)]; omega
 conv => whnf
 refine ⟨h11, ?_⟩
 conv => whnf
 exact fun _=>rfl
theorem spNear1 : SpR Tryz.prog 18 dNear1 := by
 refine ⟨(⟨Tryz.func18, by kernel_rfl, by kernel_rfl⟩ : FnOk Tryz.prog 18 Tryz.f18).callable, fun args hf p v hd => ?_⟩
 unfold dNear1 at hd
 split at hd
 ·rename_i n hn b
  split at hd
  ·rename_i ty ro w hw tl hb
   cases hd
   refine ⟨fun _ _=>rfl,fun ho ρ ww hh => ?_⟩
   have hw4 : 1 ≤ w ∧ w ≤ 4 := ho _ rfl
   have hH := (hh b _ hb).1
   refine read_ok (P := Tryz.prog) (env_ok baseM_ok 20) mixed noF_ok ⟨Tryz.func18, by kernel_rfl, by kernel_rfl⟩ (fun _ _=>rfl) (fun i c hi => ?_) (fun _ => ρ b) (fun ρ' hρ => ?_) (vcNear1 hn hw hw4 ty) ww (fun i c hi => ?_)
   ·cases i with
    | zero => simp [nthO] at hi; subst hi; exact ⟨rfl, fun _ _=>rfl⟩
    | succ i => simp [nthO] at hi
   ·have := hρ 0 rfl
    simp only [List.map_cons, List.map_nil, SV.den, C.den, C.cells, adr, this]
   ·cases i with
    | zero => simp [nthO] at hi; subst hi; exact hH
    | succ i => simp [nthO] at hi
  ·cases hd
 ·cases hd
def dNear2 : Dn
 | [.c (.int n _)] =>
  some (none, .c (.int (nD n) (ir_nD n)))
 | _ => none
theorem spNear2 : SpOk Tryz.prog 19 dNear2 := sp_of2 (un := 20) (n := 0) ⟨Tryz.func19, by kernel_rfl, by kernel_rfl⟩ baseM_ok noF_ok fun args p v hd => by
 unfold dNear2 at hd
 split at hd
 ·rename_i n hn
  cases hd
  refine ⟨[.c (.int n hn)], fun _=>rfl,fun _ _=>rfl,fun _ _=>rfl,fun _ => ?_⟩
  conv => whnf
  refine ⟨⟨by decide, by decide⟩, ?_⟩
  conv => whnf
  exact fun ρ => sint_e (wrap_id (ir_nD n)) ρ
 ·cases hd
def baseM1 : List (FuncId × Dn) := (19, dNear2) :: baseM
theorem baseM1_ok : AllOk baseM1 := .cons spNear2 <| baseM_ok
def rdNr : List (FuncId × Dr) := [(18, dNear1)]
theorem rdNr_ok : AllR rdNr := .cons spNear1 .nil
theorem near_w {w : Int} : IntKind.i64.wrap (1 + w % 4) = nW w := wrap_id (ir_nW w)
theorem near_c {w n : Int} : IntKind.i64.wrap (n % IntKind.i64.wrap (11 * IntKind.i64.wrap (1 + w % 4)) - IntKind.i64.wrap (2 * IntKind.i64.wrap (1 + w % 4))) = nC (nW w) n := by
 have h := nW_b w
 rw [near_w, wrap_id (z := 11 * nW w) (by unfold IR; omega), wrap_id (z := 2 * nW w) (by unfold IR; omega)]
 exact wrap_id (ir_nC w n)
theorem near_b {w : Int} : 1 ≤ IntKind.i64.wrap (1 + w % 4) ∧ IntKind.i64.wrap (1 + w % 4) ≤ 4 := by rw [near_w]; exact nW_b w
theorem ints7_sv {a b c d e f g a' b' c' d' e' f' g' : Int} {h1 : IR a} {h2 : IR b} {h3 : IR c} {h4 : IR d} {h5 : IR e} {h6 : IR f} {h7 : IR g} {i1 : IR a'} {i2 : IR b'} {i3 : IR c'} {i4 : IR d'} {i5 : IR e'} {i6 : IR f'} {i7 : IR g'} (e1 : a = a') (e2 : b = b') (e3 : c = c') (e4 : d = d') (e5 : e = e') (e6 : f = f') (e7 : g = g') (ρ : Rho) :
  (SV.agg [.int a h1, .int b h2, .int c h3, .int d h4, .int e h5, .int f h6, .int g h7]).den ρ = (SV.agg [.int a' i1, .int b' i2, .int c' i3, .int d' i4, .int e' i5, .int f' i6, .int g' i7]).den ρ := by subst e1 e2 e3 e4 e5 e6 e7; rfl
def dNearL : Dn
 | [.agg [.int rx _, .int ry _, .int rz _, .int rw _, .int d0 _, .int d1 _, .int d2 _]] =>
  some (none, .agg [.int (nC (nW rw) rx) (ir_nC rw rx), .int (nC (nW rw) ry) (ir_nC rw ry), .int (nC (nW rw) rz) (ir_nC rw rz), .int (nW rw) (ir_nW rw), .int (nD d0) (ir_nD d0), .int (nD d1) (ir_nD d1), .int (nD d2) (ir_nD d2)])
 | _ => none
set_option maxHeartbeats 4000000 in
theorem spNearL : SpOk Tryz.prog 9 dNearL := sp_of3 (un := 20) (n := 0) ⟨Tryz.func9, by kernel_rfl, by kernel_rfl⟩ baseM1_ok rdNr_ok noF_ok fun args p v hd => by
 unfold dNearL at hd
 split at hd
 ·rename_i rx hrx ry hry rz hrz rw hrw d0 hd0 d1 hd1 d2 hd2
  cases hd
  refine ⟨[.agg [.int rx hrx, .int ry hry, .int rz hrz, .int rw hrw, .int d0 hd0, .int d1 hd1, .int d2 hd2]], fun _=>rfl,fun _ _=>rfl,fun _ _=>rfl,fun _ => ?_⟩
  conv => whnf
  refine ⟨⟨by decide, by decide⟩, ?_⟩
  conv => whnf
  refine ⟨near_b, ?_⟩
  conv => whnf
  refine ⟨near_b, ?_⟩
  conv => whnf
  refine ⟨near_b, ?_⟩
  conv => whnf
  exact fun ρ => ints7_sv near_c near_c near_c near_w rfl rfl rfl ρ
 ·cases hd
theorem sm64_1 : Sm 64 1 := by unfold Sm; decide
theorem sm64_2 : Sm 64 2 := by unfold Sm; decide
theorem sm64_3 : Sm 64 3 := by unfold Sm; decide
def cFrac : List SV → Option SV
 | [.c (.int n _), .c (.int m _)] => if n = 1 ∧ m = 1 then some (.agg [.wid 64 1 sm64_1, .wid 64 1 sm64_1]) else if n = 3 ∧ m = 2 then some (.agg [.wid 64 3 sm64_3, .wid 64 2 sm64_2]) else none
 | _ => none
theorem fr_ex : (fracN 1 1 = 1 ∧ fracD 1 1 = 1) ∧ fracN 3 2 = 3 ∧ fracD 3 2 = 2 := by decide +kernel
theorem spFracS : SpOk Tryz.prog 13 (dOver cFrac dFrac22) := spOver spFrac22 fun args v p u h1 h2 ρ => by
 unfold cFrac at h1
 split at h1
 ·split at h1
  ·rename_i e
   obtain ⟨rfl, rfl⟩ := e
   cases h1; cases h2
   exact wid2_sv _ _ _ _ fr_ex.1.1 fr_ex.1.2 ρ
  ·split at h1
   ·rename_i e
    obtain ⟨rfl, rfl⟩ := e
    cases h1; cases h2
    exact wid2_sv _ _ _ _ fr_ex.2.1 fr_ex.2.2 ρ
   ·cases h1
 ·cases h1
def baseS2 : List (FuncId × Dn) := (13, dOver cFrac dFrac22) :: (12, dCrsS) :: (11, dBoxS0) :: baseC
theorem baseS2_ok : AllOk baseS2 := .cons spFracS <| .cons spCrsS <| .cons spBoxS0 baseC_ok
def dSanity : Dn
 | [] => some (none, .c (.val (.bool true)))
 | _ => none
theorem spSanity : SpOk Tryz.prog 4 dSanity := sp_of2 (un := 20) (n := 0) ⟨Tryz.func4, by kernel_rfl, by kernel_rfl⟩ baseS2_ok noF_ok fun args p v hd => by
 unfold dSanity at hd
 split at hd
 ·cases hd
  refine ⟨[], fun _=>rfl,fun _ _=>rfl,fun _ _=>rfl,fun _ => ?_⟩
  conv => whnf
  exact fun _=>rfl
 ·cases hd
end Go.Proofs.YtocbklodkcdhkaaGreatDoor

namespace Go.Proofs.YtocbklodkcdhkaaGreatDoor
open Go.RowKit
set_option maxRecDepth 100000

def nearI (r : RI) : RI := ⟨nC (nW r.w) r.x, nC (nW r.w) r.y, nC (nW r.w) r.z, nW r.w, nD r.a, nD r.b, nD r.c, ir_nC _ _, ir_nC _ _, ir_nC _ _, ir_nW _, ir_nD _, ir_nD _, ir_nD _⟩
def dFst0 : Dn
 | [.agg [.int rx hrx, .int ry hry, .int rz hrz, .int rw hrw, .int d0 hd0, .int d1 hd1, .int d2 hd2], .c (.val (.slice none 0 0))] => some (none, frstV ⟨rx, ry, rz, rw, d0, d1, d2, hrx, hry, hrz, hrw, hd0, hd1, hd2⟩ [])
 | _ => none
theorem sm64_0 : Sm 64 0 := sm_zero 64
def cFr01 : List SV → Option SV
 | [.c (.int n _), .c (.int m _)] => if n = 0 ∧ m = 1 then some (.agg [.wid 64 0 sm64_0, .wid 64 1 sm64_1]) else none
 | _ => none
theorem spFr01 : SpOk Tryz.prog 13 (dOver cFr01 dFrac22) := spOver spFrac22 fun args v p u h1 h2 ρ => by
 unfold cFr01 at h1
 split at h1
 ·split at h1
  ·rename_i e
   obtain ⟨rfl, rfl⟩ := e
   cases h1; cases h2
   exact wid2_sv _ _ _ _ fr01.1 fr01.2 ρ
  ·cases h1
 ·cases h1
def baseLL : List (FuncId × Dn) := (4, dSanity) :: (9, dNearL) :: (13, dOver cFr01 dFrac22) :: baseC
theorem baseLL_ok : AllOk baseLL := .cons spSanity <| .cons spNearL <| .cons spFr01 <| baseC_ok
theorem shpL_len (b : Int) (L : List ZI) (len : Nat) : (shpL b L len).length ≤ 324 := by
 unfold shpL; split
 ·rw [hillsL_len]
  have h := (hM_eq (IntKind.i64.wrap (b.tmod 4))).2
  generalize hM (IntKind.i64.wrap (b.tmod 4)) = M at h
  have : 2 * M * M ≤ 2 * 6 * 6 := Nat.mul_le_mul (Nat.mul_le_mul_left 2 h) h
  omega
 ·exact voxL_len _ _ _ 27
end Go.Proofs.YtocbklodkcdhkaaGreatDoor
