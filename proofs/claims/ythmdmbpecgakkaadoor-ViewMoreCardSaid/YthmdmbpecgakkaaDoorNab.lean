/- Words of natural numbers, by the reckoner: abs. Words of natural numbers, by the reckoner: less; contracts beside functions walked in place. Numbers as arguments, canonical or not, for the reckoner. -/
import Derived.Test.YthmdmbpecgakkaaDoorNaa
import Derived.Test.YthmdmbpecgakkaaDoorWka
import Derived.Test.YthmdmbpecgakkaaDoorEno
import Derived.Test.YthmdmbpecgakkaaDoorWkb
namespace Go.Proofs.YthmdmbpecgakkaaDoor
open Go.RowKit
set_option maxRecDepth 100000

theorem csp_of2 {P : Program} {E : Env} (hE : EOk P E) (hm : P.follows .mixedOrders = true) {H : FuncId → List SV → List Blk → (SV → List Blk → Prop) → Prop} (hH : HOk P H) {f : FuncId} {fn : Func} (hf : FnOk P f fn) {c : NewC}
  (h : ∀ args ros K, c args ros K → ∃ args' : List SV, (∀ ρ, args.map (SV.den ρ) = args'.map (SV.den ρ)) ∧ (∀ ρ ρ', (∀ i, i < ros.length → ρ i = ρ' i) → args'.map (SV.den ρ) = args'.map (SV.den ρ')) ∧ vcF E H fn args' ros (outK ros K)) : CSp P f c := by
 refine ⟨hf.callable, fun args ros K hc hro hpure ρ w hr => ?_⟩
 obtain ⟨args', h1, h2, h3⟩ := h args ros K hc
 rw [h1 ρ]
 exact (csp_of hE hm hH hf (c := fun a r k => a = args' ∧ r = ros ∧ k = K) (fun a r k hk => by obtain ⟨rfl,rfl,rfl⟩ := hk; exact ⟨h2, h3⟩)).2 args' ros K ⟨rfl,rfl,rfl⟩ hro hpure ρ w hr
theorem eff_len_str {T : TypeId → Option TI} {op : Op} {ev : Operand → SV} {hp : Nat → Option Blk} {c : Call} (ho : op = .call c) (hc : c.callee = .builtin .len) {x : Operand} {t : TypeId} (ha : c.args.toList = [x]) (ht : c.argTypes.toList = [t]) {sz : Nat} {ag : Bool} {z : List C} {eq : Option (List K)}
  (hT : T t = some ⟨sz, ag, z, .string, eq⟩) {s : ByteArray} (hx : ev x = .c (.val (.string s))) (h : IR s.size) : eff T op ev hp = some (.val (.c (.int s.size h))) := by
 subst ho
 simp only [eff, hc, ha, ht, hT, hx]
 rw [dif_pos h]
theorem eff_index_str {T : TypeId → Option TI} {op : Op} {ev : Operand → SV} {hp : Nat → Option Blk} {t : TypeId} {x i : Operand} (ho : op = .index t x i) {sz : Nat} {ag : Bool} {z : List C} {eq : Option (List K)} (hT : T t = some ⟨sz, ag, z, .string, eq⟩)
  {s : ByteArray} (hx : ev x = .c (.val (.string s))) {k : Nat} {hi : IR k} (hk : ev i = .c (.int k hi)) (hlt : k < s.size) : eff T op ev hp = some (.val (.c (.val (.int .u8 ((s.data[k]?.getD 0).toNat))))) := by
 subst ho
 simp only [eff, hT, hx, hk]
 show (if k < s.size then _ else _) = _
 rw [if_pos hlt]
def NumA (x : List C) (b : Bool) (s : ByteArray) : Prop := ∀ ρ, cellsL ρ x = [.bool b, .string s]
theorem NumA.wid {k : Nat} {z : Int} {h : Sm k z} : NumA [.wid k z h] (decide (z < 0)) ⟨(mag z.natAbs).toArray⟩ := fun _=>rfl
theorem NumA.raw {b : Bool} {s : ByteArray} : NumA [.val (.bool b), .val (.string s)] b s := fun _=>rfl
theorem NumA.den {x : List C} {b : Bool} {s : ByteArray} (h : NumA x b s) (ρ : Rho) : (SV.agg x).den ρ = (SV.agg [.val (.bool b), .val (.string s)]).den ρ := by
 simp only [SV.den, h ρ]; rfl
def cAbs : NewC := fun args ros K => ∃ x b s, args = [.agg x] ∧ ros = [] ∧ NumA x b s ∧ s.size ≤ 300000000 ∧ ∀ o : OW, o.l = dig WB (mval s.data.toList) → K (o.sl 0) [o.blk]
theorem abs_make {n : Nat} (h : n ≤ 300000000) : IntKind.i64.wrap ((IntKind.i64.wrap (IntKind.i64.wrap ((n : Int) + 4) - 1)).tdiv 4) = (((n + 3) / 4 : Nat) : Int) := by
 rw [wrap_id (z := (n : Int) + 4) (by unfold IR; omega), wrap_id (z := (n : Int) + 4 - 1) (by unfold IR; omega), Int.tdiv_eq_ediv_of_nonneg (by omega), wrap_id (by unfold IR; omega)]; omega
theorem abs_k {n i : Nat} (h : n ≤ 300000000) (hi : i < n) : IntKind.i64.wrap (IntKind.i64.wrap ((n : Int) - 1) - (i : Int)) = ((n - 1 - i : Nat) : Int) := by
 rw [wrap_id (z := (n : Int) - 1) (by unfold IR; omega), wrap_id (by unfold IR; omega)]; omega
theorem abs_q {z : Int} {k : Nat} (e : z = k) (h : k ≤ 300000000) : IntKind.i64.wrap (z.tdiv 4) = ((k / 4 : Nat) : Int) := by
 subst e
 rw [Int.tdiv_eq_ediv_of_nonneg (by omega), wrap_id (by unfold IR; omega)]; omega
theorem abs_m {z : Int} {k : Nat} (e : z = k) : IntKind.i64.wrap (8 * z.tmod 4) = ((8 * (k % 4) : Nat) : Int) := by
 subst e
 rw [Int.tmod_eq_emod_of_nonneg (by omega), wrap_id (by unfold IR; omega)]; omega
theorem u8_u64 (b : UInt8) : IntKind.u64.wrap (b.toNat : Int) = (b.toNat : Int) := u64_nat rfl (by have := UInt8.toNat_lt b; omega)
def AbsI (s : ByteArray) (lo : List Nat) (i : Nat) : Prop := lo.length = (s.size + 3) / 4 ∧ Dl WB lo ∧ val WB lo = 256 ^ (s.size - i) * mval (s.data.toList.take i)
def sb (s : ByteArray) (i : Nat) : UInt8 := s.data[i]?.getD 0
theorem sb_get {s : ByteArray} {i : Nat} (h : i < s.size) : s.data.toList[i]? = some (sb s i) := by
 have h2 : i < s.data.size := h
 unfold sb
 rw [Array.getElem?_toList, Array.getElem?_eq_getElem h2]; rfl
theorem AbsI.step {s : ByteArray} {lo : List Nat} {i : Nat} (h : AbsI s lo i) (hi : i < s.size) {hk : (s.size - 1 - i) / 4 < lo.length} : AbsI s (lo.set ((s.size - 1 - i) / 4) (lo[(s.size - 1 - i) / 4] ||| (sb s i).toNat * 2 ^ (8 * ((s.size - 1 - i) % 4)))) (i + 1) ∧ (sb s i).toNat * 2 ^ (8 * ((s.size - 1 - i) % 4)) < 4294967296 ∧ lo[(s.size - 1 - i) / 4] < 4294967296 := by
 obtain ⟨h1, h2, h3⟩ := h
 have := abs_step' (n := s.size) h2 (by rw [Array.length_toList]; rfl) (sb_get hi) hk h3
 rw [getD_get hk] at this
 exact ⟨⟨by rw [List.length_set]; exact h1, h2.set _ this.1, this.2⟩, byte_shl_lt (UInt8.toNat_lt _) (by omega), h2.get _ hk⟩
theorem irle {k n : Nat} (h : IR (n : Int)) (hk : k ≤ n) : IR (k : Int) := by unfold IR at *; omega
set_option maxHeartbeats 8000000 in
theorem csAbs : CSp Tryd.prog 41 cAbs := csp_of2 (envM_ok 0) mixed (hnew_ok normC_ok (inl_ok (envM_ok 0) mixed noF_ok 0)) ⟨Tryd.func41, by kernel_rfl, by kernel_rfl⟩ fun args ros K hc => by
 obtain ⟨x, b, s, rfl,rfl,hx, hss, hc⟩ := hc
 have hsz : IR (s.size : Int) := by unfold IR; omega
 refine ⟨[.agg [.val (.bool b), .val (.string s)]], fun ρ => by show [(SV.agg x).den ρ] = _; rw [hx.den ρ]; rfl, fun _ _ _ => rfl, ?_⟩
 conv => whnf
 conv =>
  arg 2
  tactic' =>
   apply eff_len_str (ho := ?how1) (hc := ?hcw1) (ha := ?haw1) (ht := ?htw1) (hT := ?hTw1) (hx := ?hxw1) (h := ?hw1)
   case how1 => rfl
   case hcw1 => rfl
   case haw1 => rfl
   case htw1 => rfl
   case hTw1 => rfl
   case hxw1 => rfl
   case hw1 => exact hsz
 conv => whnf
 refine ⟨rfl, ((s.size + 3) / 4), ((s.size + 3) / 4), abs_make hss, abs_make hss, Nat.le_refl _, by omega, fun h2 => ?_⟩
 conv => whnf
 conv =>
  arg 2
  tactic' =>
   apply eff_len_str (ho := ?how1) (hc := ?hcw1) (ha := ?haw1) (ht := ?htw1) (hT := ?hTw1) (hx := ?hxw1) (h := ?hw1)
   case how1 => rfl
   case hcw1 => rfl
   case haw1 => rfl
   case htw1 => rfl
   case hTw1 => rfl
   case hxw1 => rfl
   case hw1 => exact hsz
 conv => whnf
 refine loop_st (G := {g : Nat × List Nat × (Nat → Value) // g.1 ≤ s.size ∧ AbsI s g.2.1 g.1}) (fun g => [.c (.val (g.1.2.2 0)), .c (.ptr 0 0), .c (.val (g.1.2.2 2)), .c (.sli false 1 0 ((s.size + 3) / 4) ((s.size + 3) / 4) h2), .c (.val (g.1.2.2 4)), .c (.val (g.1.2.2 5)), .c (.val (g.1.2.2 6)), .c (.val (g.1.2.2 7)), .c (.val (g.1.2.2 8)), .c (.val (g.1.2.2 9)), .c (.val (g.1.2.2 10)), .c (.val (g.1.2.2 11)), .c (.val (g.1.2.2 12)), .c (.val (g.1.2.2 13)), .c (.val (g.1.2.2 14)), .c (.int (s.size : Nat) hsz), .c (.int (g.1.1 : Nat) (irle hsz g.2.1)), .c (.val (g.1.2.2 17)), .c (.val (g.1.2.2 18)), .c (.val (g.1.2.2 19)), .c (.val (g.1.2.2 20)), .c (.val (g.1.2.2 21)), .c (.val (g.1.2.2 22)), .c (.val (g.1.2.2 23)), .c (.val (g.1.2.2 24)), .c (.val (g.1.2.2 25)), .c (.val (g.1.2.2 26)), .c (.val (g.1.2.2 27)), .c (.val (g.1.2.2 28)), .c (.val (g.1.2.2 29)), .c (.val (g.1.2.2 30)), .c (.val (g.1.2.2 31)), .c (.val (g.1.2.2 32)), .c (.val (g.1.2.2 33)), .c (.val (g.1.2.2 34)), .c (.val (g.1.2.2 35)), .c (.val (g.1.2.2 36)), .c (.val (g.1.2.2 37)), .c (.val (g.1.2.2 38)), .c (.val (g.1.2.2 39)), .c (.val (g.1.2.2 40)), .c (.val (g.1.2.2 41)), .c (.val (g.1.2.2 42)), .c (.val (g.1.2.2 43))]) (fun g => [⟨48, false, [.val (.bool b), .val (.string s)], 0⟩, ⟨96, false, wsC g.1.2.1, 0⟩]) (fun g => s.size - g.1.1) ?_ ?_
 ·refine ⟨[0,1], [1,3,15,16], [0,1], fun vs => ?_⟩
  conv => whnf
  refine ⟨fun _ _=>rfl,rep_pure _, ?_⟩
  conv => whnf
  refine ⟨_, _, ?_, ?_, ⟨(0, List.replicate ((s.size + 3) / 4) 0, vs), Nat.zero_le _, List.length_replicate, Dl.replicate WB_pos _, by simp [val_replicate, mval, val]⟩, rfl, rfl⟩
  ·exact ⟨fun _=>rfl,fun _=>rfl,fun _=>rfl,fun _=>rfl,fun _=>rfl,fun _=>rfl,fun _=>rfl,fun _=>rfl,fun _=>rfl,fun _=>rfl,fun _=>rfl,fun _=>rfl,stm _⟩
  ·exact ⟨⟨rfl,rfl,rfl, fun _=>rfl⟩, ⟨rfl,rfl,Nat.sub_self _, fun ρ => by rw [← wsC_rep]; rfl⟩, trivial⟩
 ·rintro ⟨⟨i, lo, vs⟩, hi, hs⟩
  have hi : i ≤ s.size := hi
  have hs : AbsI s lo i := hs
  conv => whnf
  refine bcase_intro (fun hlt => ?_) (fun hlt => ?_)
  ·have hlt : i < s.size := n_lt hlt
   have hj : (s.size - 1 - i) / 4 < lo.length := by have := hs.1; omega
   have hj2 : (s.size - 1 - i) / 4 < (s.size + 3) / 4 := by omega
   have hjr : IR (((s.size - 1 - i) / 4 : Nat) : Int) := by unfold IR; omega
   have ek := abs_k hss hlt
   have eq := abs_q ek (by omega)
   obtain ⟨hs2, hw1, hw2⟩ := hs.step hlt (hk := hj)
   have eo := or_natE (y := ((lo[(s.size - 1 - i) / 4]'hj) : Int)) (n := (sb s i).toNat * 2 ^ (8 * ((s.size - 1 - i) % 4))) rfl rfl (by omega) (by omega)
   conv => whnf
   conv =>
    arg 2
    tactic' =>
     apply eff_len_str (ho := ?how1) (hc := ?hcw1) (ha := ?haw1) (ht := ?htw1) (hT := ?hTw1) (hx := ?hxw1) (h := ?hw1)
     case how1 => rfl
     case hcw1 => rfl
     case haw1 => rfl
     case htw1 => rfl
     case hTw1 => rfl
     case hxw1 => rfl
     case hw1 => exact hsz
   conv => whnf
   conv =>
    arg 2
    tactic' =>
     apply eff_index_sli (hi := hjr) (ho := ?how2) (hT := ?hTw2) (hx := ?hxw2) (hk := ?hkw2) (hlt := ?hltw2)
     case how2 => rfl
     case hTw2 => rfl
     case hxw2 => rfl
     case hkw2 => exact cint eq hjr
     case hltw2 => exact hj2
   conv => whnf
   conv =>
    arg 2
    tactic' =>
     apply eff_load_sub (m := [wC (lo[(s.size - 1 - i) / 4]'hj)]) (ho := ?how3) (hT := ?hTw3) (hx := ?hxw3) (hb := ?hbw3) (hm := ?hmw3) (hv := ?hvw3)
     case how3 => rfl
     case hTw3 => rfl
     case hxw3 => rfl
     case hbw3 => rfl
     case hmw3 => exact (WAt.get (l := lo) ⟨wsC_pure lo, [], [], by rw [List.append_nil]; rfl, rfl⟩ hj)
     case hvw3 => rfl
   conv => whnf
   conv =>
    arg 2
    tactic' =>
     apply eff_index_str (hi := irle hsz hi) (ho := ?how4) (hT := ?hTw4) (hx := ?hxw4) (hk := ?hkw4) (hlt := ?hltw4)
     case how4 => rfl
     case hTw4 => rfl
     case hxw4 => rfl
     case hkw4 => rfl
     case hltw4 => exact hlt
   conv => whnf
   conv =>
    arg 2
    tactic' =>
     apply eff_bini (v := .int .u64 (((sb s i).toNat * 2 ^ (8 * ((s.size - 1 - i) % 4)) : Nat) : Int)) (ho := ?how5) (hx := ?hxw5) (hy := ?hyw5) (hb := ?hbw5)
     case how5 => rfl
     case hxw5 => rfl
     case hyw5 => rfl
     case hbw5 => exact shl_pure (u8_u64 _) (abs_m ek) (by omega) (by omega)
   conv => whnf
   conv =>
    arg 2
    tactic' =>
     apply eff_index_sli (hi := hjr) (ho := ?how6) (hT := ?hTw6) (hx := ?hxw6) (hk := ?hkw6) (hlt := ?hltw6)
     case how6 => rfl
     case hTw6 => rfl
     case hxw6 => rfl
     case hkw6 => exact cint eq hjr
     case hltw6 => exact hj2
   conv => whnf
   conv =>
    arg 2
    tactic' =>
     apply eff_store_at (l := [wC (((lo[(s.size - 1 - i) / 4]'hj) ||| (sb s i).toNat * 2 ^ (8 * ((s.size - 1 - i) % 4))))]) (cs := wsC (lo.set ((s.size - 1 - i) / 4) ((lo[(s.size - 1 - i) / 4]'hj) ||| (sb s i).toNat * 2 ^ (8 * ((s.size - 1 - i) % 4))))) (ho := ?how7) (hT := ?hTw7) (hx := ?hxw7) (hy := ?hyw7) (hl := ?hlw7) (hb := ?hbw7) (hro := ?hrow7) (hs := ?hsw7)
     case how7 => rfl
     case hTw7 => rfl
     case hxw7 => rfl
     case hyw7 => exact congrArg (fun z => some [C.val (.int .u64 z)]) eo
     case hlw7 => exact ⟨rfl, rfl⟩
     case hbw7 => rfl
     case hrow7 => rfl
     case hsw7 => exact splice_ws hj _
   conv => whnf
   rw [forceL_eq]
   conv => whnf
   refine ⟨[0,1], [1,3,15,16], [0,1], fun vs2 => ?_⟩
   conv => whnf
   refine ⟨fun _ _=>rfl,wsC_pure _, ?_⟩
   conv => whnf
   refine ⟨_, _, ?_, ?_, ⟨(i + 1, lo.set ((s.size - 1 - i) / 4) ((lo[(s.size - 1 - i) / 4]'hj) ||| (sb s i).toNat * 2 ^ (8 * ((s.size - 1 - i) % 4))), vs2), hlt, hs2⟩, (by omega : s.size - (i + 1) < s.size - i), rfl, rfl⟩
   ·exact ⟨fun _=>rfl,fun _=>rfl,fun _=>rfl,fun _=>rfl,fun _=>rfl,fun _=>rfl,fun _=>rfl,fun _=>rfl,fun _=>rfl,fun _=>rfl,fun _=>rfl,fun _=>rfl,fun _=>rfl,fun _=>rfl,fun _=>rfl,fun _=>rfl,sint_eq (wrap_add1 hlt hsz) _ _, stm _⟩
   ·exact ⟨⟨rfl,rfl,rfl, fun _=>rfl⟩, ⟨rfl,rfl,rfl, fun _=>rfl⟩, trivial⟩
  ·have hke : i = s.size := Nat.le_antisymm hi (n_ge hlt)
   subst hke
   have hv : val WB lo = mval s.data.toList := by
    have := hs.2.2
    rw [Nat.sub_self, Nat.pow_zero, Nat.one_mul, List.take_of_length_le (by rw [Array.length_toList]; exact Nat.le_refl _)] at this
    exact this
   conv => whnf
   refine ⟨⟨wsC_pure _, trivial⟩, ⟨_, _, _, _, _, _, _, lo, rfl,rfl,hs.1, ⟨wsC_pure _, [], [], by rw [List.append_nil]; rfl, rfl⟩, fun h3 => ?_⟩⟩
   conv => whnf
   refine ⟨[1], [0], fun vs9 => ?_⟩
   conv => whnf
   refine ⟨wsC_pure _, ?_⟩
   conv => whnf
   refine ⟨_, [(OW.ofNorm lo ((s.size + 3) / 4) h3 (Nat.le_of_eq hs.1)).blk], rfl, ⟨⟨rfl,rfl,?_, fun ρ => ?_⟩, trivial⟩, ⟨OW.new _, trivial⟩, _, fun ρ => OW.ofNorm_sl 0 ρ, hc _ ?_⟩
   ·rw [OW.ofNorm_blk]; have := hs.1; show 0 = ((s.size + 3) / 4) - lo.length; omega
   ·rw [OW.ofNorm_blk]
   ·rw [OW.ofNorm_l hs.2.1, hv]
end Go.Proofs.YthmdmbpecgakkaaDoor

namespace Go.Proofs.YthmdmbpecgakkaaDoor
open Go.RowKit
set_option maxRecDepth 100000

def argsF : List SV → (List SV → Prop) → Prop
 | [], K => K []
 | x :: l, K => x.force fun x => argsF l fun l => K (x :: l)
theorem argsF_eq : ∀ (l : List SV) (K : List SV → Prop), argsF l K = K l
 | [], _ => rfl
 | x :: l, K => by unfold argsF; rw [SV.force_eq, argsF_eq l]
def mix (l : List (FuncId × NewC)) (E : Env) (F : FuncId → Option Func) : Nat → FuncId → List SV → List Blk → (SV → List Blk → Prop) → Prop
 | 0 => hnew l fun _ _ _ _ => False
 | n + 1 => hnew l fun f args hp K => (match F f with | some fn => argsF args fun args => vcF E (mix l E F n) fn args hp K | none => False)
theorem mix_ok {P : Program} {l : List (FuncId × NewC)} (hl : AllC P l) {E : Env} (hE : EOk P E) (hm : P.follows .mixedOrders = true) {F : FuncId → Option Func} (hF : ∀ f fn, F f = some fn → FnOk P f fn) : ∀ n, HOk P (mix l E F n)
 | 0 => hnew_ok hl fun f args hp K h => h.elim
 | n + 1 => hnew_ok hl fun f args hp K h => by
  split at h
  ·rename_i fn hfn
   rw [argsF_eq] at h
   exact ⟨(hF f fn hfn).callable, fun N w0 ρ0 w hh hargs => fn_ok hE hm (mix_ok hl hE hm hF n) (hF f fn hfn) h N w0 ρ0 w hh hargs⟩
  ·exact h.elim
def envA (un : Nat) : Env where
 T := tyT
 un := un
 D := fun _ _ _ => none
 O := oAll tyT
theorem envA_ok (un : Nat) : EOk Tryd.prog (envA un) where
 T := tyT_ok
 D f args hf p v h := by cases h
 O := oAll_ok tyT_ok
def lessC : List (FuncId × NewC) := [(65, cNorm), (42, cMul), (50, cCmp), (51, cSub)]
theorem lessC_ok : AllC Tryd.prog lessC := .cons csNorm <| .cons csMul <| .cons csCmp <| .cons csSub .nil
def cLess : NewC := fun args ros K => ∃ offa lena capa ha tya csa lw nlb offb lenb capb hb tyb csb lb, ∃ d : Nat, args = [.c (.sli false 0 offa lena capa ha), .c (.sli nlb 1 offb lenb capb hb), .c (wC d)] ∧ ros = [⟨tya, true, csa, 0⟩, ⟨tyb, true, csb, 0⟩] ∧
 lw.length = lenb + 1 ∧ lenb + 1 ≤ lena ∧ lb.length = lenb ∧ WAt csa offa lw ∧ WAt csb offb lb ∧ Dl WB lw ∧ Dl WB lb ∧ lenb ≤ 90000000 ∧ d < 4294967296 ∧ K (.c (.val (.bool (decide (val WB lw < val WB lb * d))))) []
theorem WAt.all {cs : List C} {off : Nat} {l : List Nat} (h : WAt cs off l) {n : Nat} (hn : n = l.length) : subC cs off (n * 1) = some (wsC l) := by
 obtain ⟨_, A, B, rfl, rfl⟩ := h
 rw [Nat.mul_one, hn, ← wsC_size l]
 exact subC_app A (wsC l) B
theorem WAt.norm (l : List Nat) : WAt (wsC l) 0 (l.take (tlen l)) := by
 have := WAt.self (l.take (tlen l)) (l.drop (tlen l))
 rwa [List.take_append_drop] at this
theorem WAt.ow (o : OW) : WAt (wsC (o.l ++ o.r)) 0 o.l := WAt.self o.l o.r
theorem tlen_dig {l : List Nat} (h : Dl WB l) : (dig WB (val WB l)).length = tlen l := by
 rw [← take_tlen WB_two h, List.length_take, Nat.min_eq_left (tlen_le l)]
theorem WAt.normd {l : List Nat} (h : Dl WB l) : WAt (wsC l) 0 (dig WB (val WB l)) := by
 rw [← take_tlen WB_two h]; exact WAt.norm l
theorem Dl.word {d : Nat} (h : d < 4294967296) : Dl WB [d] := Dl.one (by rw [WB_eq]; exact h)
theorem val_word (d : Nat) : val WB [d] = d := by simp [val]
theorem tlen_le1 (d : Nat) : tlen [d] ≤ 1 := tlen_le [d]
theorem cmpE_neg {m n : Nat} : decide (cmpE m n < 0) = decide (m < n) := by
 unfold cmpE
 split
 ·rename_i h; rw [decide_eq_true h]; rfl
 ·rename_i h; rw [decide_eq_false h]; split <;> rfl
end Go.Proofs.YthmdmbpecgakkaaDoor

namespace Go.Proofs.YthmdmbpecgakkaaDoor
open Go.RowKit
set_option maxRecDepth 100000

structure NA where
 k : Nat
 z : Int
 h : Sm k z
def numOf : List C → Option NA
 | [.wid k z h] => some ⟨k, z, h⟩
 | [.val (.bool b), .val (.string s)] => some ⟨8 * s.size, ival b s.data.toList, Sm.ofBytes (Nat.le_of_eq Array.length_toList)⟩
 | _ => none
theorem numOf_ok {x : List C} {X : NA} (h : numOf x = some X) : ∃ b s, NumA x b s ∧ Num (X.k + 7) b s X.z := by
 unfold numOf at h
 split at h
 ·cases h
  exact ⟨_, _, NumA.wid, num_wid (by assumption)⟩
 ·rename_i b s
  cases h
  exact ⟨b, s, NumA.raw, rfl, Nat.le_add_right _ _⟩
 ·cases h
theorem args2_den {x y : List C} {b c : Bool} {s t : ByteArray} (hx : NumA x b s) (hy : NumA y c t) (ρ : Rho) : (([.agg x, .agg y] : List SV).map (SV.den ρ)).toArray = #[.agg #[.bool b, .string s], .agg #[.bool c, .string t]] := by
 show #[(SV.agg x).den ρ, (SV.agg y).den ρ] = _
 rw [hx.den ρ, hy.den ρ]; rfl
theorem args1_den {x : List C} {b : Bool} {s : ByteArray} (hx : NumA x b s) (ρ : Rho) : (([.agg x] : List SV).map (SV.den ρ)).toArray = #[.agg #[.bool b, .string s]] := by
 show #[(SV.agg x).den ρ] = _
 rw [hx.den ρ]; rfl
def num2c (cap : Nat) (f : NA → NA → SV) : Dn
 | [.agg x, .agg y] => (match numOf x, numOf y with | some X, some Y => some (some (X.k ≤ cap ∧ Y.k ≤ cap), f X Y) | _, _ => none)
 | _ => none
def num1c (cap : Nat) (f : NA → SV) : Dn
 | [.agg x] => (match numOf x with | some X => some (some (X.k ≤ cap), f X) | none => none)
 | _ => none
abbrev num2 (f : NA → NA → SV) : Dn := num2c 80000000 f
abbrev num1 (f : NA → SV) : Dn := num1c 80000000 f
theorem sp_num2 {f : FuncId} (hc : Callable Tryd.prog f) {cap : Nat} {g : NA → NA → SV} (hp : ∀ X Y ρ ρ', (g X Y).den ρ = (g X Y).den ρ')
  (h : ∀ X Y : NA, X.k ≤ cap → Y.k ≤ cap → ∀ b s c t, Num (X.k + 7) b s X.z → Num (Y.k + 7) c t Y.z → ∀ ρ w, Calls Tryd.prog f #[.agg #[.bool b, .string s], .agg #[.bool c, .string t]] w fun e w' => e = .returned ((g X Y).den ρ) ∧ Below w.heap.size w w') : SpOk Tryd.prog f (num2c cap g) := by
 refine ⟨hc, fun args p v hd => ?_⟩
 unfold num2c at hd
 split at hd
 ·rename_i x y
  split at hd
  ·rename_i X Y hX hY
   cases hd
   obtain ⟨b, s, nX, eX⟩ := numOf_ok hX
   obtain ⟨c, t, nY, eY⟩ := numOf_ok hY
   refine ⟨hp X Y, fun ho ρ w => ?_⟩
   obtain ⟨kX, kY⟩ := ho _ rfl
   rw [args2_den nX nY]
   exact h X Y kX kY b s c t eX eY ρ w
  ·cases hd
 ·cases hd
theorem sp_num1 {f : FuncId} (hc : Callable Tryd.prog f) {cap : Nat} {g : NA → SV} (hp : ∀ X ρ ρ', (g X).den ρ = (g X).den ρ')
  (h : ∀ X : NA, X.k ≤ cap → ∀ b s, Num (X.k + 7) b s X.z → ∀ ρ w, Calls Tryd.prog f #[.agg #[.bool b, .string s]] w fun e w' => e = .returned ((g X).den ρ) ∧ Below w.heap.size w w') : SpOk Tryd.prog f (num1c cap g) := by
 refine ⟨hc, fun args p v hd => ?_⟩
 unfold num1c at hd
 split at hd
 ·rename_i x
  split at hd
  ·rename_i X hX
   cases hd
   obtain ⟨b, s, nX, eX⟩ := numOf_ok hX
   refine ⟨hp X, fun ho ρ w => ?_⟩
   rw [args1_den nX]
   exact h X (ho _ rfl) b s eX ρ w
  ·cases hd
 ·cases hd
theorem ir_sign (z : Int) : IR z.sign := by unfold IR; rcases z with (_ | _) | _ <;> simp [Int.sign]
def dMulA : Dn := num2 fun X Y => .agg [.wid (X.k + Y.k) (X.z * Y.z) (X.h.mul Y.h)]
def dAddA : Dn := num2 fun X Y => .agg [.wid (X.k + Y.k + 1) (X.z + Y.z) (sm_addj X.h Y.h)]
def dSubA : Dn := num2 fun X Y => .agg [.wid (X.k + Y.k + 1) (X.z - Y.z) (sm_subj X.h Y.h)]
def dNegA : Dn := num1 fun X => .agg [.wid X.k (-X.z) X.h.neg]
def dSignA : Dn := num1 fun X => .c (.int X.z.sign (ir_sign _))
def dCmpA : Dn := num2 fun X Y => .c (.int (X.z - Y.z).sign (ir_sign _))
theorem spMulA : SpOk Tryd.prog 24 dMulA := sp_num2 ⟨_, Tryd.func24, by kernel_rfl, by kernel_rfl⟩ (fun _ _ _ _ => rfl) fun X Y kX kY b s c t nX nY ρ w => (Mul_any nX nY (by omega) (by omega) w).mono fun e w' he => gives_sp he ρ _
theorem spAddA : SpOk Tryd.prog 29 dAddA := sp_num2 ⟨_, Tryd.func29, by kernel_rfl, by kernel_rfl⟩ (fun _ _ _ _ => rfl) fun X Y kX kY b s c t nX nY ρ w => (Add_any nX nY (by omega) (by omega) w).mono fun e w' he => gives_sp he ρ _
theorem spSubA : SpOk Tryd.prog 28 dSubA := sp_num2 ⟨_, Tryd.func28, by kernel_rfl, by kernel_rfl⟩ (fun _ _ _ _ => rfl) fun X Y kX kY b s c t nX nY ρ w => (Sub_any nX nY (by omega) (by omega) w).mono fun e w' he => gives_sp he ρ _
theorem spNegA : SpOk Tryd.prog 48 dNegA := sp_num1 ⟨_, Tryd.func48, by kernel_rfl, by kernel_rfl⟩ (fun _ _ _ => rfl) fun X kX b s nX ρ w => (Neg_any nX (by omega) w).mono fun e w' he => gives_sp he ρ _
theorem spSignA : SpOk Tryd.prog 44 dSignA := sp_num1 ⟨_, Tryd.func44, by kernel_rfl, by kernel_rfl⟩ (fun _ _ _ => rfl) fun X kX b s nX ρ w => Sign_any nX (by omega) w
theorem spCmpA : SpOk Tryd.prog 26 dCmpA := sp_num2 ⟨_, Tryd.func26, by kernel_rfl, by kernel_rfl⟩ (fun _ _ _ _ => rfl) fun X Y kX kY b s c t nX nY ρ w => Cmp_any nX nY (by omega) (by omega) w
theorem spRMulA : SpOk Tryd.prog 31 dMulA := sp_num2 ⟨_, Tryd.func31, by kernel_rfl, by kernel_rfl⟩ (fun _ _ _ _ => rfl) fun X Y kX kY b s c t nX nY ρ w => (RMul_any nX nY (by omega) (by omega) w).mono fun e w' he => gives_sp he ρ _
theorem spRAddA : SpOk Tryd.prog 36 dAddA := sp_num2 ⟨_, Tryd.func36, by kernel_rfl, by kernel_rfl⟩ (fun _ _ _ _ => rfl) fun X Y kX kY b s c t nX nY ρ w => (RAdd_any nX nY (by omega) (by omega) w).mono fun e w' he => gives_sp he ρ _
theorem spRSubA : SpOk Tryd.prog 35 dSubA := sp_num2 ⟨_, Tryd.func35, by kernel_rfl, by kernel_rfl⟩ (fun _ _ _ _ => rfl) fun X Y kX kY b s c t nX nY ρ w => (RSub_any nX nY (by omega) (by omega) w).mono fun e w' he => gives_sp he ρ _
theorem spRNegA : SpOk Tryd.prog 56 dNegA := sp_num1 ⟨_, Tryd.func56, by kernel_rfl, by kernel_rfl⟩ (fun _ _ _ => rfl) fun X kX b s nX ρ w => (RNeg_any nX (by omega) w).mono fun e w' he => gives_sp he ρ _
theorem spRSignA : SpOk Tryd.prog 55 dSignA := sp_num1 ⟨_, Tryd.func55, by kernel_rfl, by kernel_rfl⟩ (fun _ _ _ => rfl) fun X kX b s nX ρ w => RSign_any nX (by omega) w
theorem spRCmpA : SpOk Tryd.prog 33 dCmpA := sp_num2 ⟨_, Tryd.func33, by kernel_rfl, by kernel_rfl⟩ (fun _ _ _ _ => rfl) fun X Y kX kY b s c t nX nY ρ w => RCmp_any nX nY (by omega) (by omega) w
def baseA : List (FuncId × Dn) := [(25, dFrom), (24, dMulA), (29, dAddA), (28, dSubA), (48, dNegA), (44, dSignA), (26, dCmpA), (32, dFrom), (31, dMulA), (36, dAddA), (35, dSubA), (56, dNegA), (55, dSignA), (33, dCmpA)]
theorem baseA_ok : AllOk baseA :=
 .cons (spFrom ⟨_, Tryd.func25, by kernel_rfl, by kernel_rfl⟩ From_any) <|
 .cons spMulA <|
 .cons spAddA <|
 .cons spSubA <|
 .cons spNegA <|
 .cons spSignA <|
 .cons spCmpA <|
 .cons (spFrom ⟨_, Tryd.func32, by kernel_rfl, by kernel_rfl⟩ RFrom_any) <|
 .cons spRMulA <|
 .cons spRAddA <|
 .cons spRSubA <|
 .cons spRNegA <|
 .cons spRSignA <|
 .cons spRCmpA .nil
end Go.Proofs.YthmdmbpecgakkaaDoor
