/- Words of natural numbers, by the reckoner: abs. Words of natural numbers, by the reckoner: less; contracts beside functions walked in place. Plain laws of the long division of words. -/
import Derived.Test.YtocbklodkcdhkaaGreatDoorNaa
import Derived.Test.YtocbklodkcdhkaaGreatDoorWka
import Derived.Test.YtocbklodkcdhkaaGreatDoorEno
namespace Go.Proofs.YtocbklodkcdhkaaGreatDoor
open Go.RowKit
set_option maxRecDepth 100000

theorem csp_of2 {P : Program} {E : Env} (hE : EOk P E) (hm : P.follows .mixedOrders = true) {H : FuncId → List SV → List Blk → (SV → List Blk → Prop) → Prop} (hH : HOk P H) {f : FuncId} {fn : Func} (hf : FnOk P f fn) {c : NewC}
    (h : ∀ args ros K, c args ros K → ∃ args' : List SV, (∀ ρ, args.map (SV.den ρ) = args'.map (SV.den ρ)) ∧ (∀ ρ ρ', (∀ i, i < ros.length → ρ i = ρ' i) → args'.map (SV.den ρ) = args'.map (SV.den ρ')) ∧ vcF E H fn args' ros (outK ros K)) : CSp P f c := by
  refine ⟨hf.callable, fun args ros K hc hro hpure ρ w hr => ?_⟩
  obtain ⟨args', h1, h2, h3⟩ := h args ros K hc
  rw [h1 ρ]
  exact (csp_of hE hm hH hf (c := fun a r k => a = args' ∧ r = ros ∧ k = K) (fun a r k hk => by obtain ⟨rfl, rfl, rfl⟩ := hk; exact ⟨h2, h3⟩)).2 args' ros K ⟨rfl, rfl, rfl⟩ hro hpure ρ w hr
theorem eff_len_str {T : TypeId → Option TI} {op : Op} {ev : Operand → SV} {hp : Nat → Option Blk} {c : Call} (ho : op = .call c) (hc : c.callee = .builtin .len) {x : Operand} {t : TypeId} (ha : c.args.toList = [x]) (ht : c.argTypes.toList = [t]) {sz : Nat} {ag : Bool} {z : List C} {eq : Option (List K)}
    (hT : T t = some ⟨sz, ag, z, .string, eq⟩) {s : ByteArray} (hx : ev x = .c (.val (.string s))) (h : IR s.size) : eff T op ev hp = some (.val (.c (.int s.size h))) := by
  subst ho
  simp only [eff, hc, ha, ht, hT, hx]
  rw [dif_pos h]
theorem eff_index_str {T : TypeId → Option TI} {op : Op} {ev : Operand → SV} {hp : Nat → Option Blk} {t : TypeId} {x i : Operand} (ho : op = .index t x i) {sz : Nat} {ag : Bool} {z : List C} {eq : Option (List K)} (hT : T t = some ⟨sz, ag, z, .string, eq⟩)
    {s : ByteArray} (hx : ev x = .c (.val (.string s))) {k : Nat} {hi : IR k} (hk : ev i = .c (.int k hi)) (hlt : k < s.size) : eff T op ev hp = some (.val (.c (.val (.int .u8 ((s.data[k]?.getD 0).toNat))))) := by
  subst ho
  simp only [eff, hT, hx, hk]
  show (if k < s.size then _ else _) = _
  rw [if_pos hlt]
/-- the two cells of a number that may not be canonical -/
def NumA (x : List C) (b : Bool) (s : ByteArray) : Prop := ∀ ρ, cellsL ρ x = [.bool b, .string s]
theorem NumA.wid {k : Nat} {z : Int} {h : Sm k z} : NumA [.wid k z h] (decide (z < 0)) ⟨(mag z.natAbs).toArray⟩ := fun _ => rfl
theorem NumA.raw {b : Bool} {s : ByteArray} : NumA [.val (.bool b), .val (.string s)] b s := fun _ => rfl
theorem NumA.den {x : List C} {b : Bool} {s : ByteArray} (h : NumA x b s) (ρ : Rho) : (SV.agg x).den ρ = (SV.agg [.val (.bool b), .val (.string s)]).den ρ := by
  simp only [SV.den, h ρ]; rfl
def cAbs : NewC := fun args ros K => ∃ x b s, args = [.agg x] ∧ ros = [] ∧ NumA x b s ∧ s.size ≤ 300000000 ∧ ∀ o : OW, o.l = dig WB (mval s.data.toList) → K (o.sl 0) [o.blk]
theorem abs_make {n : Nat} (h : n ≤ 300000000) : IntKind.i64.wrap ((IntKind.i64.wrap (IntKind.i64.wrap ((n : Int) + 4) - 1)).tdiv 4) = (((n + 3) / 4 : Nat) : Int) := by
  rw [wrap_id (z := (n : Int) + 4) (by unfold IR; omega), wrap_id (z := (n : Int) + 4 - 1) (by unfold IR; omega), Int.tdiv_eq_ediv_of_nonneg (by omega), wrap_id (by unfold IR; omega)]; omega
theorem abs_k {n i : Nat} (h : n ≤ 300000000) (hi : i < n) : IntKind.i64.wrap (IntKind.i64.wrap ((n : Int) - 1) - (i : Int)) = ((n - 1 - i : Nat) : Int) := by
  rw [wrap_id (z := (n : Int) - 1) (by unfold IR; omega), wrap_id (by unfold IR; omega)]; omega
theorem abs_q {z : Int} {k : Nat} (e : z = k) (h : k ≤ 300000000) : IntKind.i64.wrap (z.tdiv 4) = ((k / 4 : Nat) : Int) := by
  subst e
  rw [Int.tdiv_eq_ediv_of_nonneg (by omega), wrap_id (by unfold IR; omega)]; omega
theorem abs_m {z : Int} {k : Nat} (e : z = k) : IntKind.i64.wrap (8 * z.tmod 4) = ((8 * (k % 4) : Nat) : Int) := by
  subst e
  rw [Int.tmod_eq_emod_of_nonneg (by omega), wrap_id (by unfold IR; omega)]; omega
theorem u8_u64 (b : UInt8) : IntKind.u64.wrap (b.toNat : Int) = (b.toNat : Int) := u64_nat rfl (by have := UInt8.toNat_lt b; omega)
def AbsI (s : ByteArray) (lo : List Nat) (i : Nat) : Prop := lo.length = (s.size + 3) / 4 ∧ Dl WB lo ∧ val WB lo = 256 ^ (s.size - i) * mval (s.data.toList.take i)
def sb (s : ByteArray) (i : Nat) : UInt8 := s.data[i]?.getD 0
theorem sb_get {s : ByteArray} {i : Nat} (h : i < s.size) : s.data.toList[i]? = some (sb s i) := by
  have h2 : i < s.data.size := h
  unfold sb
  rw [Array.getElem?_toList, Array.getElem?_eq_getElem h2]; rfl
theorem AbsI.step {s : ByteArray} {lo : List Nat} {i : Nat} (h : AbsI s lo i) (hi : i < s.size) {hk : (s.size - 1 - i) / 4 < lo.length} : AbsI s (lo.set ((s.size - 1 - i) / 4) (lo[(s.size - 1 - i) / 4] ||| (sb s i).toNat * 2 ^ (8 * ((s.size - 1 - i) % 4)))) (i + 1) ∧ (sb s i).toNat * 2 ^ (8 * ((s.size - 1 - i) % 4)) < 4294967296 ∧ lo[(s.size - 1 - i) / 4] < 4294967296 := by
  obtain ⟨h1, h2, h3⟩ := h
  have := abs_step' (n := s.size) h2 (by rw [Array.length_toList]; rfl) (sb_get hi) hk h3
  rw [getD_get hk] at this
  exact ⟨⟨by rw [List.length_set]; exact h1, h2.set _ this.1, this.2⟩, byte_shl_lt (UInt8.toNat_lt _) (by omega), h2.get _ hk⟩
theorem irle {k n : Nat} (h : IR (n : Int)) (hk : k ≤ n) : IR (k : Int) := by unfold IR at *; omega
set_option maxHeartbeats 8000000 in
theorem csAbs : CSp Tryz.prog 51 cAbs := csp_of2 (envM_ok 0) mixed (hnew_ok normC_ok (inl_ok (envM_ok 0) mixed noF_ok 0)) ⟨Tryz.func51, by kernel_rfl, by kernel_rfl⟩ fun args ros K hc => by
  obtain ⟨x, b, s, rfl, rfl, hx, hss, hc⟩ := hc
  have hsz : IR (s.size : Int) := by unfold IR; omega
  refine ⟨[.agg [.val (.bool b), .val (.string s)]], fun ρ => by show [(SV.agg x).den ρ] = _; rw [hx.den ρ]; rfl, fun _ _ _ => rfl, ?_⟩
  conv => whnf
  conv =>
    arg 2
    tactic' =>
      apply eff_len_str (ho := ?how1) (hc := ?hcw1) (ha := ?haw1) (ht := ?htw1) (hT := ?hTw1) (hx := ?hxw1) (h := ?hw1)
      case how1 => rfl
      case hcw1 => rfl
      case haw1 => rfl
      case htw1 => rfl
      case hTw1 => rfl
      case hxw1 => rfl
      case hw1 => exact hsz
  conv => whnf
  refine ⟨rfl, ((s.size + 3) / 4), ((s.size + 3) / 4), abs_make hss, abs_make hss, Nat.le_refl _, by omega, fun h2 => ?_⟩
  conv => whnf
  conv =>
    arg 2
    tactic' =>
      apply eff_len_str (ho := ?how1) (hc := ?hcw1) (ha := ?haw1) (ht := ?htw1) (hT := ?hTw1) (hx := ?hxw1) (h := ?hw1)
      case how1 => rfl
      case hcw1 => rfl
      case haw1 => rfl
      case htw1 => rfl
      case hTw1 => rfl
      case hxw1 => rfl
      case hw1 => exact hsz
  conv => whnf
  refine loop_st (G := {g : Nat × List Nat × (Nat → Value) // g.1 ≤ s.size ∧ AbsI s g.2.1 g.1}) (fun g => [.c (.val (g.1.2.2 0)), .c (.ptr 0 0), .c (.val (g.1.2.2 2)), .c (.sli false 1 0 ((s.size + 3) / 4) ((s.size + 3) / 4) h2), .c (.val (g.1.2.2 4)), .c (.val (g.1.2.2 5)), .c (.val (g.1.2.2 6)), .c (.val (g.1.2.2 7)), .c (.val (g.1.2.2 8)), .c (.val (g.1.2.2 9)), .c (.val (g.1.2.2 10)), .c (.val (g.1.2.2 11)), .c (.val (g.1.2.2 12)), .c (.val (g.1.2.2 13)), .c (.val (g.1.2.2 14)), .c (.int (s.size : Nat) hsz), .c (.int (g.1.1 : Nat) (irle hsz g.2.1)), .c (.val (g.1.2.2 17)), .c (.val (g.1.2.2 18)), .c (.val (g.1.2.2 19)), .c (.val (g.1.2.2 20)), .c (.val (g.1.2.2 21)), .c (.val (g.1.2.2 22)), .c (.val (g.1.2.2 23)), .c (.val (g.1.2.2 24)), .c (.val (g.1.2.2 25)), .c (.val (g.1.2.2 26)), .c (.val (g.1.2.2 27)), .c (.val (g.1.2.2 28)), .c (.val (g.1.2.2 29)), .c (.val (g.1.2.2 30)), .c (.val (g.1.2.2 31)), .c (.val (g.1.2.2 32)), .c (.val (g.1.2.2 33)), .c (.val (g.1.2.2 34)), .c (.val (g.1.2.2 35)), .c (.val (g.1.2.2 36)), .c (.val (g.1.2.2 37)), .c (.val (g.1.2.2 38)), .c (.val (g.1.2.2 39)), .c (.val (g.1.2.2 40)), .c (.val (g.1.2.2 41)), .c (.val (g.1.2.2 42)), .c (.val (g.1.2.2 43))]) (fun g => [⟨43, false, [.val (.bool b), .val (.string s)], 0⟩, ⟨91, false, wsC g.1.2.1, 0⟩]) (fun g => s.size - g.1.1) ?_ ?_
  · refine ⟨[0, 1], [1, 3, 15, 16], [0, 1], fun vs => ?_⟩
    conv => whnf
    refine ⟨fun _ _ => rfl, rep_pure _, ?_⟩
    conv => whnf
    refine ⟨_, _, ?_, ?_, ⟨(0, List.replicate ((s.size + 3) / 4) 0, vs), Nat.zero_le _, List.length_replicate, Dl.replicate WB_pos _, by simp [val_replicate, mval, val]⟩, rfl, rfl⟩
    · exact ⟨fun _ => rfl, fun _ => rfl, fun _ => rfl, fun _ => rfl, fun _ => rfl, fun _ => rfl, fun _ => rfl, fun _ => rfl, fun _ => rfl, fun _ => rfl, fun _ => rfl, fun _ => rfl, stm _⟩
    · exact ⟨⟨rfl, rfl, rfl, fun _ => rfl⟩, ⟨rfl, rfl, Nat.sub_self _, fun ρ => by rw [← wsC_rep]; rfl⟩, trivial⟩
  · rintro ⟨⟨i, lo, vs⟩, hi, hs⟩
    have hi : i ≤ s.size := hi
    have hs : AbsI s lo i := hs
    conv => whnf
    refine bcase_intro (fun hlt => ?_) (fun hlt => ?_)
    · have hlt : i < s.size := n_lt hlt
      have hj : (s.size - 1 - i) / 4 < lo.length := by have := hs.1; omega
      have hj2 : (s.size - 1 - i) / 4 < (s.size + 3) / 4 := by omega
      have hjr : IR (((s.size - 1 - i) / 4 : Nat) : Int) := by unfold IR; omega
      have ek := abs_k hss hlt
      have eq := abs_q ek (by omega)
      obtain ⟨hs2, hw1, hw2⟩ := hs.step hlt (hk := hj)
      have eo := or_natE (y := ((lo[(s.size - 1 - i) / 4]'hj) : Int)) (n := (sb s i).toNat * 2 ^ (8 * ((s.size - 1 - i) % 4))) rfl rfl (by omega) (by omega)
      conv => whnf
      conv =>
        arg 2
        tactic' =>
          apply eff_len_str (ho := ?how1) (hc := ?hcw1) (ha := ?haw1) (ht := ?htw1) (hT := ?hTw1) (hx := ?hxw1) (h := ?hw1)
          case how1 => rfl
          case hcw1 => rfl
          case haw1 => rfl
          case htw1 => rfl
          case hTw1 => rfl
          case hxw1 => rfl
          case hw1 => exact hsz
      conv => whnf
      conv =>
        arg 2
        tactic' =>
          apply eff_index_sli (hi := hjr) (ho := ?how2) (hT := ?hTw2) (hx := ?hxw2) (hk := ?hkw2) (hlt := ?hltw2)
          case how2 => rfl
          case hTw2 => rfl
          case hxw2 => rfl
          case hkw2 => exact cint eq hjr
          case hltw2 => exact hj2
      conv => whnf
      conv =>
        arg 2
        tactic' =>
          apply eff_load_sub (m := [wC (lo[(s.size - 1 - i) / 4]'hj)]) (ho := ?how3) (hT := ?hTw3) (hx := ?hxw3) (hb := ?hbw3) (hm := ?hmw3) (hv := ?hvw3)
          case how3 => rfl
          case hTw3 => rfl
          case hxw3 => rfl
          case hbw3 => rfl
          case hmw3 => exact (WAt.get (l := lo) ⟨wsC_pure lo, [], [], by rw [List.append_nil]; rfl, rfl⟩ hj)
          case hvw3 => rfl
      conv => whnf
      conv =>
        arg 2
        tactic' =>
          apply eff_index_str (hi := irle hsz hi) (ho := ?how4) (hT := ?hTw4) (hx := ?hxw4) (hk := ?hkw4) (hlt := ?hltw4)
          case how4 => rfl
          case hTw4 => rfl
          case hxw4 => rfl
          case hkw4 => rfl
          case hltw4 => exact hlt
      conv => whnf
      conv =>
        arg 2
        tactic' =>
          apply eff_bini (v := .int .u64 (((sb s i).toNat * 2 ^ (8 * ((s.size - 1 - i) % 4)) : Nat) : Int)) (ho := ?how5) (hx := ?hxw5) (hy := ?hyw5) (hb := ?hbw5)
          case how5 => rfl
          case hxw5 => rfl
          case hyw5 => rfl
          case hbw5 => exact shl_pure (u8_u64 _) (abs_m ek) (by omega) (by omega)
      conv => whnf
      conv =>
        arg 2
        tactic' =>
          apply eff_index_sli (hi := hjr) (ho := ?how6) (hT := ?hTw6) (hx := ?hxw6) (hk := ?hkw6) (hlt := ?hltw6)
          case how6 => rfl
          case hTw6 => rfl
          case hxw6 => rfl
          case hkw6 => exact cint eq hjr
          case hltw6 => exact hj2
      conv => whnf
      conv =>
        arg 2
        tactic' =>
          apply eff_store_at (l := [wC (((lo[(s.size - 1 - i) / 4]'hj) ||| (sb s i).toNat * 2 ^ (8 * ((s.size - 1 - i) % 4))))]) (cs := wsC (lo.set ((s.size - 1 - i) / 4) ((lo[(s.size - 1 - i) / 4]'hj) ||| (sb s i).toNat * 2 ^ (8 * ((s.size - 1 - i) % 4))))) (ho := ?how7) (hT := ?hTw7) (hx := ?hxw7) (hy := ?hyw7) (hl := ?hlw7) (hb := ?hbw7) (hro := ?hrow7) (hs := ?hsw7)
          case how7 => rfl
          case hTw7 => rfl
          case hxw7 => rfl
          case hyw7 => exact congrArg (fun z => some [C.val (.int .u64 z)]) eo
          case hlw7 => exact ⟨rfl, rfl⟩
          case hbw7 => rfl
          case hrow7 => rfl
          case hsw7 => exact splice_ws hj _
      conv => whnf
      rw [forceL_eq]
      conv => whnf
      refine ⟨[0, 1], [1, 3, 15, 16], [0, 1], fun vs2 => ?_⟩
      conv => whnf
      refine ⟨fun _ _ => rfl, wsC_pure _, ?_⟩
      conv => whnf
      refine ⟨_, _, ?_, ?_, ⟨(i + 1, lo.set ((s.size - 1 - i) / 4) ((lo[(s.size - 1 - i) / 4]'hj) ||| (sb s i).toNat * 2 ^ (8 * ((s.size - 1 - i) % 4))), vs2), hlt, hs2⟩, (by omega : s.size - (i + 1) < s.size - i), rfl, rfl⟩
      · exact ⟨fun _ => rfl, fun _ => rfl, fun _ => rfl, fun _ => rfl, fun _ => rfl, fun _ => rfl, fun _ => rfl, fun _ => rfl, fun _ => rfl, fun _ => rfl, fun _ => rfl, fun _ => rfl, fun _ => rfl, fun _ => rfl, fun _ => rfl, fun _ => rfl, sint_eq (wrap_add1 hlt hsz) _ _, stm _⟩
      · exact ⟨⟨rfl, rfl, rfl, fun _ => rfl⟩, ⟨rfl, rfl, rfl, fun _ => rfl⟩, trivial⟩
    · have hke : i = s.size := Nat.le_antisymm hi (n_ge hlt)
      subst hke
      have hv : val WB lo = mval s.data.toList := by
        have := hs.2.2
        rw [Nat.sub_self, Nat.pow_zero, Nat.one_mul, List.take_of_length_le (by rw [Array.length_toList]; exact Nat.le_refl _)] at this
        exact this
      conv => whnf
      refine ⟨⟨wsC_pure _, trivial⟩, ⟨_, _, _, _, _, _, _, lo, rfl, rfl, hs.1, ⟨wsC_pure _, [], [], by rw [List.append_nil]; rfl, rfl⟩, fun h3 => ?_⟩⟩
      conv => whnf
      refine ⟨[1], [0], fun vs9 => ?_⟩
      conv => whnf
      refine ⟨wsC_pure _, ?_⟩
      conv => whnf
      refine ⟨_, [(OW.ofNorm lo ((s.size + 3) / 4) h3 (Nat.le_of_eq hs.1)).blk], rfl, ⟨⟨rfl, rfl, ?_, fun ρ => ?_⟩, trivial⟩, ⟨OW.new _, trivial⟩, _, fun ρ => OW.ofNorm_sl 0 ρ, hc _ ?_⟩
      · rw [OW.ofNorm_blk]; have := hs.1; show 0 = ((s.size + 3) / 4) - lo.length; omega
      · rw [OW.ofNorm_blk]
      · rw [OW.ofNorm_l hs.2.1, hv]
end Go.Proofs.YtocbklodkcdhkaaGreatDoor

namespace Go.Proofs.YtocbklodkcdhkaaGreatDoor
open Go.RowKit
set_option maxRecDepth 100000

/-- arguments, reckoned to the end -/
def argsF : List SV → (List SV → Prop) → Prop
  | [], K => K []
  | x :: l, K => x.force fun x => argsF l fun l => K (x :: l)
theorem argsF_eq : ∀ (l : List SV) (K : List SV → Prop), argsF l K = K l
  | [], _ => rfl
  | x :: l, K => by unfold argsF; rw [SV.force_eq, argsF_eq l]
/-- contracts, and beside them functions walked in place -/
def mix (l : List (FuncId × NewC)) (E : Env) (F : FuncId → Option Func) : Nat → FuncId → List SV → List Blk → (SV → List Blk → Prop) → Prop
  | 0 => hnew l fun _ _ _ _ => False
  | n + 1 => hnew l fun f args hp K => (match F f with | some fn => argsF args fun args => vcF E (mix l E F n) fn args hp K | none => False)
theorem mix_ok {P : Program} {l : List (FuncId × NewC)} (hl : AllC P l) {E : Env} (hE : EOk P E) (hm : P.follows .mixedOrders = true) {F : FuncId → Option Func} (hF : ∀ f fn, F f = some fn → FnOk P f fn) : ∀ n, HOk P (mix l E F n)
  | 0 => hnew_ok hl fun f args hp K h => h.elim
  | n + 1 => hnew_ok hl fun f args hp K h => by
    split at h
    · rename_i fn hfn
      rw [argsF_eq] at h
      exact ⟨(hF f fn hfn).callable, fun N w0 ρ0 w hh hargs => fn_ok hE hm (mix_ok hl hE hm hF n) (hF f fn hfn) h N w0 ρ0 w hh hargs⟩
    · exact h.elim
def envA (un : Nat) : Env where
  T := tyT
  un := un
  D := fun _ _ _ => none
  O := oAll tyT
theorem envA_ok (un : Nat) : EOk Tryz.prog (envA un) where
  T := tyT_ok
  D f args hf p v h := by cases h
  O := oAll_ok tyT_ok
noncomputable def fxClone : FuncId → Option Func := lk [(110, Tryz.f110)]
theorem fxClone_ok : ∀ f fn, fxClone f = some fn → FnOk Tryz.prog f fn := lkF_ok fun x hx => by
  simp only [List.mem_cons, List.not_mem_nil, or_false] at hx
  subst hx
  · exact ⟨Tryz.func110, by kernel_rfl, by kernel_rfl⟩
def lessC : List (FuncId × NewC) := [(68, cNorm), (52, cMul), (84, cCmp), (85, cSub)]
theorem lessC_ok : AllC Tryz.prog lessC := .cons csNorm <| .cons csMul <| .cons csCmp <| .cons csSub .nil
/-- less: the first words of a, one more than those of b, against b times a word -/
def cLess : NewC := fun args ros K => ∃ offa lena capa ha tya csa lw nlb offb lenb capb hb tyb csb lb, ∃ d : Nat, args = [.c (.sli false 0 offa lena capa ha), .c (.sli nlb 1 offb lenb capb hb), .c (wC d)] ∧ ros = [⟨tya, true, csa, 0⟩, ⟨tyb, true, csb, 0⟩] ∧
  lw.length = lenb + 1 ∧ lenb + 1 ≤ lena ∧ lb.length = lenb ∧ WAt csa offa lw ∧ WAt csb offb lb ∧ Dl WB lw ∧ Dl WB lb ∧ lenb ≤ 90000000 ∧ d < 4294967296 ∧ K (.c (.val (.bool (decide (val WB lw < val WB lb * d))))) []
theorem WAt.all {cs : List C} {off : Nat} {l : List Nat} (h : WAt cs off l) {n : Nat} (hn : n = l.length) : subC cs off (n * 1) = some (wsC l) := by
  obtain ⟨_, A, B, rfl, rfl⟩ := h
  rw [Nat.mul_one, hn, ← wsC_size l]
  exact subC_app A (wsC l) B
theorem WAt.norm (l : List Nat) : WAt (wsC l) 0 (l.take (tlen l)) := by
  have := WAt.self (l.take (tlen l)) (l.drop (tlen l))
  rwa [List.take_append_drop] at this
theorem WAt.ow (o : OW) : WAt (wsC (o.l ++ o.r)) 0 o.l := WAt.self o.l o.r
theorem tlen_dig {l : List Nat} (h : Dl WB l) : (dig WB (val WB l)).length = tlen l := by
  rw [← take_tlen WB_two h, List.length_take, Nat.min_eq_left (tlen_le l)]
theorem WAt.normd {l : List Nat} (h : Dl WB l) : WAt (wsC l) 0 (dig WB (val WB l)) := by
  rw [← take_tlen WB_two h]; exact WAt.norm l
theorem Dl.word {d : Nat} (h : d < 4294967296) : Dl WB [d] := Dl.one (by rw [WB_eq]; exact h)
theorem val_word (d : Nat) : val WB [d] = d := by simp [val]
theorem tlen_le1 (d : Nat) : tlen [d] ≤ 1 := tlen_le [d]
theorem cmpE_neg {m n : Nat} : decide (cmpE m n < 0) = decide (m < n) := by
  unfold cmpE
  split
  · rename_i h; rw [decide_eq_true h]; rfl
  · rename_i h; rw [decide_eq_false h]; split <;> rfl
set_option maxHeartbeats 8000000 in
theorem csLess : CSp Tryz.prog 104 cLess := csp_of (envA_ok 0) mixed (mix_ok lessC_ok (envA_ok 0) mixed fxClone_ok 1) ⟨Tryz.func104, by kernel_rfl, by kernel_rfl⟩ fun args ros K hc => by
  obtain ⟨offa, lena, capa, ha, tya, csa, lw, nlb, offb, _, capb, hb, tyb, csb, lb, d, rfl, rfl, hlw, hwl, rfl, hwa, hwb, dw, db, sb, hd, hc⟩ := hc
  refine ⟨fun ρ ρ' e => ?_, ?_⟩
  · have e0 := e 0 (show 0 < 2 by decide)
    have e1 := e 1 (show 1 < 2 by decide)
    simp only [List.map, SV.den, wC, C.den, C.cells, e0, e1]
  conv => whnf
  have hadd : IntKind.i64.wrap ((lb.length : Int) + 1) = ((lb.length + 1 : Nat) : Int) := wrap_id (by unfold IR; omega)
  have hir : IR ((lb.length + 1 : Nat) : Int) := by unfold IR; omega
  have hk : lb.length + 1 ≤ capa := Nat.le_trans hwl ha.1
  conv =>
    arg 2
    tactic' =>
      apply eff_slice_hi (hi := hir) (h2 := sliOk_le2 ha hwl) (ho := ?how1) (hT := ?hTw1) (hx := ?hxw1) (hk := ?hkw1) (hlt := ?hltw1)
      case how1 => rfl
      case hTw1 => rfl
      case hxw1 => rfl
      case hkw1 => exact cint hadd hir
      case hltw1 => exact hk
  conv => whnf
  refine .inr ?_
  conv => whnf
  conv =>
    arg 2
    tactic' => exact hwa.all hlw.symm
  conv => whnf
  refine ⟨wsC_one _, ?_⟩
  conv => whnf
  refine ⟨⟨rfl, rfl, by omega⟩, fun h0 => absurd h0 (Nat.succ_ne_zero _), fun _ cap2 hcap2 => ?_⟩
  conv => whnf
  refine ⟨⟨wsC_pure (lw), trivial⟩, ⟨_, _, _, _, _, _, _, lw, rfl, rfl, hlw, ⟨wsC_pure (lw), [], [], by rw [List.append_nil]; rfl, rfl⟩, fun h3 => ?_⟩⟩
  conv => whnf
  refine ⟨⟨wsC_pure ([d]), trivial⟩, ⟨_, _, _, _, _, _, _, [d], rfl, rfl, rfl, ⟨wsC_pure ([d]), [], [], by rw [List.append_nil]; rfl, rfl⟩, fun h4 => ?_⟩⟩
  conv => whnf
  refine ⟨⟨hwb.1, wsC_pure [d], trivial⟩, ⟨_, _, _, _, _, _, _, lb, _, _, _, _, _, _, _, dig WB (val WB [d]), rfl, rfl, rfl, tlen_dig (Dl.word hd), hwb, WAt.normd (Dl.word hd), db, dig_Dl WB_two _, by omega, Nat.le_trans (tlen_le1 d) (by decide), trivial, fun om _ hom => ?_⟩⟩
  conv => whnf
  have hom2 : om.l = dig WB (val WB lb * d) := by rw [hom, val_dig WB_two, val_word]
  refine ⟨⟨wsC_pure _, wsC_pure _, trivial⟩, ⟨_, _, _, _, _, _, _, val WB lw, _, _, _, _, _, _, _, val WB lb * d, rfl, rfl, tlen_dig dw, by rw [hom2], WAt.normd dw, by rw [← hom2]; exact WAt.ow om, ?_⟩⟩
  conv => whnf
  refine ⟨[0, 1], [0, 1], fun vs9 => ?_⟩
  conv => whnf
  refine ⟨hwa.1, hwb.1, ?_⟩
  conv => whnf
  exact ⟨_, [], rfl, ⟨⟨rfl, rfl, rfl, fun _ => rfl⟩, ⟨rfl, rfl, rfl, fun _ => rfl⟩, trivial⟩, trivial, .c (.val (.bool (decide (val WB lw < val WB lb * d)))), fun ρ => congrArg Value.bool cmpE_neg, hc⟩
end Go.Proofs.YtocbklodkcdhkaaGreatDoor

namespace Go.Proofs.YtocbklodkcdhkaaGreatDoor
open Go.RowKit

theorem val_top2 {l : List Nat} {L : Nat} (hl : l.length = L + 2) : val WB l = (l[L + 1]?.getD 0 * WB + l[L]?.getD 0) * WB ^ L + val WB (l.take L) := by
  have h1 := val_take_succ' WB l (L + 1)
  have h2 := val_take_succ' WB l L
  rw [List.take_of_length_le (by omega)] at h1
  rw [h1, h2, Nat.pow_succ]
  grind
theorem val_top3 {l : List Nat} {L : Nat} (hl : l.length = L + 3) : val WB l = ((l[L + 2]?.getD 0 * WB + l[L + 1]?.getD 0) * WB + l[L]?.getD 0) * WB ^ L + val WB (l.take L) := by
  have h1 := val_top2 (L := L + 1) (by omega : l.length = L + 1 + 2)
  have h2 := val_take_succ' WB l L
  rw [h1, h2, Nat.pow_succ]
  grind
theorem val_take_lt {l : List Nat} (h : Dl WB l) (k : Nat) : val WB (l.take k) < WB ^ k := by
  have h1 := val_lt (h.take k)
  exact Nat.lt_of_lt_of_le h1 (Nat.pow_le_pow_right WB_pos (by rw [List.length_take]; exact Nat.min_le_left _ _))
/-- the divisor: its words, the most significant one with its highest bit -/
structure DivS (V L : Nat) (vs : List Nat) : Prop where
  hL : 2 ≤ L
  len : vs.length = L
  dl : Dl WB vs
  hv : val WB vs = V
  top : 2147483648 ≤ vs[L - 1]?.getD 0
theorem DivS.pos {V L : Nat} {vs : List Nat} (h : DivS V L vs) : 0 < V := by
  have h1 := val_top2 (l := vs) (L := L - 2) (by have := h.len; have := h.hL; omega)
  have h2 := h.top
  rw [h.hv, show L - 2 + 1 = L - 1 by have := h.hL; omega] at h1
  have h3 : 0 < WB ^ (L - 2) := Nat.pow_pos WB_pos
  rw [h1]
  have h4 : 0 < (vs[L - 1]?.getD 0 * WB + vs[L - 2]?.getD 0) := by rw [WB_eq]; omega
  have := Nat.mul_pos h4 h3
  omega
theorem DivS.ge {V L : Nat} {vs : List Nat} (h : DivS V L vs) : 2147483648 * WB ^ (L - 1) ≤ V := by
  have h1 := val_take_succ' WB vs (L - 1)
  rw [show L - 1 + 1 = L by have := h.hL; omega, List.take_of_length_le (by rw [h.len]; exact Nat.le_refl _), h.hv] at h1
  have := Nat.mul_le_mul_left (WB ^ (L - 1)) h.top
  rw [h1, Nat.mul_comm 2147483648]
  omega
theorem DivS.lt {V L : Nat} {vs : List Nat} (h : DivS V L vs) : V < WB ^ L := by have := val_lt h.dl; rwa [h.hv, h.len] at this
/-- a round's state: the words that are left, the quotient's words so far -/
structure DivI (U V L Q : Nat) (lu lq : List Nat) (k : Nat) : Prop where
  ul : lu.length = Q + L
  du : Dl WB lu
  ql : lq.length = Q
  dq : Dl WB lq
  hk : k ≤ Q
  lt : val WB lu < V * WB ^ k
  eq : val WB (lq.drop k) * WB ^ k * V + val WB lu = U
/-- the window: the words from i on -/
structure DivW (V L : Nat) (lw : List Nat) (W : Nat) : Prop where
  len : lw.length = L + 1
  dl : Dl WB lw
  hv : val WB lw = W
  lt : W < V * WB
theorem DivI.win {U V L Q k : Nat} {lu lq vs : List Nat} (h : DivI U V L Q lu lq k) (hs : DivS V L vs) (hk0 : 0 < k) :
    ∃ lw W, lu = lu.take (k - 1) ++ (lw ++ lu.drop (k + L)) ∧ val WB (lu.drop (k + L)) = 0 ∧ val WB lu = val WB (lu.take (k - 1)) + WB ^ (k - 1) * W ∧ DivW V L lw W ∧ ∀ j, j ≤ L → lu[k - 1 + j]?.getD 0 = lw[j]?.getD 0 := by
  have hk := h.hk
  have hlen := h.ul
  have e1 := val_split WB lu (k - 1)
  rw [Nat.min_eq_left (by omega)] at e1
  have e2 := val_split WB (lu.drop (k - 1)) (L + 1)
  rw [List.length_drop, Nat.min_eq_left (by omega), List.drop_drop, show k - 1 + (L + 1) = k + L by omega] at e2
  have hp : 0 < WB ^ (k - 1) := Nat.pow_pos WB_pos
  have hW : val WB (lu.drop (k - 1)) < V * WB := by
    have h1 := h.lt
    rw [e1, show WB ^ k = WB ^ (k - 1) * WB by rw [← Nat.pow_succ, show (k - 1).succ = k by omega]] at h1
    have h2 : WB ^ (k - 1) * val WB (lu.drop (k - 1)) < WB ^ (k - 1) * (V * WB) := by
      have e : V * (WB ^ (k - 1) * WB) = WB ^ (k - 1) * (V * WB) := by grind
      omega
    exact Nat.lt_of_mul_lt_mul_left h2
  have hz : val WB (lu.drop (k + L)) = 0 := by
    rcases Nat.eq_zero_or_pos (val WB (lu.drop (k + L))) with h0 | h0
    · exact h0
    · have h1 : WB ^ (L + 1) * 1 ≤ WB ^ (L + 1) * val WB (lu.drop (k + L)) := Nat.mul_le_mul_left _ h0
      have h2 : V * WB < WB ^ (L + 1) := by rw [Nat.pow_succ]; exact Nat.mul_lt_mul_of_pos_right hs.lt WB_pos
      omega
  refine ⟨(lu.drop (k - 1)).take (L + 1), val WB (lu.drop (k - 1)), ?_, hz, e1, ⟨by rw [List.length_take, List.length_drop]; omega, (h.du.drop _).take _, by rw [hz, Nat.mul_zero, Nat.add_zero] at e2; exact e2.symm, hW⟩, fun j hj => ?_⟩
  · conv => lhs; rw [← List.take_append_drop (k - 1) lu]
    conv => lhs; arg 2; rw [← List.take_append_drop (L + 1) (lu.drop (k - 1))]
    rw [List.drop_drop, show k - 1 + (L + 1) = k + L by omega]
  · rw [List.getElem?_take, if_pos (by omega), List.getElem?_drop]
/-- the first two words of the window, and the first one of the divisor -/
def two (lw : List Nat) (L : Nat) : Nat := lw[L]?.getD 0 * WB + lw[L - 1]?.getD 0
structure GuI (V L W : Nat) (lw vs : List Nat) (g r : Nat) : Prop where
  eq : g * vs[L - 1]?.getD 0 + r = two lw L
  lt : W < (g + 1) * V
theorem getD_lt {l : List Nat} (h : Dl WB l) (i : Nat) : l[i]?.getD 0 < 4294967296 := by
  have := h.getD WB_pos i
  rwa [List.getD_eq_getElem?_getD, WB_eq] at this
theorem two_lt64 {lw : List Nat} (h : Dl WB lw) (L : Nat) : two lw L < 18446744073709551616 := by
  have h1 := getD_lt h L
  have h2 := getD_lt h (L - 1)
  unfold two; rw [WB_eq]; omega
theorem GuI.start {V L W : Nat} {lw vs : List Nat} (hs : DivS V L vs) (hw : DivW V L lw W) : GuI V L W lw vs (two lw L / vs[L - 1]?.getD 0) (two lw L % vs[L - 1]?.getD 0) := by
  have ht := hs.top
  have hL := hs.hL
  refine ⟨by rw [Nat.mul_comm]; exact Nat.div_add_mod _ _, ?_⟩
  have e1 := val_top2 (l := lw) (L := L - 1) (by rw [hw.len]; omega)
  rw [show L - 1 + 1 = L by omega, hw.hv] at e1
  have e2 := val_take_succ' WB vs (L - 1)
  rw [show L - 1 + 1 = L by omega, List.take_of_length_le (by rw [hs.len]; exact Nat.le_refl _), hs.hv] at e2
  exact knuth_start (V := V) (top := vs[L - 1]?.getD 0) (Y := WB ^ (L - 1)) (vl := val WB (vs.take (L - 1))) (by rw [e2, Nat.mul_comm (WB ^ (L - 1))]; omega) e1 (val_take_lt hw.dl _) rfl (by omega)
theorem div_tops {V L W : Nat} {lw vs : List Nat} (hs : DivS V L vs) (hw : DivW V L lw W) :
    W = (two lw L * WB + lw[L - 2]?.getD 0) * WB ^ (L - 2) + val WB (lw.take (L - 2)) ∧ V = (vs[L - 1]?.getD 0 * WB + vs[L - 2]?.getD 0) * WB ^ (L - 2) + val WB (vs.take (L - 2)) := by
  have hL := hs.hL
  have e1 := val_top3 (l := lw) (L := L - 2) (by rw [hw.len]; omega)
  rw [show L - 2 + 2 = L by omega, show L - 2 + 1 = L - 1 by omega, hw.hv] at e1
  have e2 := val_top2 (l := vs) (L := L - 2) (by rw [hs.len]; omega)
  rw [show L - 2 + 1 = L - 1 by omega, hs.hv] at e2
  exact ⟨e1, e2⟩
/-- a guess that is too great for a word -/
theorem GuI.big {V L W g r : Nat} {lw vs : List Nat} (h : GuI V L W lw vs g r) (hw : DivW V L lw W) (hg : 4294967295 < g) : GuI V L W lw vs (g - 1) (r + vs[L - 1]?.getD 0) ∧ r + vs[L - 1]?.getD 0 < 18446744073709551616 := by
  have h1 := h.eq
  have h2 : g * vs[L - 1]?.getD 0 = (g - 1) * vs[L - 1]?.getD 0 + vs[L - 1]?.getD 0 := by
    conv => lhs; rw [show g = g - 1 + 1 by omega]
    rw [Nat.add_mul]; omega
  refine ⟨⟨by omega, ?_⟩, by have := two_lt64 hw.dl L; omega⟩
  rw [show g - 1 + 1 = g by omega]
  have h3 : V * WB ≤ g * V := by rw [Nat.mul_comm V]; exact Nat.mul_le_mul_right _ (by rw [WB_eq]; omega)
  exact Nat.lt_of_lt_of_le hw.lt h3
theorem over_e (g A B : Nat) : g * (A * WB + B) = g * A * 4294967296 + g * B := by rw [Nat.mul_add, ← Nat.mul_assoc, WB_eq]
theorem over_f {t g A r : Nat} (h : g * A + r = t) : t * WB = g * A * 4294967296 + r * 4294967296 := by rw [← h, Nat.add_mul, WB_eq]
theorem over_lt {t g A B r C : Nat} (h : g * A + r = t) (hg : r * 4294967296 + C < g * B) : t * WB + C < g * (A * WB + B) := by
  have h1 := over_e g A B
  have h2 := over_f h
  omega
theorem over_le {t g A B r C : Nat} (h : g * A + r = t) (hg : g * B ≤ r * 4294967296 + C) : g * (A * WB + B) ≤ t * WB + C := by
  have h1 := over_e g A B
  have h2 := over_f h
  omega
/-- a guess that is too great by the second word -/
theorem GuI.over {V L W g r : Nat} {lw vs : List Nat} (h : GuI V L W lw vs g r) (hs : DivS V L vs) (hw : DivW V L lw W) (hg : r * 4294967296 + lw[L - 2]?.getD 0 < g * vs[L - 2]?.getD 0) : 0 < g ∧ GuI V L W lw vs (g - 1) (r + vs[L - 1]?.getD 0) ∧ r + vs[L - 1]?.getD 0 < 18446744073709551616 := by
  have hg0 : 0 < g := by rcases Nat.eq_zero_or_pos g with h0 | h0; · subst h0; omega
                         · exact h0
  have h1 := h.eq
  have h2 : g * vs[L - 1]?.getD 0 = (g - 1) * vs[L - 1]?.getD 0 + vs[L - 1]?.getD 0 := by
    conv => lhs; rw [show g = g - 1 + 1 by omega]
    rw [Nat.add_mul]; omega
  refine ⟨hg0, ⟨by omega, ?_⟩, by have := two_lt64 hw.dl L; omega⟩
  rw [show g - 1 + 1 = g by omega]
  obtain ⟨e1, e2⟩ := div_tops hs hw
  refine knuth_round e2 e1 (val_take_lt hw.dl _) ?_
  exact over_lt h1 hg
/-- the guess at the end -/
theorem GuI.done {V L W g r : Nat} {lw vs : List Nat} (h : GuI V L W lw vs g r) (hs : DivS V L vs) (hw : DivW V L lw W) (hg : g ≤ 4294967295) (hc : 4294967295 < r ∨ g * vs[L - 2]?.getD 0 ≤ r * 4294967296 + lw[L - 2]?.getD 0) : g * V < W + V := by
  obtain ⟨e1, e2⟩ := div_tops hs hw
  have ht := hs.top
  have hsec := getD_lt hs.dl (L - 2)
  have hle : g * vs[L - 2]?.getD 0 ≤ r * 4294967296 + lw[L - 2]?.getD 0 := by
    rcases hc with h0 | h0
    · have := Nat.mul_le_mul (show g ≤ 4294967295 from hg) (show vs[L - 2]?.getD 0 ≤ 4294967295 by omega)
      omega
    · exact h0
  refine knuth_up e2 (val_take_lt hs.dl _) e1 ?_ ?_ hs.pos
  · exact over_le h.eq hle
  · rw [e2]
    have h1 : g ≤ vs[L - 1]?.getD 0 * WB + vs[L - 2]?.getD 0 := by rw [WB_eq]; omega
    have := Nat.mul_le_mul_right (WB ^ (L - 2)) h1
    omega
/-- the digit -/
theorem digit_less {W V g : Nat} (h1 : W < (g + 1) * V) (h2 : g * V < W + V) (hl : W < V * g) : 0 < g ∧ V * (g - 1) ≤ W ∧ W - V * (g - 1) < V := by
  have hg0 : 0 < g := by rcases Nat.eq_zero_or_pos g with h0 | h0; · subst h0; omega
                         · exact h0
  have h3 : g * V = V * (g - 1) + V := by conv => lhs; rw [show g = g - 1 + 1 by omega]
                                          rw [Nat.add_mul, Nat.mul_comm V]; omega
  rw [Nat.mul_comm V g] at hl
  omega
theorem digit_same {W V g : Nat} (h1 : W < (g + 1) * V) (hl : ¬ W < V * g) : V * g ≤ W ∧ W - V * g < V := by
  rw [Nat.add_mul, Nat.mul_comm g] at h1
  omega
/-- a round's end -/
theorem DivI.step {U V L Q k g W : Nat} {lu lq vs lw lr : List Nat} (h : DivI U V L Q lu lq k) (hs : DivS V L vs) (hk0 : 0 < k) (hz : val WB (lu.drop (k + L)) = 0) (he : val WB lu = val WB (lu.take (k - 1)) + WB ^ (k - 1) * W) (hw : DivW V L lw W)
    (hg1 : V * g ≤ W) (hg2 : W - V * g < V) (hg : g < 4294967296) (hr : lr = dig WB (W - V * g)) :
    DivI U V L Q (lu.take (k - 1) ++ (lr ++ (List.replicate (L + 1 - lr.length) 0 ++ lu.drop (k + L)))) (lq.set (k - 1) g) (k - 1) ∧ lr.length ≤ L + 1 ∧ lr.length ≤ Q + L - (k - 1) := by
  have hk := h.hk
  have hlu := h.ul
  have hrl : lr.length ≤ L + 1 := by
    rw [hr]
    refine dig_length_le WB_two (Nat.lt_of_lt_of_le (Nat.lt_trans hg2 hs.lt) (Nat.pow_le_pow_right WB_pos (by omega)))
  have hvr : val WB lr = W - V * g := by rw [hr, val_dig WB_two]
  have hlt : (lu.take (k - 1)).length = k - 1 := by rw [List.length_take]; omega
  have hval : val WB (lu.take (k - 1) ++ (lr ++ (List.replicate (L + 1 - lr.length) 0 ++ lu.drop (k + L)))) = val WB (lu.take (k - 1)) + WB ^ (k - 1) * (W - V * g) := by
    rw [val_append, val_append, val_append, val_replicate, hz, hvr, hlt]; simp
  have hp : 0 < WB ^ (k - 1) := Nat.pow_pos WB_pos
  refine ⟨⟨?_, ?_, by rw [List.length_set]; exact h.ql, h.dq.set _ (by rw [WB_eq]; exact hg), by omega, ?_, ?_⟩, hrl, by omega⟩
  · rw [List.length_append, List.length_append, List.length_append, List.length_replicate, List.length_drop, hlt]; omega
  · exact (h.du.take _).append ((by rw [hr]; exact dig_Dl WB_two _ : Dl WB lr).append ((Dl.replicate WB_pos _).append (h.du.drop _)))
  · rw [hval]
    have h1 := val_take_lt h.du (k - 1)
    have h2 : WB ^ (k - 1) * (W - V * g + 1) ≤ WB ^ (k - 1) * V := Nat.mul_le_mul_left _ hg2
    rw [Nat.mul_add] at h2
    rw [Nat.mul_comm V (WB ^ (k - 1))]
    omega
  · have hd : (lq.set (k - 1) g).drop (k - 1) = g :: lq.drop k := by
      rw [List.drop_set, if_neg (by omega), Nat.sub_self, List.drop_eq_getElem_cons (by have := h.ql; omega), List.set_cons_zero, show k - 1 + 1 = k by omega]
    rw [hval, hd, val_cons]
    have he2 := h.eq
    rw [he] at he2
    have hkp : WB ^ k = WB ^ (k - 1) * WB := by rw [← Nat.pow_succ, show (k - 1).succ = k by omega]
    rw [hkp] at he2
    have hWg : W = V * g + (W - V * g) := by omega
    generalize W - V * g = R at *
    generalize WB ^ (k - 1) = P at *
    generalize val WB (lq.drop k) = X at *
    generalize val WB (lu.take (k - 1)) = Y at *
    subst hWg
    rw [← he2]
    grind
theorem DivI.last {U V L Q s m n : Nat} {lu lq vs : List Nat} (h : DivI U V L Q lu lq 0) (hs : DivS V L vs) (hU : U = m * 2 ^ s) (hV : V = n * 2 ^ s) : val WB lq = m / n ∧ val WB lu / 2 ^ s = m % n := by
  have h1 := h.lt
  have h2 := h.eq
  rw [Nat.pow_zero, Nat.mul_one] at h1 h2
  rw [List.drop_zero] at h2
  have hp : 0 < 2 ^ s := Nat.pow_pos (by decide)
  have hV0 := hs.pos
  have hq : val WB lq = U / V := by
    rw [← h2, Nat.mul_comm, Nat.mul_add_div hV0, Nat.div_eq_of_lt h1, Nat.add_zero]
  have hr : val WB lu = U % V := by rw [← h2, Nat.mul_comm, Nat.mul_add_mod, Nat.mod_eq_of_lt h1]
  refine ⟨by rw [hq, hU, hV, Nat.mul_div_mul_right _ _ hp], ?_⟩
  rw [hr, hU, hV, Nat.mul_mod_mul_right, Nat.mul_div_cancel _ hp]
theorem DivI.start {V L Q s m : Nat} {lu vs : List Nat} (hs : DivS V L vs) (hlu : lu.length = Q + L) (hQ : 1 ≤ Q) (du : Dl WB lu) (hv : val WB lu = m * 2 ^ s) (hm : m < WB ^ (Q + L - 1)) (hsx : s < 32) : DivI (m * 2 ^ s) V L Q lu (List.replicate Q 0) Q := by
  refine ⟨hlu, du, List.length_replicate, Dl.replicate WB_pos _, Nat.le_refl _, ?_, by rw [List.drop_of_length_le (by rw [List.length_replicate]; exact Nat.le_refl _)]; simp [val, hv]⟩
  rw [hv]
  have h1 := hs.ge
  have hL := hs.hL
  have h2 : 2147483648 * WB ^ (L - 1) * WB ^ Q ≤ V * WB ^ Q := Nat.mul_le_mul_right _ h1
  have h3 : 2147483648 * WB ^ (L - 1) * WB ^ Q = WB ^ (Q + L - 1) * 2 ^ 31 := by
    rw [show Q + L - 1 = L - 1 + Q by omega, Nat.pow_add]; grind
  have h4 : m * 2 ^ s ≤ m * 2 ^ 31 := Nat.mul_le_mul_left _ (Nat.pow_le_pow_right (by decide) (by omega))
  have h5 : m * 2 ^ 31 < WB ^ (Q + L - 1) * 2 ^ 31 := Nat.mul_lt_mul_of_pos_right hm (by decide)
  omega
end Go.Proofs.YtocbklodkcdhkaaGreatDoor
