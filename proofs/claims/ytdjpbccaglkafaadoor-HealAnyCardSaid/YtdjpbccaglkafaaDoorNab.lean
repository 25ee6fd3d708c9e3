/- Words of natural numbers, by the reckoner: abs. Words of natural numbers, by the reckoner: less; contracts beside functions walked in place. -/
import Derived.Test.YtdjpbccaglkafaaDoorNaa
import Derived.Test.YtdjpbccaglkafaaDoorWka
import Derived.Test.YtdjpbccaglkafaaDoorEno
namespace Go.Proofs.YtdjpbccaglkafaaDoor
open Go.RowKit
set_option maxRecDepth 100000

theorem csp_of2 {P : Program} {E : Env} (hE : EOk P E) (hm : P.follows .mixedOrders = true) {H : FuncId → List SV → List Blk → (SV → List Blk → Prop) → Prop} (hH : HOk P H) {f : FuncId} {fn : Func} (hf : FnOk P f fn) {c : NewC}
    (h : ∀ args ros K, c args ros K → ∃ args' : List SV, (∀ ρ, args.map (SV.den ρ) = args'.map (SV.den ρ)) ∧ (∀ ρ ρ', (∀ i, i < ros.length → ρ i = ρ' i) → args'.map (SV.den ρ) = args'.map (SV.den ρ')) ∧ vcF E H fn args' ros (outK ros K)) : CSp P f c := by
  refine ⟨hf.callable, fun args ros K hc hro hpure ρ w hr => ?_⟩
  obtain ⟨args', h1, h2, h3⟩ := h args ros K hc
  rw [h1 ρ]
  exact (csp_of hE hm hH hf (c := fun a r k => a = args' ∧ r = ros ∧ k = K) (fun a r k hk => by obtain ⟨rfl, rfl, rfl⟩ := hk; exact ⟨h2, h3⟩)).2 args' ros K ⟨rfl, rfl, rfl⟩ hro hpure ρ w hr
theorem eff_len_str {T : TypeId → Option TI} {op : Op} {ev : Operand → SV} {hp : Nat → Option Blk} {c : Call} (ho : op = .call c) (hc : c.callee = .builtin .len) {x : Operand} {t : TypeId} (ha : c.args.toList = [x]) (ht : c.argTypes.toList = [t]) {sz : Nat} {ag : Bool} {z : List C} {eq : Option (List K)}
    (hT : T t = some ⟨sz, ag, z, .string, eq⟩) {s : ByteArray} (hx : ev x = .c (.val (.string s))) (h : IR s.size) : eff T op ev hp = some (.val (.c (.int s.size h))) := by
  subst ho
  simp only [eff, hc, ha, ht, hT, hx]
  rw [dif_pos h]
theorem eff_index_str {T : TypeId → Option TI} {op : Op} {ev : Operand → SV} {hp : Nat → Option Blk} {t : TypeId} {x i : Operand} (ho : op = .index t x i) {sz : Nat} {ag : Bool} {z : List C} {eq : Option (List K)} (hT : T t = some ⟨sz, ag, z, .string, eq⟩)
    {s : ByteArray} (hx : ev x = .c (.val (.string s))) {k : Nat} {hi : IR k} (hk : ev i = .c (.int k hi)) (hlt : k < s.size) : eff T op ev hp = some (.val (.c (.val (.int .u8 ((s.data[k]?.getD 0).toNat))))) := by
  subst ho
  simp only [eff, hT, hx, hk]
  show (if k < s.size then _ else _) = _
  rw [if_pos hlt]
/-- the two cells of a number that may not be canonical -/
def NumA (x : List C) (b : Bool) (s : ByteArray) : Prop := ∀ ρ, cellsL ρ x = [.bool b, .string s]
theorem NumA.wid {k : Nat} {z : Int} {h : Sm k z} : NumA [.wid k z h] (decide (z < 0)) ⟨(mag z.natAbs).toArray⟩ := fun _ => rfl
theorem NumA.raw {b : Bool} {s : ByteArray} : NumA [.val (.bool b), .val (.string s)] b s := fun _ => rfl
theorem NumA.den {x : List C} {b : Bool} {s : ByteArray} (h : NumA x b s) (ρ : Rho) : (SV.agg x).den ρ = (SV.agg [.val (.bool b), .val (.string s)]).den ρ := by
  simp only [SV.den, h ρ]; rfl
def cAbs : NewC := fun args ros K => ∃ x b s, args = [.agg x] ∧ ros = [] ∧ NumA x b s ∧ s.size ≤ 300000000 ∧ ∀ o : OW, o.l = dig WB (mval s.data.toList) → K (o.sl 0) [o.blk]
theorem abs_make {n : Nat} (h : n ≤ 300000000) : IntKind.i64.wrap ((IntKind.i64.wrap (IntKind.i64.wrap ((n : Int) + 4) - 1)).tdiv 4) = (((n + 3) / 4 : Nat) : Int) := by
  rw [wrap_id (z := (n : Int) + 4) (by unfold IR; omega), wrap_id (z := (n : Int) + 4 - 1) (by unfold IR; omega), Int.tdiv_eq_ediv_of_nonneg (by omega), wrap_id (by unfold IR; omega)]; omega
theorem abs_k {n i : Nat} (h : n ≤ 300000000) (hi : i < n) : IntKind.i64.wrap (IntKind.i64.wrap ((n : Int) - 1) - (i : Int)) = ((n - 1 - i : Nat) : Int) := by
  rw [wrap_id (z := (n : Int) - 1) (by unfold IR; omega), wrap_id (by unfold IR; omega)]; omega
theorem abs_q {z : Int} {k : Nat} (e : z = k) (h : k ≤ 300000000) : IntKind.i64.wrap (z.tdiv 4) = ((k / 4 : Nat) : Int) := by
  subst e
  rw [Int.tdiv_eq_ediv_of_nonneg (by omega), wrap_id (by unfold IR; omega)]; omega
theorem abs_m {z : Int} {k : Nat} (e : z = k) : IntKind.i64.wrap (8 * z.tmod 4) = ((8 * (k % 4) : Nat) : Int) := by
  subst e
  rw [Int.tmod_eq_emod_of_nonneg (by omega), wrap_id (by unfold IR; omega)]; omega
theorem u8_u64 (b : UInt8) : IntKind.u64.wrap (b.toNat : Int) = (b.toNat : Int) := u64_nat rfl (by have := UInt8.toNat_lt b; omega)
def AbsI (s : ByteArray) (lo : List Nat) (i : Nat) : Prop := lo.length = (s.size + 3) / 4 ∧ Dl WB lo ∧ val WB lo = 256 ^ (s.size - i) * mval (s.data.toList.take i)
def sb (s : ByteArray) (i : Nat) : UInt8 := s.data[i]?.getD 0
theorem sb_get {s : ByteArray} {i : Nat} (h : i < s.size) : s.data.toList[i]? = some (sb s i) := by
  have h2 : i < s.data.size := h
  unfold sb
  rw [Array.getElem?_toList, Array.getElem?_eq_getElem h2]; rfl
theorem AbsI.step {s : ByteArray} {lo : List Nat} {i : Nat} (h : AbsI s lo i) (hi : i < s.size) {hk : (s.size - 1 - i) / 4 < lo.length} : AbsI s (lo.set ((s.size - 1 - i) / 4) (lo[(s.size - 1 - i) / 4] ||| (sb s i).toNat * 2 ^ (8 * ((s.size - 1 - i) % 4)))) (i + 1) ∧ (sb s i).toNat * 2 ^ (8 * ((s.size - 1 - i) % 4)) < 4294967296 ∧ lo[(s.size - 1 - i) / 4] < 4294967296 := by
  obtain ⟨h1, h2, h3⟩ := h
  have := abs_step' (n := s.size) h2 (by rw [Array.length_toList]; rfl) (sb_get hi) hk h3
  rw [getD_get hk] at this
  exact ⟨⟨by rw [List.length_set]; exact h1, h2.set _ this.1, this.2⟩, byte_shl_lt (UInt8.toNat_lt _) (by omega), h2.get _ hk⟩
theorem irle {k n : Nat} (h : IR (n : Int)) (hk : k ≤ n) : IR (k : Int) := by unfold IR at *; omega
set_option maxHeartbeats 8000000 in
theorem csAbs : CSp Tryd.prog 64 cAbs := csp_of2 (envM_ok 0) mixed (hnew_ok normC_ok (inl_ok (envM_ok 0) mixed noF_ok 0)) ⟨Tryd.func64, by kernel_rfl, by kernel_rfl⟩ fun args ros K hc => by
  obtain ⟨x, b, s, rfl, rfl, hx, hss, hc⟩ := hc
  have hsz : IR (s.size : Int) := by unfold IR; omega
  refine ⟨[.agg [.val (.bool b), .val (.string s)]], fun ρ => by show [(SV.agg x).den ρ] = _; rw [hx.den ρ]; rfl, fun _ _ _ => rfl, ?_⟩
  conv => whnf
  conv =>
    arg 2
    tactic' =>
      apply eff_len_str (ho := ?how1) (hc := ?hcw1) (ha := ?haw1) (ht := ?htw1) (hT := ?hTw1) (hx := ?hxw1) (h := ?hw1)
      case how1 => rfl
      case hcw1 => rfl
      case haw1 => rfl
      case htw1 => rfl
      case hTw1 => rfl
      case hxw1 => rfl
      case hw1 => exact hsz
  conv => whnf
  refine ⟨rfl, ((s.size + 3) / 4), ((s.size + 3) / 4), abs_make hss, abs_make hss, Nat.le_refl _, by omega, fun h2 => ?_⟩
  conv => whnf
  conv =>
    arg 2
    tactic' =>
      apply eff_len_str (ho := ?how1) (hc := ?hcw1) (ha := ?haw1) (ht := ?htw1) (hT := ?hTw1) (hx := ?hxw1) (h := ?hw1)
      case how1 => rfl
      case hcw1 => rfl
      case haw1 => rfl
      case htw1 => rfl
      case hTw1 => rfl
      case hxw1 => rfl
      case hw1 => exact hsz
  conv => whnf
  refine loop_st (G := {g : Nat × List Nat × (Nat → Value) // g.1 ≤ s.size ∧ AbsI s g.2.1 g.1}) (fun g => [.c (.val (g.1.2.2 0)), .c (.ptr 0 0), .c (.val (g.1.2.2 2)), .c (.sli false 1 0 ((s.size + 3) / 4) ((s.size + 3) / 4) h2), .c (.val (g.1.2.2 4)), .c (.val (g.1.2.2 5)), .c (.val (g.1.2.2 6)), .c (.val (g.1.2.2 7)), .c (.val (g.1.2.2 8)), .c (.val (g.1.2.2 9)), .c (.val (g.1.2.2 10)), .c (.val (g.1.2.2 11)), .c (.val (g.1.2.2 12)), .c (.val (g.1.2.2 13)), .c (.val (g.1.2.2 14)), .c (.int (s.size : Nat) hsz), .c (.int (g.1.1 : Nat) (irle hsz g.2.1)), .c (.val (g.1.2.2 17)), .c (.val (g.1.2.2 18)), .c (.val (g.1.2.2 19)), .c (.val (g.1.2.2 20)), .c (.val (g.1.2.2 21)), .c (.val (g.1.2.2 22)), .c (.val (g.1.2.2 23)), .c (.val (g.1.2.2 24)), .c (.val (g.1.2.2 25)), .c (.val (g.1.2.2 26)), .c (.val (g.1.2.2 27)), .c (.val (g.1.2.2 28)), .c (.val (g.1.2.2 29)), .c (.val (g.1.2.2 30)), .c (.val (g.1.2.2 31)), .c (.val (g.1.2.2 32)), .c (.val (g.1.2.2 33)), .c (.val (g.1.2.2 34)), .c (.val (g.1.2.2 35)), .c (.val (g.1.2.2 36)), .c (.val (g.1.2.2 37)), .c (.val (g.1.2.2 38)), .c (.val (g.1.2.2 39)), .c (.val (g.1.2.2 40)), .c (.val (g.1.2.2 41)), .c (.val (g.1.2.2 42)), .c (.val (g.1.2.2 43))]) (fun g => [⟨84, false, [.val (.bool b), .val (.string s)], 0⟩, ⟨96, false, wsC g.1.2.1, 0⟩]) (fun g => s.size - g.1.1) ?_ ?_
  · refine ⟨[0, 1], [1, 3, 15, 16], [0, 1], fun vs => ?_⟩
    conv => whnf
    refine ⟨fun _ _ => rfl, rep_pure _, ?_⟩
    conv => whnf
    refine ⟨_, _, ?_, ?_, ⟨(0, List.replicate ((s.size + 3) / 4) 0, vs), Nat.zero_le _, List.length_replicate, Dl.replicate WB_pos _, by simp [val_replicate, mval, val]⟩, rfl, rfl⟩
    · exact ⟨fun _ => rfl, fun _ => rfl, fun _ => rfl, fun _ => rfl, fun _ => rfl, fun _ => rfl, fun _ => rfl, fun _ => rfl, fun _ => rfl, fun _ => rfl, fun _ => rfl, fun _ => rfl, stm _⟩
    · exact ⟨⟨rfl, rfl, rfl, fun _ => rfl⟩, ⟨rfl, rfl, Nat.sub_self _, fun ρ => by rw [← wsC_rep]; rfl⟩, trivial⟩
  · rintro ⟨⟨i, lo, vs⟩, hi, hs⟩
    have hi : i ≤ s.size := hi
    have hs : AbsI s lo i := hs
    conv => whnf
    refine bcase_intro (fun hlt => ?_) (fun hlt => ?_)
    · have hlt : i < s.size := n_lt hlt
      have hj : (s.size - 1 - i) / 4 < lo.length := by have := hs.1; omega
      have hj2 : (s.size - 1 - i) / 4 < (s.size + 3) / 4 := by omega
      have hjr : IR (((s.size - 1 - i) / 4 : Nat) : Int) := by unfold IR; omega
      have ek := abs_k hss hlt
      have eq := abs_q ek (by omega)
      obtain ⟨hs2, hw1, hw2⟩ := hs.step hlt (hk := hj)
      have eo := or_natE (y := ((lo[(s.size - 1 - i) / 4]'hj) : Int)) (n := (sb s i).toNat * 2 ^ (8 * ((s.size - 1 - i) % 4))) rfl rfl (by omega) (by omega)
      conv => whnf
      conv =>
        arg 2
        tactic' =>
          apply eff_len_str (ho := ?how1) (hc := ?hcw1) (ha := ?haw1) (ht := ?htw1) (hT := ?hTw1) (hx := ?hxw1) (h := ?hw1)
          case how1 => rfl
          case hcw1 => rfl
          case haw1 => rfl
          case htw1 => rfl
          case hTw1 => rfl
          case hxw1 => rfl
          case hw1 => exact hsz
      conv => whnf
      conv =>
        arg 2
        tactic' =>
          apply eff_index_sli (hi := hjr) (ho := ?how2) (hT := ?hTw2) (hx := ?hxw2) (hk := ?hkw2) (hlt := ?hltw2)
          case how2 => rfl
          case hTw2 => rfl
          case hxw2 => rfl
          case hkw2 => exact cint eq hjr
          case hltw2 => exact hj2
      conv => whnf
      conv =>
        arg 2
        tactic' =>
          apply eff_load_sub (m := [wC (lo[(s.size - 1 - i) / 4]'hj)]) (ho := ?how3) (hT := ?hTw3) (hx := ?hxw3) (hb := ?hbw3) (hm := ?hmw3) (hv := ?hvw3)
          case how3 => rfl
          case hTw3 => rfl
          case hxw3 => rfl
          case hbw3 => rfl
          case hmw3 => exact (WAt.get (l := lo) ⟨wsC_pure lo, [], [], by rw [List.append_nil]; rfl, rfl⟩ hj)
          case hvw3 => rfl
      conv => whnf
      conv =>
        arg 2
        tactic' =>
          apply eff_index_str (hi := irle hsz hi) (ho := ?how4) (hT := ?hTw4) (hx := ?hxw4) (hk := ?hkw4) (hlt := ?hltw4)
          case how4 => rfl
          case hTw4 => rfl
          case hxw4 => rfl
          case hkw4 => rfl
          case hltw4 => exact hlt
      conv => whnf
      conv =>
        arg 2
        tactic' =>
          apply eff_bini (v := .int .u64 (((sb s i).toNat * 2 ^ (8 * ((s.size - 1 - i) % 4)) : Nat) : Int)) (ho := ?how5) (hx := ?hxw5) (hy := ?hyw5) (hb := ?hbw5)
          case how5 => rfl
          case hxw5 => rfl
          case hyw5 => rfl
          case hbw5 => exact shl_pure (u8_u64 _) (abs_m ek) (by omega) (by omega)
      conv => whnf
      conv =>
        arg 2
        tactic' =>
          apply eff_index_sli (hi := hjr) (ho := ?how6) (hT := ?hTw6) (hx := ?hxw6) (hk := ?hkw6) (hlt := ?hltw6)
          case how6 => rfl
          case hTw6 => rfl
          case hxw6 => rfl
          case hkw6 => exact cint eq hjr
          case hltw6 => exact hj2
      conv => whnf
      conv =>
        arg 2
        tactic' =>
          apply eff_store_at (l := [wC (((lo[(s.size - 1 - i) / 4]'hj) ||| (sb s i).toNat * 2 ^ (8 * ((s.size - 1 - i) % 4))))]) (cs := wsC (lo.set ((s.size - 1 - i) / 4) ((lo[(s.size - 1 - i) / 4]'hj) ||| (sb s i).toNat * 2 ^ (8 * ((s.size - 1 - i) % 4))))) (ho := ?how7) (hT := ?hTw7) (hx := ?hxw7) (hy := ?hyw7) (hl := ?hlw7) (hb := ?hbw7) (hro := ?hrow7) (hs := ?hsw7)
          case how7 => rfl
          case hTw7 => rfl
          case hxw7 => rfl
          case hyw7 => exact congrArg (fun z => some [C.val (.int .u64 z)]) eo
          case hlw7 => exact ⟨rfl, rfl⟩
          case hbw7 => rfl
          case hrow7 => rfl
          case hsw7 => exact splice_ws hj _
      conv => whnf
      rw [forceL_eq]
      conv => whnf
      refine ⟨[0, 1], [1, 3, 15, 16], [0, 1], fun vs2 => ?_⟩
      conv => whnf
      refine ⟨fun _ _ => rfl, wsC_pure _, ?_⟩
      conv => whnf
      refine ⟨_, _, ?_, ?_, ⟨(i + 1, lo.set ((s.size - 1 - i) / 4) ((lo[(s.size - 1 - i) / 4]'hj) ||| (sb s i).toNat * 2 ^ (8 * ((s.size - 1 - i) % 4))), vs2), hlt, hs2⟩, (by omega : s.size - (i + 1) < s.size - i), rfl, rfl⟩
      · exact ⟨fun _ => rfl, fun _ => rfl, fun _ => rfl, fun _ => rfl, fun _ => rfl, fun _ => rfl, fun _ => rfl, fun _ => rfl, fun _ => rfl, fun _ => rfl, fun _ => rfl, fun _ => rfl, fun _ => rfl, fun _ => rfl, fun _ => rfl, fun _ => rfl, sint_eq (wrap_add1 hlt hsz) _ _, stm _⟩
      · exact ⟨⟨rfl, rfl, rfl, fun _ => rfl⟩, ⟨rfl, rfl, rfl, fun _ => rfl⟩, trivial⟩
    · have hke : i = s.size := Nat.le_antisymm hi (n_ge hlt)
      subst hke
      have hv : val WB lo = mval s.data.toList := by
        have := hs.2.2
        rw [Nat.sub_self, Nat.pow_zero, Nat.one_mul, List.take_of_length_le (by rw [Array.length_toList]; exact Nat.le_refl _)] at this
        exact this
      conv => whnf
      refine ⟨⟨wsC_pure _, trivial⟩, ⟨_, _, _, _, _, _, _, lo, rfl, rfl, hs.1, ⟨wsC_pure _, [], [], by rw [List.append_nil]; rfl, rfl⟩, fun h3 => ?_⟩⟩
      conv => whnf
      refine ⟨[1], [0], fun vs9 => ?_⟩
      conv => whnf
      refine ⟨wsC_pure _, ?_⟩
      conv => whnf
      refine ⟨_, [(OW.ofNorm lo ((s.size + 3) / 4) h3 (Nat.le_of_eq hs.1)).blk], rfl, ⟨⟨rfl, rfl, ?_, fun ρ => ?_⟩, trivial⟩, ⟨OW.new _, trivial⟩, _, fun ρ => OW.ofNorm_sl 0 ρ, hc _ ?_⟩
      · rw [OW.ofNorm_blk]; have := hs.1; show 0 = ((s.size + 3) / 4) - lo.length; omega
      · rw [OW.ofNorm_blk]
      · rw [OW.ofNorm_l hs.2.1, hv]
end Go.Proofs.YtdjpbccaglkafaaDoor

namespace Go.Proofs.YtdjpbccaglkafaaDoor
open Go.RowKit
set_option maxRecDepth 100000

/-- arguments, reckoned to the end -/
def argsF : List SV → (List SV → Prop) → Prop
  | [], K => K []
  | x :: l, K => x.force fun x => argsF l fun l => K (x :: l)
theorem argsF_eq : ∀ (l : List SV) (K : List SV → Prop), argsF l K = K l
  | [], _ => rfl
  | x :: l, K => by unfold argsF; rw [SV.force_eq, argsF_eq l]
/-- contracts, and beside them functions walked in place -/
def mix (l : List (FuncId × NewC)) (E : Env) (F : FuncId → Option Func) : Nat → FuncId → List SV → List Blk → (SV → List Blk → Prop) → Prop
  | 0 => hnew l fun _ _ _ _ => False
  | n + 1 => hnew l fun f args hp K => (match F f with | some fn => argsF args fun args => vcF E (mix l E F n) fn args hp K | none => False)
theorem mix_ok {P : Program} {l : List (FuncId × NewC)} (hl : AllC P l) {E : Env} (hE : EOk P E) (hm : P.follows .mixedOrders = true) {F : FuncId → Option Func} (hF : ∀ f fn, F f = some fn → FnOk P f fn) : ∀ n, HOk P (mix l E F n)
  | 0 => hnew_ok hl fun f args hp K h => h.elim
  | n + 1 => hnew_ok hl fun f args hp K h => by
    split at h
    · rename_i fn hfn
      rw [argsF_eq] at h
      exact ⟨(hF f fn hfn).callable, fun N w0 ρ0 w hh hargs => fn_ok hE hm (mix_ok hl hE hm hF n) (hF f fn hfn) h N w0 ρ0 w hh hargs⟩
    · exact h.elim
def envA (un : Nat) : Env where
  T := tyT
  un := un
  D := fun _ _ _ => none
  O := oAll tyT
theorem envA_ok (un : Nat) : EOk Tryd.prog (envA un) where
  T := tyT_ok
  D f args hf p v h := by cases h
  O := oAll_ok tyT_ok
def lessC : List (FuncId × NewC) := [(73, cNorm), (72, cMul), (80, cCmp), (81, cSub)]
theorem lessC_ok : AllC Tryd.prog lessC := .cons csNorm <| .cons csMul <| .cons csCmp <| .cons csSub .nil
/-- less: the first words of a, one more than those of b, against b times a word -/
def cLess : NewC := fun args ros K => ∃ offa lena capa ha tya csa lw nlb offb lenb capb hb tyb csb lb, ∃ d : Nat, args = [.c (.sli false 0 offa lena capa ha), .c (.sli nlb 1 offb lenb capb hb), .c (wC d)] ∧ ros = [⟨tya, true, csa, 0⟩, ⟨tyb, true, csb, 0⟩] ∧
  lw.length = lenb + 1 ∧ lenb + 1 ≤ lena ∧ lb.length = lenb ∧ WAt csa offa lw ∧ WAt csb offb lb ∧ Dl WB lw ∧ Dl WB lb ∧ lenb ≤ 90000000 ∧ d < 4294967296 ∧ K (.c (.val (.bool (decide (val WB lw < val WB lb * d))))) []
theorem WAt.all {cs : List C} {off : Nat} {l : List Nat} (h : WAt cs off l) {n : Nat} (hn : n = l.length) : subC cs off (n * 1) = some (wsC l) := by
  obtain ⟨_, A, B, rfl, rfl⟩ := h
  rw [Nat.mul_one, hn, ← wsC_size l]
  exact subC_app A (wsC l) B
theorem WAt.norm (l : List Nat) : WAt (wsC l) 0 (l.take (tlen l)) := by
  have := WAt.self (l.take (tlen l)) (l.drop (tlen l))
  rwa [List.take_append_drop] at this
theorem WAt.ow (o : OW) : WAt (wsC (o.l ++ o.r)) 0 o.l := WAt.self o.l o.r
theorem tlen_dig {l : List Nat} (h : Dl WB l) : (dig WB (val WB l)).length = tlen l := by
  rw [← take_tlen WB_two h, List.length_take, Nat.min_eq_left (tlen_le l)]
theorem WAt.normd {l : List Nat} (h : Dl WB l) : WAt (wsC l) 0 (dig WB (val WB l)) := by
  rw [← take_tlen WB_two h]; exact WAt.norm l
theorem Dl.word {d : Nat} (h : d < 4294967296) : Dl WB [d] := Dl.one (by rw [WB_eq]; exact h)
theorem val_word (d : Nat) : val WB [d] = d := by simp [val]
theorem tlen_le1 (d : Nat) : tlen [d] ≤ 1 := tlen_le [d]
theorem cmpE_neg {m n : Nat} : decide (cmpE m n < 0) = decide (m < n) := by
  unfold cmpE
  split
  · rename_i h; rw [decide_eq_true h]; rfl
  · rename_i h; rw [decide_eq_false h]; split <;> rfl
end Go.Proofs.YtdjpbccaglkafaaDoor
