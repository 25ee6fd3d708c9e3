/- law 01: a number of the arguments. law 01: sanity. -/
import Derived.Test.YtbhcmajeoamloaaDoorNac
namespace Go.Proofs.YtbhcmajeoamloaaDoor
open Go.RowKit
set_option maxRecDepth 100000

theorem imp_via {Z G : Prop} (h : Z → G) (z : Z) : G := h z
/-- how many zeros are in front -/
def zN (n : Int) : Nat := (n % 4).toNat
theorem zN_lt (n : Int) : zN n < 4 := by unfold zN; omega
theorem zN_sli (n : Int) : SliOk false (zN n) (zN n) := ⟨Nat.le_refl _, by have := zN_lt n; omega, fun h => by cases h⟩
/-- the bytes of a number -/
def mkL (z : Int) (l : List UInt8) : List UInt8 := (List.replicate (zN z) 0 ++ l).take 40
def mkS (z : Int) (l : List UInt8) : ByteArray := ⟨(mkL z l).toArray⟩
theorem mkS_size (z : Int) (l : List UInt8) : (mkS z l).size ≤ 40 := by
  show (mkL z l).toArray.size ≤ 40
  rw [List.size_toArray]; unfold mkL; rw [List.length_take]; omega
def unB : List C → List UInt8
  | .val (.int .u8 z) :: l => UInt8.ofNat z.toNat :: unB l
  | _ => []
theorem unB_bs : ∀ l : List UInt8, unB (bsC l) = l
  | [] => rfl
  | b :: l => by
    show UInt8.ofNat ((b.toNat : Int)).toNat :: unB (bsC l) = _
    rw [unB_bs l, Int.toNat_natCast, UInt8.ofNat_toNat]
def bsOf (cs : List C) (off len : Nat) : List UInt8 := match subC cs off len with | some m => unB m | none => []
theorem bsOf_eq {cs : List C} {off len : Nat} {l : List UInt8} (h : subC cs off len = some (bsC l)) : bsOf cs off len = l := by
  unfold bsOf; rw [h]; exact unB_bs l
theorem bs_take (l : List UInt8) {k : Nat} (hk : k ≤ l.length) : subC (bsC l) 0 k = some (bsC (l.take k)) := by
  have e : bsC l = bsC (l.take k) ++ bsC (l.drop k) := by rw [← bsC_append, List.take_append_drop]
  have s2 : sizeC (bsC (l.take k)) = k := by rw [bsC_size, List.length_take]; omega
  have := subC_app [] (bsC (l.take k)) (bsC (l.drop k))
  rw [s2, List.nil_append, ← e] at this
  exact this
theorem bs_all (l : List UInt8) {n : Nat} (hn : n = l.length) : subC (bsC l) 0 n = some (bsC l) := by
  subst hn; have := bs_take l (Nat.le_refl _); rwa [List.take_length] at this
theorem bs_one : ∀ l : List UInt8, allOne (bsC l) = true
  | [] => rfl
  | _ :: l => by show (true && allOne (bsC l)) = true; rw [bs_one l]; rfl
theorem min_nat (n m : Nat) : minI (n : Int) (m : Int) = ((min n m : Nat) : Int) := by unfold minI; split <;> omega
noncomputable def fxMade : FuncId → Option Func := lk [(53, Tryd.f53), (50, Tryd.f50)]
theorem fxMade_ok : ∀ f fn, fxMade f = some fn → FnOk Tryd.prog f fn := lkF_ok fun x hx => by
  simp only [List.mem_cons, List.not_mem_nil, or_false] at hx
  rcases hx with rfl | rfl
  · exact ⟨Tryd.func53, by kernel_rfl, by kernel_rfl⟩
  · exact ⟨Tryd.func50, by kernel_rfl, by kernel_rfl⟩
def envW : Env := envN 0 [] [] fun i => i == 1
theorem envW_ok : EOk Tryd.prog envW := envN_ok .nil .nil 0 fun i => i == 1
theorem zmod (z : Int) : (IntKind.i64.wrap (z.tmod 4 + 4)).tmod 4 = ((zN z : Nat) : Int) := by
  have h1 : z.tmod 4 = z % 4 ∨ (z.tmod 4 = z % 4 - 4 ∧ 0 < z % 4) := by
    obtain ⟨n, rfl | rfl⟩ := Int.eq_nat_or_neg z
    · left; exact Int.tmod_eq_emod_of_nonneg (by omega)
    · rw [Int.neg_tmod, Int.tmod_eq_emod_of_nonneg (by omega)]; omega
  rw [wrap_id (by unfold IR; omega), Int.tmod_eq_emod_of_nonneg (by omega)]
  unfold zN; omega
theorem take_min (L : List UInt8) : L.take (min L.length 40) = L.take 40 := by
  by_cases h : L.length ≤ 40
  · rw [Nat.min_eq_left h, List.take_length, List.take_of_length_le h]
  · rw [Nat.min_eq_right (by omega)]
theorem made_sub (z : Int) (l : List UInt8) : subC (repX (zN z) (.val (.int .u8 0)) ++ bsC l) 0 (min (zN z + l.length) 40) = some (bsC (mkL z l)) := by
  rw [bsC_rep, ← bsC_append]
  have e : (List.replicate (zN z) 0 ++ l).length = zN z + l.length := by rw [List.length_append, List.length_replicate]
  have := bs_take (List.replicate (zN z) 0 ++ l) (k := min (zN z + l.length) 40) (by rw [e]; exact Nat.min_le_left _ _)
  rw [this, ← e, take_min]; rfl
theorem mkL_len (z : Int) (l : List UInt8) : (mkL z l).length = min (zN z + l.length) 40 := by
  unfold mkL; rw [List.length_take, List.length_append, List.length_replicate, Nat.min_comm]
set_option maxHeartbeats 8000000 in
theorem vcNumW (neg : Bool) (nl : Bool) (cap : Nat) (z : Int) (hz : IR z) (ty : TypeId) (l : List UInt8) (hl : SliOk nl l.length cap) (hle : l.length ≤ 140737488351232) :
    vcF envW (inl envW fxMade 1) Tryd.f16 [.agg [.val (.bool neg), .sli nl 0 0 l.length cap hl, .int z hz]] [⟨ty, true, bsC l, 0⟩] fun u _ => ∀ ρ, u.den ρ = (SV.agg [.val (.bool neg), .val (.string (mkS z l))]).den ρ := by
  have hz4 := zN_lt z
  have hroom : (zN z + l.length) * 1 ≤ 140737488355328 := by omega
  conv => whnf
  refine imp_via (Z := ?Z1_0 ∧ ?Z1_1 ∧ ?Z1_2) (fun hmg => ?cur1) ?nxt1
  case cur1 =>
    refine ⟨?_, ?_, ?_, trivial⟩
    · conv => whnf
      exact hmg.1
    · conv => whnf
      exact hmg.2.1
    · conv => whnf
      exact hmg.2.2
  case nxt1 =>
    refine imp_via (Z := ?Z2_0 ∧ ?Z2_1 ∧ ?Z2_2 ∧ ?Z2_3 ∧ ?Z2_4 ∧ ?Z2_5) (fun hmg => ?cur2) ?nxt2
    case cur2 =>
      refine ⟨?_, ?_, ?_⟩
      · refine ⟨?_, ?_, ?_, trivial⟩
        · conv => whnf
          exact hmg.1
        · conv => whnf
          exact hmg.2.1
        · conv => whnf
          exact hmg.2.2.1
      · refine ⟨?_, ?_, ?_, trivial⟩
        · conv => whnf
          exact hmg.2.1
        · conv => whnf
          exact hmg.2.2.2.1
        · conv => whnf
          exact hmg.2.2.2.2.1
      · refine ⟨?_, ?_, ?_, trivial⟩
        · conv => whnf
          exact hmg.2.2.1
        · conv => whnf
          exact hmg.2.2.2.2.1
        · conv => whnf
          exact hmg.2.2.2.2.2
    case nxt2 =>
      refine imp_via (Z := ?Z3_0 ∧ ?Z3_1 ∧ ?Z3_2 ∧ ?Z3_3 ∧ ?Z3_4 ∧ ?Z3_5 ∧ ?Z3_6 ∧ ?Z3_7) (fun hmg => ?cur3) ?nxt3
      case cur3 =>
        refine ⟨?_, ?_, ?_, ?_, ?_, ?_⟩
        · refine ⟨?_, ?_, ?_, trivial⟩
          · conv => whnf
            exact hmg.1
          · conv => whnf
            exact hmg.2.1
          · conv => whnf
            exact hmg.2.2.1
        · refine ⟨?_, ?_, ?_, trivial⟩
          · conv => whnf
            exact hmg.2.1
          · conv => whnf
            exact hmg.2.2.2.1
          · conv => whnf
            exact hmg.2.2.2.2.1
        · refine ⟨?_, ?_, ?_, trivial⟩
          · conv => whnf
            exact hmg.2.2.1
          · conv => whnf
            exact hmg.2.2.2.2.1
          · conv => whnf
            exact hmg.2.2.2.2.2.1
        · refine ⟨?_, ?_, trivial⟩
          · conv => whnf
            exact hmg.2.2.2.1
          · conv => whnf
            exact hmg.2.2.2.2.2.2.1
        · refine ⟨?_, ?_, ?_, trivial⟩
          · conv => whnf
            exact hmg.2.2.2.2.1
          · conv => whnf
            exact hmg.2.2.2.2.2.2.1
          · conv => whnf
            exact hmg.2.2.2.2.2.2.2
        · refine ⟨?_, ?_, trivial⟩
          · conv => whnf
            exact hmg.2.2.2.2.2.1
          · conv => whnf
            exact hmg.2.2.2.2.2.2.2
      case nxt3 =>
        refine imp_via (Z := ?Z4_0 ∧ ?Z4_1 ∧ ?Z4_2 ∧ ?Z4_3 ∧ ?Z4_4 ∧ ?Z4_5 ∧ ?Z4_6 ∧ ?Z4_7 ∧ ?Z4_8) (fun hmg => ?cur4) ?nxt4
        case cur4 =>
          refine ⟨?_, ?_, ?_, ?_, ?_, ?_, ?_, ?_⟩
          · refine ⟨?_, ?_, ?_, trivial⟩
            · conv => whnf
              refine ⟨rfl, zN z, zN z, zmod z, zmod z, Nat.le_refl _, Nat.le_trans (Nat.le_of_lt (zN_lt z)) (by decide), fun h2 => ?_⟩
              obtain rfl : h2 = zN_sli z := rfl
              conv => whnf
              exact hmg.1
            · conv => whnf
              exact hmg.2.1
            · conv => whnf
              exact hmg.2.2.1
          · refine ⟨?_, ?_, ?_, trivial⟩
            · conv => whnf
              exact hmg.2.1
            · conv => whnf
              exact hmg.2.2.2.1
            · conv => whnf
              exact hmg.2.2.2.2.1
          · refine ⟨?_, ?_, ?_, trivial⟩
            · conv => whnf
              exact hmg.2.2.1
            · conv => whnf
              exact hmg.2.2.2.2.1
            · conv => whnf
              exact hmg.2.2.2.2.2.1
          · refine ⟨?_, ?_, trivial⟩
            · conv => whnf
              exact hmg.2.2.2.1
            · conv => whnf
              exact hmg.2.2.2.2.2.2.1
          · refine ⟨?_, ?_, ?_, trivial⟩
            · conv => whnf
              exact hmg.2.2.2.2.1
            · conv => whnf
              exact hmg.2.2.2.2.2.2.1
            · conv => whnf
              exact hmg.2.2.2.2.2.2.2.1
          · refine ⟨?_, ?_, trivial⟩
            · conv => whnf
              exact hmg.2.2.2.2.2.1
            · conv => whnf
              exact hmg.2.2.2.2.2.2.2.1
          · refine ⟨?_, ?_, trivial⟩
            · conv => whnf
              exact hmg.2.2.2.2.2.2.1
            · conv => whnf
              exact hmg.2.2.2.2.2.2.2.2
          · refine ⟨?_, ?_, trivial⟩
            · conv => whnf
              exact hmg.2.2.2.2.2.2.2.1
            · conv => whnf
              exact hmg.2.2.2.2.2.2.2.2
        case nxt4 =>
          refine imp_via (Z := ?Z5_0 ∧ ?Z5_1 ∧ ?Z5_2 ∧ ?Z5_3 ∧ ?Z5_4 ∧ ?Z5_5 ∧ ?Z5_6 ∧ ?Z5_7) (fun hmg => ?cur5) ?nxt5
          case cur5 =>
            refine ⟨?_, ?_, ?_, ?_, ?_, ?_, ?_, ?_, ?_⟩
            · refine ⟨?_, ?_, trivial⟩
              · conv => whnf
                exact hmg.1
              · conv => whnf
                exact hmg.2.1
            · refine ⟨?_, ?_, ?_, trivial⟩
              · conv => whnf
                refine ⟨rfl, zN z, zN z, zmod z, zmod z, Nat.le_refl _, Nat.le_trans (Nat.le_of_lt (zN_lt z)) (by decide), fun h2 => ?_⟩
                obtain rfl : h2 = zN_sli z := rfl
                conv => whnf
                exact hmg.1
              · conv => whnf
                exact hmg.2.2.1
              · conv => whnf
                exact hmg.2.2.2.1
            · refine ⟨?_, ?_, ?_, trivial⟩
              · conv => whnf
                refine ⟨rfl, zN z, zN z, zmod z, zmod z, Nat.le_refl _, Nat.le_trans (Nat.le_of_lt (zN_lt z)) (by decide), fun h2 => ?_⟩
                obtain rfl : h2 = zN_sli z := rfl
                conv => whnf
                exact hmg.2.1
              · conv => whnf
                exact hmg.2.2.2.1
              · conv => whnf
                exact hmg.2.2.2.2.1
            · refine ⟨?_, ?_, trivial⟩
              · conv => whnf
                exact hmg.2.2.1
              · conv => whnf
                exact hmg.2.2.2.2.2.1
            · refine ⟨?_, ?_, ?_, trivial⟩
              · conv => whnf
                exact hmg.2.2.2.1
              · conv => whnf
                exact hmg.2.2.2.2.2.1
              · conv => whnf
                exact hmg.2.2.2.2.2.2.1
            · refine ⟨?_, ?_, trivial⟩
              · conv => whnf
                exact hmg.2.2.2.2.1
              · conv => whnf
                exact hmg.2.2.2.2.2.2.1
            · refine ⟨?_, ?_, trivial⟩
              · conv => whnf
                exact hmg.2.2.2.2.2.1
              · conv => whnf
                exact hmg.2.2.2.2.2.2.2
            · refine ⟨?_, ?_, trivial⟩
              · conv => whnf
                exact hmg.2.2.2.2.2.2.1
              · conv => whnf
                exact hmg.2.2.2.2.2.2.2
            · refine ⟨?_, trivial⟩
              · conv => whnf
                exact hmg.2.2.2.2.2.2.2
          case nxt5 =>
            refine imp_via (Z := ?Z6_0 ∧ ?Z6_1 ∧ ?Z6_2 ∧ ?Z6_3 ∧ ?Z6_4 ∧ ?Z6_5) (fun hmg => ?cur6) ?nxt6
            case cur6 =>
              refine ⟨?_, ?_, ?_, ?_, ?_, ?_, ?_, ?_⟩
              · refine ⟨?_, ?_, trivial⟩
                · conv => whnf
                  exact hmg.1
                · conv => whnf
                  exact hmg.2.1
              · refine ⟨?_, ?_, trivial⟩
                · conv => whnf
                  exact hmg.2.1
                · conv => whnf
                  exact hmg.2.2.1
              · refine ⟨?_, ?_, trivial⟩
                · conv => whnf
                  refine ⟨rfl, zN z, zN z, zmod z, zmod z, Nat.le_refl _, Nat.le_trans (Nat.le_of_lt (zN_lt z)) (by decide), fun h2 => ?_⟩
                  obtain rfl : h2 = zN_sli z := rfl
                  conv => whnf
                  exact hmg.1
                · conv => whnf
                  exact hmg.2.2.2.1
              · refine ⟨?_, ?_, ?_, trivial⟩
                · conv => whnf
                  refine ⟨rfl, zN z, zN z, zmod z, zmod z, Nat.le_refl _, Nat.le_trans (Nat.le_of_lt (zN_lt z)) (by decide), fun h2 => ?_⟩
                  obtain rfl : h2 = zN_sli z := rfl
                  conv => whnf
                  exact hmg.2.1
                · conv => whnf
                  exact hmg.2.2.2.1
                · conv => whnf
                  exact hmg.2.2.2.2.1
              · refine ⟨?_, ?_, trivial⟩
                · conv => whnf
                  refine ⟨rfl, zN z, zN z, zmod z, zmod z, Nat.le_refl _, Nat.le_trans (Nat.le_of_lt (zN_lt z)) (by decide), fun h2 => ?_⟩
                  obtain rfl : h2 = zN_sli z := rfl
                  conv => whnf
                  exact hmg.2.2.1
                · conv => whnf
                  exact hmg.2.2.2.2.1
              · refine ⟨?_, ?_, trivial⟩
                · conv => whnf
                  exact hmg.2.2.2.1
                · conv => whnf
                  exact hmg.2.2.2.2.2
              · refine ⟨?_, ?_, trivial⟩
                · conv => whnf
                  exact hmg.2.2.2.2.1
                · conv => whnf
                  exact hmg.2.2.2.2.2
              · refine ⟨?_, trivial⟩
                · conv => whnf
                  exact hmg.2.2.2.2.2
            case nxt6 =>
              refine imp_via (Z := ?Z7_0 ∧ ?Z7_1 ∧ ?Z7_2) (fun hmg => ?cur7) ?nxt7
              case cur7 =>
                refine ⟨?_, ?_, ?_, ?_, ?_, ?_⟩
                · refine ⟨?_, ?_, trivial⟩
                  · clear hmg
                    conv => whnf
                    refine .inl ?_
                    conv => whnf
                    conv =>
                      arg 2
                      tactic' => exact bs_all l (Nat.mul_one _)
                    conv => whnf
                    refine ⟨bs_one _, ?_⟩
                    conv => whnf
                    refine ⟨⟨rfl, rfl, by rw [Nat.mul_one]; exact sizeC_rep rfl _, fun _ => by rw [sizeC_rep rfl, Nat.sub_self, Nat.mul_one]; rfl, hroom⟩, fun cap2 hcap2 => ?_⟩
                    have hcap2 : SliOk false (zN z + l.length) cap2 := ⟨hcap2.1, hcap2.2.1, fun h => by cases h⟩
                    have hs40 : SliOk false (min (zN z + l.length) 40) cap2 := ⟨Nat.le_trans (Nat.min_le_left _ _) hcap2.1, hcap2.2.1, fun h => by cases h⟩
                    have hir40 : IR ((min (zN z + l.length) 40 : Nat) : Int) := by unfold IR; omega
                    conv => whnf
                    refine ⟨?_, trivial⟩
                    conv => whnf
                    refine ⟨?_, trivial⟩
                    conv => whnf
                    conv =>
                      arg 2
                      tactic' =>
                        apply eff_slice_hi (k := min (zN z + l.length) 40) (hi := hir40) (h2 := hs40) (ho := ?how1) (hT := ?hTw1) (hx := ?hxw1) (hk := ?hkw1) (hlt := ?hltw1)
                        case how1 => rfl
                        case hTw1 => rfl
                        case hxw1 => rfl
                        case hkw1 => exact cint (min_nat _ 40) hir40
                        case hltw1 => exact hs40.1
                    conv => whnf
                    refine ⟨mkL z l, mkL_len z l, .inl rfl, made_sub z l, ?_⟩
                    conv => whnf
                    exact fun ρ => rfl
                  · conv => whnf
                    exact hmg.1
                · refine ⟨?_, ?_, trivial⟩
                  · conv => whnf
                    exact hmg.1
                  · conv => whnf
                    exact hmg.2.1
                · refine ⟨?_, trivial⟩
                  · conv => whnf
                    exact hmg.2.1
                · refine ⟨?_, ?_, trivial⟩
                  · conv => whnf
                    refine ⟨rfl, zN z, zN z, zmod z, zmod z, Nat.le_refl _, Nat.le_trans (Nat.le_of_lt (zN_lt z)) (by decide), fun h2 => ?_⟩
                    obtain rfl : h2 = zN_sli z := rfl
                    conv => whnf
                    exact hmg.1
                  · conv => whnf
                    exact hmg.2.2
                · refine ⟨?_, ?_, trivial⟩
                  · conv => whnf
                    refine ⟨rfl, zN z, zN z, zmod z, zmod z, Nat.le_refl _, Nat.le_trans (Nat.le_of_lt (zN_lt z)) (by decide), fun h2 => ?_⟩
                    obtain rfl : h2 = zN_sli z := rfl
                    conv => whnf
                    exact hmg.2.1
                  · conv => whnf
                    exact hmg.2.2
                · refine ⟨?_, trivial⟩
                  · conv => whnf
                    exact hmg.2.2
              case nxt7 =>
                refine imp_via (Z := ?Z8_0) (fun hmg => ?cur8) ?nxt8
                case cur8 =>
                  refine ⟨?_, ?_, ?_⟩
                  · refine ⟨?_, ?_, trivial⟩
                    · clear hmg
                      conv => whnf
                      refine .inl ?_
                      conv => whnf
                      conv =>
                        arg 2
                        tactic' => exact bs_all l (Nat.mul_one _)
                      conv => whnf
                      refine ⟨bs_one _, ?_⟩
                      conv => whnf
                      refine ⟨⟨rfl, rfl, by rw [Nat.mul_one]; exact sizeC_rep rfl _, fun _ => by rw [sizeC_rep rfl, Nat.sub_self, Nat.mul_one]; rfl, hroom⟩, fun cap2 hcap2 => ?_⟩
                      have hcap2 : SliOk false (zN z + l.length) cap2 := ⟨hcap2.1, hcap2.2.1, fun h => by cases h⟩
                      have hs40 : SliOk false (min (zN z + l.length) 40) cap2 := ⟨Nat.le_trans (Nat.min_le_left _ _) hcap2.1, hcap2.2.1, fun h => by cases h⟩
                      have hir40 : IR ((min (zN z + l.length) 40 : Nat) : Int) := by unfold IR; omega
                      conv => whnf
                      refine ⟨?_, trivial⟩
                      conv => whnf
                      conv =>
                        arg 2
                        tactic' =>
                          apply eff_slice_hi (k := min (zN z + l.length) 40) (hi := hir40) (h2 := hs40) (ho := ?how2) (hT := ?hTw2) (hx := ?hxw2) (hk := ?hkw2) (hlt := ?hltw2)
                          case how2 => rfl
                          case hTw2 => rfl
                          case hxw2 => rfl
                          case hkw2 => exact cint (min_nat _ 40) hir40
                          case hltw2 => exact hs40.1
                      conv => whnf
                      refine ⟨mkL z l, mkL_len z l, .inl rfl, made_sub z l, ?_⟩
                      conv => whnf
                      exact fun ρ => rfl
                    · conv => whnf
                      exact hmg
                  · refine ⟨?_, trivial⟩
                    · conv => whnf
                      exact hmg
                  · refine ⟨?_, trivial⟩
                    · conv => whnf
                      refine ⟨rfl, zN z, zN z, zmod z, zmod z, Nat.le_refl _, Nat.le_trans (Nat.le_of_lt (zN_lt z)) (by decide), fun h2 => ?_⟩
                      obtain rfl : h2 = zN_sli z := rfl
                      conv => whnf
                      exact hmg
                case nxt8 =>
                  refine ⟨?_, trivial⟩
                  · conv => whnf
                    refine .inl ?_
                    conv => whnf
                    conv =>
                      arg 2
                      tactic' => exact bs_all l (Nat.mul_one _)
                    conv => whnf
                    refine ⟨bs_one _, ?_⟩
                    conv => whnf
                    refine ⟨⟨rfl, rfl, by rw [Nat.mul_one]; exact sizeC_rep rfl _, fun _ => by rw [sizeC_rep rfl, Nat.sub_self, Nat.mul_one]; rfl, hroom⟩, fun cap2 hcap2 => ?_⟩
                    have hcap2 : SliOk false (zN z + l.length) cap2 := ⟨hcap2.1, hcap2.2.1, fun h => by cases h⟩
                    have hs40 : SliOk false (min (zN z + l.length) 40) cap2 := ⟨Nat.le_trans (Nat.min_le_left _ _) hcap2.1, hcap2.2.1, fun h => by cases h⟩
                    have hir40 : IR ((min (zN z + l.length) 40 : Nat) : Int) := by unfold IR; omega
                    conv => whnf
                    conv =>
                      arg 2
                      tactic' =>
                        apply eff_slice_hi (k := min (zN z + l.length) 40) (hi := hir40) (h2 := hs40) (ho := ?how3) (hT := ?hTw3) (hx := ?hxw3) (hk := ?hkw3) (hlt := ?hltw3)
                        case how3 => rfl
                        case hTw3 => rfl
                        case hxw3 => rfl
                        case hkw3 => exact cint (min_nat _ 40) hir40
                        case hltw3 => exact hs40.1
                    conv => whnf
                    refine ⟨mkL z l, mkL_len z l, .inl rfl, made_sub z l, ?_⟩
                    conv => whnf
                    exact fun ρ => rfl
set_option maxHeartbeats 8000000 in
theorem vcNumE (neg : Bool) (a : Option Addr) (z : Int) (hz : IR z) :
    vcF envW (inl envW fxMade 1) Tryd.f16 [.agg [.val (.bool neg), .val (.slice a 0 0), .int z hz]] [] fun u _ => ∀ ρ, u.den ρ = (SV.agg [.val (.bool neg), .val (.string (mkS z []))]).den ρ := by
  have hz4 := zN_lt z
  have hroom : (zN z + 0) * 1 ≤ 140737488355328 := by omega
  conv => whnf
  refine imp_via (Z := ?Z10_0 ∧ ?Z10_1 ∧ ?Z10_2) (fun hmg => ?cur10) ?nxt10
  case cur10 =>
    refine ⟨?_, ?_, ?_, trivial⟩
    · conv => whnf
      exact hmg.1
    · conv => whnf
      exact hmg.2.1
    · conv => whnf
      exact hmg.2.2
  case nxt10 =>
    refine imp_via (Z := ?Z11_0 ∧ ?Z11_1 ∧ ?Z11_2 ∧ ?Z11_3 ∧ ?Z11_4 ∧ ?Z11_5) (fun hmg => ?cur11) ?nxt11
    case cur11 =>
      refine ⟨?_, ?_, ?_⟩
      · refine ⟨?_, ?_, ?_, trivial⟩
        · conv => whnf
          exact hmg.1
        · conv => whnf
          exact hmg.2.1
        · conv => whnf
          exact hmg.2.2.1
      · refine ⟨?_, ?_, ?_, trivial⟩
        · conv => whnf
          exact hmg.2.1
        · conv => whnf
          exact hmg.2.2.2.1
        · conv => whnf
          exact hmg.2.2.2.2.1
      · refine ⟨?_, ?_, ?_, trivial⟩
        · conv => whnf
          exact hmg.2.2.1
        · conv => whnf
          exact hmg.2.2.2.2.1
        · conv => whnf
          exact hmg.2.2.2.2.2
    case nxt11 =>
      refine imp_via (Z := ?Z12_0 ∧ ?Z12_1 ∧ ?Z12_2 ∧ ?Z12_3 ∧ ?Z12_4 ∧ ?Z12_5 ∧ ?Z12_6 ∧ ?Z12_7) (fun hmg => ?cur12) ?nxt12
      case cur12 =>
        refine ⟨?_, ?_, ?_, ?_, ?_, ?_⟩
        · refine ⟨?_, ?_, ?_, trivial⟩
          · conv => whnf
            exact hmg.1
          · conv => whnf
            exact hmg.2.1
          · conv => whnf
            exact hmg.2.2.1
        · refine ⟨?_, ?_, ?_, trivial⟩
          · conv => whnf
            exact hmg.2.1
          · conv => whnf
            exact hmg.2.2.2.1
          · conv => whnf
            exact hmg.2.2.2.2.1
        · refine ⟨?_, ?_, ?_, trivial⟩
          · conv => whnf
            exact hmg.2.2.1
          · conv => whnf
            exact hmg.2.2.2.2.1
          · conv => whnf
            exact hmg.2.2.2.2.2.1
        · refine ⟨?_, ?_, trivial⟩
          · conv => whnf
            exact hmg.2.2.2.1
          · conv => whnf
            exact hmg.2.2.2.2.2.2.1
        · refine ⟨?_, ?_, ?_, trivial⟩
          · conv => whnf
            exact hmg.2.2.2.2.1
          · conv => whnf
            exact hmg.2.2.2.2.2.2.1
          · conv => whnf
            exact hmg.2.2.2.2.2.2.2
        · refine ⟨?_, ?_, trivial⟩
          · conv => whnf
            exact hmg.2.2.2.2.2.1
          · conv => whnf
            exact hmg.2.2.2.2.2.2.2
      case nxt12 =>
        refine imp_via (Z := ?Z13_0 ∧ ?Z13_1 ∧ ?Z13_2 ∧ ?Z13_3 ∧ ?Z13_4 ∧ ?Z13_5 ∧ ?Z13_6 ∧ ?Z13_7 ∧ ?Z13_8) (fun hmg => ?cur13) ?nxt13
        case cur13 =>
          refine ⟨?_, ?_, ?_, ?_, ?_, ?_, ?_, ?_⟩
          · refine ⟨?_, ?_, ?_, trivial⟩
            · conv => whnf
              refine ⟨rfl, zN z, zN z, zmod z, zmod z, Nat.le_refl _, Nat.le_trans (Nat.le_of_lt (zN_lt z)) (by decide), fun h2 => ?_⟩
              obtain rfl : h2 = zN_sli z := rfl
              conv => whnf
              exact hmg.1
            · conv => whnf
              exact hmg.2.1
            · conv => whnf
              exact hmg.2.2.1
          · refine ⟨?_, ?_, ?_, trivial⟩
            · conv => whnf
              exact hmg.2.1
            · conv => whnf
              exact hmg.2.2.2.1
            · conv => whnf
              exact hmg.2.2.2.2.1
          · refine ⟨?_, ?_, ?_, trivial⟩
            · conv => whnf
              exact hmg.2.2.1
            · conv => whnf
              exact hmg.2.2.2.2.1
            · conv => whnf
              exact hmg.2.2.2.2.2.1
          · refine ⟨?_, ?_, trivial⟩
            · conv => whnf
              exact hmg.2.2.2.1
            · conv => whnf
              exact hmg.2.2.2.2.2.2.1
          · refine ⟨?_, ?_, ?_, trivial⟩
            · conv => whnf
              exact hmg.2.2.2.2.1
            · conv => whnf
              exact hmg.2.2.2.2.2.2.1
            · conv => whnf
              exact hmg.2.2.2.2.2.2.2.1
          · refine ⟨?_, ?_, trivial⟩
            · conv => whnf
              exact hmg.2.2.2.2.2.1
            · conv => whnf
              exact hmg.2.2.2.2.2.2.2.1
          · refine ⟨?_, ?_, trivial⟩
            · conv => whnf
              exact hmg.2.2.2.2.2.2.1
            · conv => whnf
              exact hmg.2.2.2.2.2.2.2.2
          · refine ⟨?_, ?_, trivial⟩
            · conv => whnf
              exact hmg.2.2.2.2.2.2.2.1
            · conv => whnf
              exact hmg.2.2.2.2.2.2.2.2
        case nxt13 =>
          refine imp_via (Z := ?Z14_0 ∧ ?Z14_1 ∧ ?Z14_2 ∧ ?Z14_3 ∧ ?Z14_4 ∧ ?Z14_5 ∧ ?Z14_6 ∧ ?Z14_7) (fun hmg => ?cur14) ?nxt14
          case cur14 =>
            refine ⟨?_, ?_, ?_, ?_, ?_, ?_, ?_, ?_, ?_⟩
            · refine ⟨?_, ?_, trivial⟩
              · conv => whnf
                exact hmg.1
              · conv => whnf
                exact hmg.2.1
            · refine ⟨?_, ?_, ?_, trivial⟩
              · conv => whnf
                refine ⟨rfl, zN z, zN z, zmod z, zmod z, Nat.le_refl _, Nat.le_trans (Nat.le_of_lt (zN_lt z)) (by decide), fun h2 => ?_⟩
                obtain rfl : h2 = zN_sli z := rfl
                conv => whnf
                exact hmg.1
              · conv => whnf
                exact hmg.2.2.1
              · conv => whnf
                exact hmg.2.2.2.1
            · refine ⟨?_, ?_, ?_, trivial⟩
              · conv => whnf
                refine ⟨rfl, zN z, zN z, zmod z, zmod z, Nat.le_refl _, Nat.le_trans (Nat.le_of_lt (zN_lt z)) (by decide), fun h2 => ?_⟩
                obtain rfl : h2 = zN_sli z := rfl
                conv => whnf
                exact hmg.2.1
              · conv => whnf
                exact hmg.2.2.2.1
              · conv => whnf
                exact hmg.2.2.2.2.1
            · refine ⟨?_, ?_, trivial⟩
              · conv => whnf
                exact hmg.2.2.1
              · conv => whnf
                exact hmg.2.2.2.2.2.1
            · refine ⟨?_, ?_, ?_, trivial⟩
              · conv => whnf
                exact hmg.2.2.2.1
              · conv => whnf
                exact hmg.2.2.2.2.2.1
              · conv => whnf
                exact hmg.2.2.2.2.2.2.1
            · refine ⟨?_, ?_, trivial⟩
              · conv => whnf
                exact hmg.2.2.2.2.1
              · conv => whnf
                exact hmg.2.2.2.2.2.2.1
            · refine ⟨?_, ?_, trivial⟩
              · conv => whnf
                exact hmg.2.2.2.2.2.1
              · conv => whnf
                exact hmg.2.2.2.2.2.2.2
            · refine ⟨?_, ?_, trivial⟩
              · conv => whnf
                exact hmg.2.2.2.2.2.2.1
              · conv => whnf
                exact hmg.2.2.2.2.2.2.2
            · refine ⟨?_, trivial⟩
              · conv => whnf
                exact hmg.2.2.2.2.2.2.2
          case nxt14 =>
            refine imp_via (Z := ?Z15_0 ∧ ?Z15_1 ∧ ?Z15_2 ∧ ?Z15_3 ∧ ?Z15_4 ∧ ?Z15_5) (fun hmg => ?cur15) ?nxt15
            case cur15 =>
              refine ⟨?_, ?_, ?_, ?_, ?_, ?_, ?_, ?_⟩
              · refine ⟨?_, ?_, trivial⟩
                · conv => whnf
                  exact hmg.1
                · conv => whnf
                  exact hmg.2.1
              · refine ⟨?_, ?_, trivial⟩
                · conv => whnf
                  exact hmg.2.1
                · conv => whnf
                  exact hmg.2.2.1
              · refine ⟨?_, ?_, trivial⟩
                · conv => whnf
                  refine ⟨rfl, zN z, zN z, zmod z, zmod z, Nat.le_refl _, Nat.le_trans (Nat.le_of_lt (zN_lt z)) (by decide), fun h2 => ?_⟩
                  obtain rfl : h2 = zN_sli z := rfl
                  conv => whnf
                  exact hmg.1
                · conv => whnf
                  exact hmg.2.2.2.1
              · refine ⟨?_, ?_, ?_, trivial⟩
                · conv => whnf
                  refine ⟨rfl, zN z, zN z, zmod z, zmod z, Nat.le_refl _, Nat.le_trans (Nat.le_of_lt (zN_lt z)) (by decide), fun h2 => ?_⟩
                  obtain rfl : h2 = zN_sli z := rfl
                  conv => whnf
                  exact hmg.2.1
                · conv => whnf
                  exact hmg.2.2.2.1
                · conv => whnf
                  exact hmg.2.2.2.2.1
              · refine ⟨?_, ?_, trivial⟩
                · conv => whnf
                  refine ⟨rfl, zN z, zN z, zmod z, zmod z, Nat.le_refl _, Nat.le_trans (Nat.le_of_lt (zN_lt z)) (by decide), fun h2 => ?_⟩
                  obtain rfl : h2 = zN_sli z := rfl
                  conv => whnf
                  exact hmg.2.2.1
                · conv => whnf
                  exact hmg.2.2.2.2.1
              · refine ⟨?_, ?_, trivial⟩
                · conv => whnf
                  exact hmg.2.2.2.1
                · conv => whnf
                  exact hmg.2.2.2.2.2
              · refine ⟨?_, ?_, trivial⟩
                · conv => whnf
                  exact hmg.2.2.2.2.1
                · conv => whnf
                  exact hmg.2.2.2.2.2
              · refine ⟨?_, trivial⟩
                · conv => whnf
                  exact hmg.2.2.2.2.2
            case nxt15 =>
              refine imp_via (Z := ?Z16_0 ∧ ?Z16_1 ∧ ?Z16_2) (fun hmg => ?cur16) ?nxt16
              case cur16 =>
                refine ⟨?_, ?_, ?_, ?_, ?_, ?_⟩
                · refine ⟨?_, ?_, trivial⟩
                  · clear hmg
                    conv => whnf
                    refine .inl ?_
                    conv => whnf
                    refine ⟨⟨rfl, rfl, by rw [Nat.mul_one]; exact sizeC_rep rfl _, fun _ => by rw [sizeC_rep rfl, Nat.sub_self, Nat.mul_one]; rfl, hroom⟩, fun cap2 hcap2 => ?_⟩
                    have hcap2 : SliOk false (zN z + ([] : List UInt8).length) cap2 := ⟨hcap2.1, hcap2.2.1, fun h => by cases h⟩
                    have hs40 : SliOk false (min (zN z + ([] : List UInt8).length) 40) cap2 := ⟨Nat.le_trans (Nat.min_le_left _ _) hcap2.1, hcap2.2.1, fun h => by cases h⟩
                    have hir40 : IR ((min (zN z + ([] : List UInt8).length) 40 : Nat) : Int) := by unfold IR; omega
                    conv => whnf
                    refine ⟨?_, trivial⟩
                    conv => whnf
                    refine ⟨?_, trivial⟩
                    conv => whnf
                    conv =>
                      arg 2
                      tactic' =>
                        apply eff_slice_hi (k := min (zN z + ([] : List UInt8).length) 40) (hi := hir40) (h2 := hs40) (ho := ?how4) (hT := ?hTw4) (hx := ?hxw4) (hk := ?hkw4) (hlt := ?hltw4)
                        case how4 => rfl
                        case hTw4 => rfl
                        case hxw4 => rfl
                        case hkw4 => exact cint (min_nat _ 40) hir40
                        case hltw4 => exact hs40.1
                    conv => whnf
                    refine ⟨mkL z [], mkL_len z [], .inl rfl, made_sub z [], ?_⟩
                    conv => whnf
                    exact fun ρ => rfl
                  · conv => whnf
                    exact hmg.1
                · refine ⟨?_, ?_, trivial⟩
                  · conv => whnf
                    exact hmg.1
                  · conv => whnf
                    exact hmg.2.1
                · refine ⟨?_, trivial⟩
                  · conv => whnf
                    exact hmg.2.1
                · refine ⟨?_, ?_, trivial⟩
                  · conv => whnf
                    refine ⟨rfl, zN z, zN z, zmod z, zmod z, Nat.le_refl _, Nat.le_trans (Nat.le_of_lt (zN_lt z)) (by decide), fun h2 => ?_⟩
                    obtain rfl : h2 = zN_sli z := rfl
                    conv => whnf
                    exact hmg.1
                  · conv => whnf
                    exact hmg.2.2
                · refine ⟨?_, ?_, trivial⟩
                  · conv => whnf
                    refine ⟨rfl, zN z, zN z, zmod z, zmod z, Nat.le_refl _, Nat.le_trans (Nat.le_of_lt (zN_lt z)) (by decide), fun h2 => ?_⟩
                    obtain rfl : h2 = zN_sli z := rfl
                    conv => whnf
                    exact hmg.2.1
                  · conv => whnf
                    exact hmg.2.2
                · refine ⟨?_, trivial⟩
                  · conv => whnf
                    exact hmg.2.2
              case nxt16 =>
                refine imp_via (Z := ?Z17_0) (fun hmg => ?cur17) ?nxt17
                case cur17 =>
                  refine ⟨?_, ?_, ?_⟩
                  · refine ⟨?_, ?_, trivial⟩
                    · clear hmg
                      conv => whnf
                      refine .inl ?_
                      conv => whnf
                      refine ⟨⟨rfl, rfl, by rw [Nat.mul_one]; exact sizeC_rep rfl _, fun _ => by rw [sizeC_rep rfl, Nat.sub_self, Nat.mul_one]; rfl, hroom⟩, fun cap2 hcap2 => ?_⟩
                      have hcap2 : SliOk false (zN z + ([] : List UInt8).length) cap2 := ⟨hcap2.1, hcap2.2.1, fun h => by cases h⟩
                      have hs40 : SliOk false (min (zN z + ([] : List UInt8).length) 40) cap2 := ⟨Nat.le_trans (Nat.min_le_left _ _) hcap2.1, hcap2.2.1, fun h => by cases h⟩
                      have hir40 : IR ((min (zN z + ([] : List UInt8).length) 40 : Nat) : Int) := by unfold IR; omega
                      conv => whnf
                      refine ⟨?_, trivial⟩
                      conv => whnf
                      conv =>
                        arg 2
                        tactic' =>
                          apply eff_slice_hi (k := min (zN z + ([] : List UInt8).length) 40) (hi := hir40) (h2 := hs40) (ho := ?how5) (hT := ?hTw5) (hx := ?hxw5) (hk := ?hkw5) (hlt := ?hltw5)
                          case how5 => rfl
                          case hTw5 => rfl
                          case hxw5 => rfl
                          case hkw5 => exact cint (min_nat _ 40) hir40
                          case hltw5 => exact hs40.1
                      conv => whnf
                      refine ⟨mkL z [], mkL_len z [], .inl rfl, made_sub z [], ?_⟩
                      conv => whnf
                      exact fun ρ => rfl
                    · conv => whnf
                      exact hmg
                  · refine ⟨?_, trivial⟩
                    · conv => whnf
                      exact hmg
                  · refine ⟨?_, trivial⟩
                    · conv => whnf
                      refine ⟨rfl, zN z, zN z, zmod z, zmod z, Nat.le_refl _, Nat.le_trans (Nat.le_of_lt (zN_lt z)) (by decide), fun h2 => ?_⟩
                      obtain rfl : h2 = zN_sli z := rfl
                      conv => whnf
                      exact hmg
                case nxt17 =>
                  refine ⟨?_, trivial⟩
                  · conv => whnf
                    refine .inl ?_
                    conv => whnf
                    refine ⟨⟨rfl, rfl, by rw [Nat.mul_one]; exact sizeC_rep rfl _, fun _ => by rw [sizeC_rep rfl, Nat.sub_self, Nat.mul_one]; rfl, hroom⟩, fun cap2 hcap2 => ?_⟩
                    have hcap2 : SliOk false (zN z + ([] : List UInt8).length) cap2 := ⟨hcap2.1, hcap2.2.1, fun h => by cases h⟩
                    have hs40 : SliOk false (min (zN z + ([] : List UInt8).length) 40) cap2 := ⟨Nat.le_trans (Nat.min_le_left _ _) hcap2.1, hcap2.2.1, fun h => by cases h⟩
                    have hir40 : IR ((min (zN z + ([] : List UInt8).length) 40 : Nat) : Int) := by unfold IR; omega
                    conv => whnf
                    conv =>
                      arg 2
                      tactic' =>
                        apply eff_slice_hi (k := min (zN z + ([] : List UInt8).length) 40) (hi := hir40) (h2 := hs40) (ho := ?how6) (hT := ?hTw6) (hx := ?hxw6) (hk := ?hkw6) (hlt := ?hltw6)
                        case how6 => rfl
                        case hTw6 => rfl
                        case hxw6 => rfl
                        case hkw6 => exact cint (min_nat _ 40) hir40
                        case hltw6 => exact hs40.1
                    conv => whnf
                    refine ⟨mkL z [], mkL_len z [], .inl rfl, made_sub z [], ?_⟩
                    conv => whnf
                    exact fun ρ => rfl
/-- a number of the arguments, read -/
def dNumW : Dr
  | [.agg [.val (.bool neg), .sli _ b off len _ _, .int z _]], hf => (match hf b with
    | some blk => some (some (∃ l, subC blk.cs off len = some (bsC l) ∧ l.length = len ∧ len ≤ 140737488351232), .agg [.val (.bool neg), .val (.string (mkS z (bsOf blk.cs off len)))])
    | none => none)
  | [.agg [.val (.bool neg), .val (.slice _ 0 0), .int z _]], _ => some (none, .agg [.val (.bool neg), .val (.string (mkS z []))])
  | _, _ => none
theorem spNumW : SpR Tryd.prog 16 dNumW := by
  have hfn : FnOk Tryd.prog 16 Tryd.f16 := ⟨Tryd.func16, by kernel_rfl, by kernel_rfl⟩
  refine ⟨hfn.callable, fun args hf p v hd => ?_⟩
  unfold dNumW at hd
  split at hd
  · rename_i neg nl b off len cap hl z hz
    split at hd
    · rename_i blk hb
      cases hd
      refine ⟨fun _ _ => rfl, fun hp ρ w hh => ?_⟩
      obtain ⟨l, hs, hlen, hle⟩ := hp _ rfl
      subst hlen
      have hr := (hh b blk hb).1
      obtain ⟨x, r, e1, e2, e3⟩ := subC_spec hs
      rw [e1, cellsL_append, cellsL_append] at hr
      have hr := range_sub hr
      rw [← sizeC_eq, e2] at hr
      rw [bsOf_eq hs]
      refine read_ok (P := Tryd.prog) envW_ok mixed fxMade_ok hfn (fun _ _ => rfl) (fun i c hi => ?_) (fun _ => ((ρ b).1, (ρ b).2 + off)) (fun ρ' hρ => ?_) (vcNumW neg nl cap z hz blk.ty l hl hle) w (fun i c hi => ?_)
      · cases i with
        | zero => simp [nthO] at hi; subst hi; exact ⟨rfl, bsC_pure l⟩
        | succ i => simp [nthO] at hi
      · have := hρ 0 rfl
        simp only [List.map_cons, List.map_nil, SV.den, cellsL_cons, C.cells, this]
        rfl
      · cases i with
        | zero => simp [nthO] at hi; subst hi; show w.rangeAt (ρ b).1 ((ρ b).2 + off) (cellsL _ (bsC l)); have e := bsC_pure l (fun _ => ((ρ b).1, (ρ b).2 + off)) ρ; exact (show cellsL (fun _ => ((ρ b).1, (ρ b).2 + off)) (bsC l) = cellsL ρ (bsC l) from e) ▸ hr
        | succ i => simp [nthO] at hi
    · cases hd
  · rename_i neg a z hz
    cases hd
    refine ⟨fun _ _ => rfl, fun _ ρ w _ => ?_⟩
    refine read_ok (P := Tryd.prog) envW_ok mixed fxMade_ok hfn (fun _ _ => rfl) (fun i c hi => by simp [nthO] at hi) ρ (fun ρ' hρ => rfl) (vcNumE neg a z hz) w (fun i c hi => by simp [nthO] at hi)
  · cases hd
end Go.Proofs.YtbhcmajeoamloaaDoor

namespace Go.Proofs.YtbhcmajeoamloaaDoor
open Go.RowKit
set_option maxRecDepth 100000

def lawE : List (FuncId × Dn) := (40, dCmpFrac) :: (42, dAddFrac) :: (44, dMulFrac) :: (38, dFracA) :: (52, dRootA) :: (46, dIntA) :: (25, dParse) :: (49, dTextA) :: (22, dQuoA) :: (21, dGcdA) :: baseA
theorem lawE_ok : AllOk lawE := .cons spCmpFrac <| .cons spAddFrac <| .cons spMulFrac <| .cons spFracA <| .cons spRootA <| .cons spIntA <| .cons spParse <| .cons spTextA <| .cons spQuoA <| .cons spGcdA baseA_ok
def rdW : List (FuncId × Dr) := [(16, dNumW)]
theorem rdW_ok : AllR rdW := .cons spNumW .nil
theorem isq_99 : isq 99 = 9 := isq_eq (by decide) (by decide)
theorem root_99 : rootZ 99 = 9 := by unfold rootZ; rw [if_neg (by decide)]; exact congrArg (fun n : Nat => (n : Int)) isq_99
theorem mag_300 : mag 300 = [1, 44] := by
  have h := mag_unique (l := [1, 44]) (by decide)
  rwa [show mval [1, 44] = 300 from by decide] at h
theorem mag_big : mag 1208925819614629174706176 = [1, 0, 0, 0, 0, 0, 0, 0, 0, 0, 0] := by
  have h := mag_unique (l := [1, 0, 0, 0, 0, 0, 0, 0, 0, 0, 0]) (by decide)
  rwa [show mval [1, 0, 0, 0, 0, 0, 0, 0, 0, 0, 0] = 1208925819614629174706176 from by decide] at h
theorem pOk1 : parseOk ⟨#[45, 48, 48, 55]⟩ = true := by decide +kernel
theorem pOk2 : parseOk ⟨#[]⟩ = false := by decide +kernel
theorem pOk3 : parseOk ⟨#[49, 120]⟩ = false := by decide +kernel
theorem pZ2 : parseZ ⟨#[]⟩ = 0 := by decide +kernel
theorem pZ3 : parseZ ⟨#[49, 120]⟩ = 0 := by decide +kernel
theorem pZ1 : parseZ ⟨#[45, 48, 48, 55]⟩ = -7 := by decide +kernel
/-- a contract whose value is put in other words at some arguments -/
def dOver (c : List SV → Option SV) (d : Dn) : Dn := fun args => match c args with
  | some v => (match d args with | some (p, _) => some (p, v) | none => none)
  | none => d args
theorem spOver {f : FuncId} {d : Dn} (h : SpOk Tryd.prog f d) {c : List SV → Option SV} (hc : ∀ args v p u, c args = some v → d args = some (p, u) → ∀ ρ, u.den ρ = v.den ρ) : SpOk Tryd.prog f (dOver c d) := by
  refine ⟨h.1, fun args p v hd => ?_⟩
  unfold dOver at hd
  split at hd
  · rename_i v' hv
    split at hd
    · rename_i p' u hu
      cases hd
      have e := hc args v p u hv hu
      refine ⟨fun ρ ρ' => by rw [← e ρ, ← e ρ']; exact (h.2 args p u hu).1 ρ ρ', fun ho ρ w => ?_⟩
      have := (h.2 args p u hu).2 ho ρ w
      rw [e ρ] at this
      exact this
    · cases hd
  · exact h.2 args p v hd
theorem wid_raws {k : Nat} {z : Int} {h : Sm k z} {c : Bool} {l : List UInt8} (e1 : decide (z < 0) = c) (e2 : mag z.natAbs = l) (ρ : Rho) : (SV.agg [.wid k z h]).den ρ = (SV.agg [.val (.bool c), .val (.string ⟨l.toArray⟩)]).den ρ := by subst e1 e2; rfl
def cFrom : List SV → Option SV
  | [.c (.int n _)] => if n = -300 then some (.agg [.val (.bool true), .val (.string ⟨#[1, 44]⟩)]) else none
  | _ => none
def dFromS : Dn := dOver cFrom dFrom
theorem spFromS : SpOk Tryd.prog 30 dFromS := spOver (spFrom ⟨_, Tryd.func30, by kernel_rfl, by kernel_rfl⟩ From_any) fun args v p u h1 h2 ρ => by
  unfold cFrom at h1
  split at h1
  · rename_i n hn
    split at h1
    · rename_i e
      cases h1; cases h2; subst e
      exact wid_raws (z := -300) (l := [1, 44]) rfl (by rw [show ((-300 : Int)).natAbs = 300 from by decide]; exact mag_300) ρ
    · cases h1
  · cases h1
def cMulS : List SV → Option SV
  | [.agg [.wid _ z _], .agg [.wid _ y _]] => if z = 1099511627776 ∧ y = 1099511627776 then some (.agg [.val (.bool false), .val (.string ⟨#[1, 0, 0, 0, 0, 0, 0, 0, 0, 0, 0]⟩)]) else none
  | _ => none
def dMulS : Dn := dOver cMulS dMulA
theorem spMulS : SpOk Tryd.prog 17 dMulS := spOver spMulA fun args v p u h1 h2 ρ => by
  unfold cMulS at h1
  split at h1
  · split at h1
    · rename_i e
      obtain ⟨rfl, rfl⟩ := e
      cases h1; cases h2
      exact wid_raws (z := 1099511627776 * 1099511627776) (l := [1, 0, 0, 0, 0, 0, 0, 0, 0, 0, 0]) rfl (by rw [show ((1099511627776 * 1099511627776 : Int)).natAbs = 1208925819614629174706176 from by decide]; exact mag_big) ρ
    · cases h1
  · cases h1
def cRootS : List SV → Option SV
  | [.agg [.wid _ z _]] => if z = 99 then some (.tup [.agg [.wid 64 9 (by unfold Sm; decide)], .c (.val (.bool true))]) else none
  | _ => none
def dRootS : Dn := dOver cRootS dRootA
theorem spRootS : SpOk Tryd.prog 52 dRootS := spOver spRootA fun args v p u h1 h2 ρ => by
  unfold cRootS at h1
  split at h1
  · split at h1
    · rename_i e
      subst e
      cases h1; cases h2
      exact tup2_sv (wid_agg _ _ root_99 ρ) (bool_t1 rfl ρ)
    · cases h1
  · cases h1
def parS (z : Int) (h : Sm 64 z) (ok : Bool) : SV := .tup [.agg [.wid 64 z h], .c (.val (.bool ok))]
def cParseS : List SV → Option SV
  | [.c (.val (.string s))] => if s = ⟨#[45, 48, 48, 55]⟩ then some (parS (-7) (by unfold Sm; decide) true) else if s = ⟨#[]⟩ then some (parS 0 (by unfold Sm; decide) false) else if s = ⟨#[49, 120]⟩ then some (parS 0 (by unfold Sm; decide) false) else none
  | _ => none
def dParseS : Dn := dOver cParseS dParse
theorem spParseS : SpOk Tryd.prog 25 dParseS := spOver spParse fun args v p u h1 h2 ρ => by
  unfold cParseS at h1
  split at h1
  · split at h1
    · rename_i e
      subst e
      cases h1; cases h2
      exact tup2_sv (wid_agg _ _ pZ1 ρ) (bool_t1 pOk1 ρ)
    · split at h1
      · rename_i e
        subst e
        cases h1; cases h2
        exact tup2_sv (wid_agg _ _ pZ2 ρ) (bool_t1 pOk2 ρ)
      · split at h1
        · rename_i e
          subst e
          cases h1; cases h2
          exact tup2_sv (wid_agg _ _ pZ3 ρ) (bool_t1 pOk3 ρ)
        · cases h1
  · cases h1
def dSane : Dn
  | [] => some (none, .c (.val (.bool true)))
  | _ => none
def saneE : List (FuncId × Dn) := (30, dFromS) :: (17, dMulS) :: (25, dParseS) :: (52, dRootS) :: lawE
theorem saneE_ok : AllOk saneE := .cons spFromS <| .cons spMulS <| .cons spParseS <| .cons spRootS lawE_ok
def envS : Env := envN 0 saneE [] fun _ => false
theorem envS_ok : EOk Tryd.prog envS := envN_ok saneE_ok .nil 0 fun _ => false
set_option maxHeartbeats 8000000 in
theorem spSane : SpOk Tryd.prog 15 dSane := by
  have hfn : FnOk Tryd.prog 15 Tryd.f15 := ⟨Tryd.func15, by kernel_rfl, by kernel_rfl⟩
  refine ⟨hfn.callable, fun args p v hd => ?_⟩
  unfold dSane at hd
  split at hd
  · cases hd
    refine ⟨fun _ _ => rfl, fun _ ρ w => ?_⟩
    refine pure_okH envS_ok mixed (mix_ok .nil envS_ok mixed noF_ok 0) hfn (v := .c (.val (.bool true))) (args := []) (fun _ _ => rfl) (fun _ _ => rfl) ?_ ρ w
    conv => whnf
    refine ⟨by decide, ?_⟩
    conv => whnf
    refine ⟨by decide, ?_⟩
    conv => whnf
    refine ⟨by decide, ?_⟩
    conv => whnf
    refine ⟨by decide, ?_⟩
    conv => whnf
    refine ⟨by decide, ?_⟩
    conv => whnf
    refine ⟨by decide, ?_⟩
    conv => whnf
    refine ⟨by decide, ?_⟩
    conv => whnf
    refine ⟨by decide, ?_⟩
    conv => whnf
    refine ⟨by decide, ?_⟩
    conv => whnf
    refine ⟨by decide, ?_⟩
    conv => whnf
    refine ⟨by decide, ?_⟩
    conv => whnf
    refine ⟨⟨⟨by decide, by decide⟩, by decide, by decide⟩, ?_⟩
    conv => whnf
    exact fun _ => rfl
  · cases hd
end Go.Proofs.YtbhcmajeoamloaaDoor
