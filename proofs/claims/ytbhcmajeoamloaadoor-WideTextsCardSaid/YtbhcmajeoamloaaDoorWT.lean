/- law 01: WideTexts. -/
import Derived.Test.YtbhcmajeoamloaaDoorLwa
import Derived.Test.YtbhcmajeoamloaaDoorIab
import Derived.Test.YtbhcmajeoamloaaDoorWTp
import Derived.Test.YtbhcmajeoamloaaDoorRowX
namespace Go.Proofs.YtbhcmajeoamloaaDoor
open Go.RowKit
set_option maxRecDepth 100000

theorem bool_sv {a b : Bool} (e : a = b) (ρ : Rho) : (SV.c (.val (.bool a))).den ρ = (SV.c (.val (.bool b))).den ρ := by subst e; rfl
theorem mk8 (z : Int) (l : List UInt8) : 8 * (mkS z l).size ≤ 80000000 := by have := mkS_size z l; omega
def lawP : List (FuncId × Dn) := (15, dSane) :: lawE
theorem lawP_ok : AllOk lawP := .cons spSane lawE_ok
theorem mk320 (z : Int) (l : List UInt8) : 8 * (mkS z l).size ≤ 320 := by have := mkS_size z l; omega
theorem eff_index_chr {T : TypeId → Option TI} {op : Op} {ev : Operand → SV} {hp : Nat → Option Blk} {t : TypeId} {x y : Operand} (ho : op = .index t x y) {sz : Nat} {ag : Bool} {z : List C} {eq : Option (List K)} (hT : T t = some ⟨sz, ag, z, .string, eq⟩)
    {s : ByteArray} (hx : ev x = .c (.val (.string s))) {i : Nat} {hi : IR i} (hk : ev y = .c (.int i hi)) (hlt : i < s.size) {c : UInt8} (hc : s.data[i]?.getD 0 = c) : eff T op ev hp = some (.val (.c (.val (.int .u8 (c.toNat : Int))))) := by
  subst ho; subst hc
  simp only [eff, hT, hx, hk]
  show (if i < s.size then _ else _) = _
  rw [if_pos hlt]
theorem size_list (s : ByteArray) : s.data.toList.length = s.size := Array.length_toList
theorem at_list {s : ByteArray} {i : Nat} (h : i < s.data.toList.length) : s.data[i]?.getD 0 = s.data.toList[i] := by
  rw [← Array.getElem?_toList, List.getElem?_eq_getElem h]; rfl
theorem c_dash (c : UInt8) : (c == 45) = ((c.toNat : Int) == 45) := by
  by_cases h : c = 45
  · subst h; rfl
  · have h2 : c.toNat ≠ 45 := fun e => h (UInt8.toNat_inj.1 e)
    rw [beq_false_of_ne h, beq_false_of_ne (by omega)]
def lawT : List (FuncId × Dn) := (51, dTextA) :: lawP
theorem lawT_ok : AllOk lawT := .cons spRTextA lawP_ok
def envT : Env := envN 0 lawT rdW fun _ => false
theorem envT_ok : EOk Tryd.prog envT := envN_ok lawT_ok rdW_ok 0 fun _ => false
def z30 (n : Int) : Nat := (n % 30).toNat
theorem z30_lt (n : Int) : z30 n < 30 := by unfold z30; omega
theorem zmod30 (z : Int) : (IntKind.i64.wrap (z.tmod 30 + 30)).tmod 30 = ((z30 z : Nat) : Int) := by
  have h1 : z.tmod 30 = z % 30 ∨ (z.tmod 30 = z % 30 - 30 ∧ 0 < z % 30) := by
    obtain ⟨n, rfl | rfl⟩ := Int.eq_nat_or_neg z
    · left; exact Int.tmod_eq_emod_of_nonneg (by omega)
    · rw [Int.neg_tmod, Int.tmod_eq_emod_of_nonneg (by omega)]; omega
  rw [wrap_id (by unfold IR; omega), Int.tmod_eq_emod_of_nonneg (by omega)]
  unfold z30; omega
theorem lt_z30 {i : Nat} {z : Int} (h : decide ((i : Int) < (IntKind.i64.wrap (z.tmod 30 + 30)).tmod 30) = true) : i < z30 z := by
  have h := of_decide_eq_true h; rw [zmod30] at h; omega
theorem ge_z30 {i : Nat} {z : Int} (h : decide ((i : Int) < (IntKind.i64.wrap (z.tmod 30 + 30)).tmod 30) = false) : ¬ i < z30 z := by
  have h := of_decide_eq_false h; rw [zmod30] at h; omega
theorem text_len {b : Bool} {s : ByteArray} (h : 8 * s.size ≤ 320) : (decT (ival b s.data.toList)).length ≤ 4000 := by
  have h1 : Sm (8 * s.size) (ival b s.data.toList) := sm_raw b s
  have h2 : (dig WB (ival b s.data.toList).natAbs).length ≤ 320 := dig_len_of (k := 8 * s.size) h1 (by omega)
  have h3 := dec_len (ival b s.data.toList).natAbs
  unfold decT
  split
  · decide
  · unfold decL; rw [List.length_reverse, List.length_map]; omega
theorem sg_len (z : Int) : (sgT z).length ≤ 1 := by unfold sgT; split <;> decide
theorem sz_le {z : Int} {k : Nat} (hk : k ≤ 30) (hl : (decT z).length ≤ 4000) : (⟨(sgT z ++ (List.replicate k 48 ++ decT z)).toArray⟩ : ByteArray).size ≤ 10000 := by
  have := sg_len z
  rw [size_mk, List.length_append, List.length_append, List.length_replicate]; omega
theorem cat_mk (a b : List UInt8) : (⟨a.toArray⟩ : ByteArray) ++ ⟨b.toArray⟩ = ⟨(a ++ b).toArray⟩ := by
  apply ByteArray.ext
  rw [ByteArray.data_append]
  simp
theorem room_mk {a b : List UInt8} (ha : a.length ≤ 100000) (hb : b.length ≤ 100000) : (⟨a.toArray⟩ : ByteArray).size + (⟨b.toArray⟩ : ByteArray).size ≤ 9223372036854775807 := by rw [size_mk, size_mk]; omega
theorem head_neg {z : Int} {S : ByteArray} (hS : S = ⟨(textL z).toArray⟩) (h : z < 0) : 0 < S.size ∧ S.data[0]?.getD 0 = 45 ∧ S.extract 1 S.size = ⟨(decT z).toArray⟩ := by
  have e : textL z = 45 :: decT z := by rw [text_parts]; unfold sgT; rw [if_pos h]; rfl
  subst hS
  rw [e]
  refine ⟨by rw [size_mk]; exact Nat.succ_pos _, rfl, ?_⟩
  rw [ext_mk, size_mk, List.take_length]; rfl
theorem head_pos {z : Int} {S : ByteArray} (hS : S = ⟨(textL z).toArray⟩) (h : ¬ z < 0) : ∃ c : UInt8, 0 < S.size ∧ S.data[0]?.getD 0 = c ∧ c ≠ 45 ∧ S = ⟨(decT z).toArray⟩ := by
  have e : textL z = decT z := by rw [text_parts]; unfold sgT; rw [if_neg h]; rfl
  subst hS
  rw [e]
  obtain ⟨c, r, hc, hne⟩ := decT_cons z
  exact ⟨c, by rw [hc, size_mk]; exact Nat.succ_pos _, by rw [hc]; rfl, hne, rfl⟩
theorem eff_cat2 {T : TypeId → Option TI} {op : Op} {ev : Operand → SV} {hp : Nat → Option Blk} {t yt : TypeId} {x y : Operand} (ho : op = .binOp .add t x y yt) {a b c : ByteArray} (hx : ev x = .c (.val (.string a))) (hy : ev y = .c (.val (.string b))) (h : a.size + b.size ≤ 9223372036854775807) (e : a ++ b = c) :
    eff T op ev hp = some (.val (.c (.val (.string c)))) := by subst e; exact eff_cat ho hx hy h
theorem z_rep (z : Int) : (z - z).sign = 0 := by rw [Int.sub_self]; rfl
theorem sg_zero {x y : Int} (h : y = x) : (x - y).sign = 0 := by subst h; rw [Int.sub_self]; rfl
theorem beq_s {S : ByteArray} {l : List UInt8} (h : S = ⟨l.toArray⟩) : (S.toList == (⟨l.toArray⟩ : ByteArray).toList) = true := by subst h; simp
theorem rep_step {i : Nat} {l : List UInt8} : (⟨[48].toArray⟩ : ByteArray) ++ ⟨(List.replicate i 48 ++ l).toArray⟩ = ⟨(List.replicate (i + 1) 48 ++ l).toArray⟩ := by
  rw [cat_mk]; rfl
set_option maxHeartbeats 16000000 in
theorem vcWideTextsA (b0 : Bool) (z0 : Int) (h0 : IR z0) (l0 : List UInt8) (c0 : Nat) (g0 : SliOk false l0.length c0) (m0 : l0.length ≤ 140737488351232) (y1 : Int) (k1 : IR y1) : vcF envT (inl envT fxMade 1) Tryd.f14 [.agg [.val (.bool b0), .sli false 0 0 l0.length c0 g0, .int z0 h0], .c (.int y1 k1)] [⟨5, true, bsC l0, 0⟩] fun u _ => ∀ ρ, u.den ρ = (SV.c (.val (.bool true))).den ρ := by
  conv => whnf
  refine ⟨⟨l0, bs_all l0 rfl, rfl, m0⟩, ?_⟩
  conv => whnf
  generalize es : mkS z0 _ = s0
  have hs0 : 8 * s0.size ≤ 320 := es ▸ mk320 _ _
  refine ⟨Nat.le_trans hs0 (by decide), ?_⟩
  conv => whnf
  have hdl := text_len (b := b0) hs0
  obtain ⟨p1, p2⟩ := parse_text (ival b0 s0.data.toList) 0 (by omega)
  have hsz1 := sz_le (z := (ival b0 s0.data.toList)) (k := 0) (by decide) hdl
  generalize eS : (⟨(textL _).toArray⟩ : ByteArray) = S
  have hS : S = ⟨(textL (ival b0 s0.data.toList)).toArray⟩ := eS.symm
  have hSe : (⟨(sgT (ival b0 s0.data.toList) ++ (List.replicate 0 48 ++ decT (ival b0 s0.data.toList))).toArray⟩ : ByteArray) = S := by rw [hS, text_parts]; rfl
  rw [hSe] at p1 p2 hsz1
  have hirS : IR S.size := by unfold IR; omega
  refine ⟨hsz1, ?_⟩
  conv => whnf
  conv =>
    arg 2
    tactic' =>
      apply eff_len_str (ho := ?how11) (hc := ?hcw11) (ha := ?haw11) (ht := ?htw11) (hT := ?hTw11) (hx := ?hxw11) (h := ?hw11)
      case how11 => rfl
      case hcw11 => rfl
      case haw11 => rfl
      case htw11 => rfl
      case hTw11 => rfl
      case hxw11 => rfl
      case hw11 => exact hirS
  conv => whnf
  by_cases hz : (ival b0 s0.data.toList) < 0
  · obtain ⟨hl0, hc0, hx⟩ := head_neg hS hz
    refine bcase_true (decide_eq_true (by omega)) ?_
    conv => whnf
    conv =>
      arg 2
      tactic' =>
        apply eff_index_chr (i := 0) (c := 45) (ho := ?how13) (hT := ?hTw13) (hx := ?hxw13) (hk := ?hkw13) (hlt := ?hltw13) (hc := ?hcw13)
        case how13 => rfl
        case hTw13 => rfl
        case hxw13 => rfl
        case hkw13 => rfl
        case hltw13 => exact hl0
        case hcw13 => exact hc0
    conv => whnf
    conv =>
      arg 2
      tactic' =>
        apply eff_slice_str (ho := ?how12) (hT := ?hTw12) (hx := ?hxw12) (hl := ?hlw12) (hk := ?hkw12) (hle := ?hlew12)
        case how12 => rfl
        case hTw12 => rfl
        case hxw12 => rfl
        case hlw12 => rfl
        case hkw12 => rfl
        case hlew12 => exact ⟨hl0, Nat.le_refl _⟩
    conv => whnf
    refine loop_cut (G := {g : Nat × (Nat → Value) // g.1 ≤ z30 y1}) (X := {u : Unit // True}) (fun g => (.c (.val (g.1.2 0)) :: .c (.int y1 k1) :: .c (.val (g.1.2 2)) :: .c (.val (g.1.2 3)) :: .c (.val (g.1.2 4)) :: .c (.val (.bool true)) :: .c (.ptr 1 0) :: .c (.val (.string S)) :: .c (.ptr 2 0) :: .c (.val (.bool (parseOk S))) :: .c (.val (.string ⟨(List.replicate g.1.1 48 ++ decT (ival b0 s0.data.toList)).toArray⟩)) :: .c (.val (.string ⟨(sgT (ival b0 s0.data.toList)).toArray⟩)) :: .c (.int (g.1.1 : Nat) (ir_nat (Nat.le_trans g.2 (Nat.le_trans (Nat.le_of_lt (z30_lt y1)) (by decide))))) :: .c (.val (g.1.2 13)) :: .c (.val (g.1.2 14)) :: .c (.val (g.1.2 15)) :: .c (.val (g.1.2 16)) :: .c (.val (g.1.2 17)) :: .c (.val (g.1.2 18)) :: .c (.val (g.1.2 19)) :: .c (.val (g.1.2 20)) :: .c (.val (g.1.2 21)) :: .c (.val (g.1.2 22)) :: .c (.val (g.1.2 23)) :: .c (.val (g.1.2 24)) :: .c (.val (g.1.2 25)) :: .c (.val (g.1.2 26)) :: .c (.val (g.1.2 27)) :: .c (.val (g.1.2 28)) :: .c (.val (g.1.2 29)) :: .c (.val (g.1.2 30)) :: .c (.val (g.1.2 31)) :: .c (.val (g.1.2 32)) :: .c (.val (g.1.2 33)) :: .c (.val (g.1.2 34)) :: .c (.val (g.1.2 35)) :: .c (.val (g.1.2 36)) :: .c (.val (g.1.2 37)) :: .c (.val (g.1.2 38)) :: .c (.val (g.1.2 39)) :: .c (.val (g.1.2 40)) :: .c (.val (g.1.2 41)) :: .c (.val (g.1.2 42)) :: .c (.val (g.1.2 43)) :: .c (.val (g.1.2 44)) :: .c (.val (g.1.2 45)) :: .c (.val (g.1.2 46)) :: .c (.val (g.1.2 47)) :: .c (.val (g.1.2 48)) :: .c (.val (g.1.2 49)) :: .c (.val (g.1.2 50)) :: .c (.val (g.1.2 51)) :: .c (.val (g.1.2 52)) :: .c (.val (g.1.2 53)) :: .c (.val (g.1.2 54)) :: .c (.val (g.1.2 55)) :: .c (.val (g.1.2 56)) :: .c (.val (g.1.2 57)) :: .c (.val (g.1.2 58)) :: .c (.val (g.1.2 59)) :: .c (.val (g.1.2 60)) :: .c (.val (g.1.2 61)) :: .c (.val (g.1.2 62)) :: .c (.val (g.1.2 63)) :: .c (.val (g.1.2 64)) :: .c (.val (g.1.2 65)) :: .c (.val (g.1.2 66)) :: .c (.val (g.1.2 67)) :: .c (.val (g.1.2 68)) :: .c (.val (g.1.2 69)) :: .c (.val (g.1.2 70)) :: .c (.val (g.1.2 71)) :: .c (.val (g.1.2 72)) :: .c (.val (g.1.2 73)) :: .c (.val (g.1.2 74)) :: .c (.val (g.1.2 75)) :: .c (.val (g.1.2 76)) :: .c (.val (g.1.2 77)) :: .c (.val (g.1.2 78)) :: .c (.val (g.1.2 79)) :: .c (.val (g.1.2 80)) :: .c (.val (g.1.2 81)) :: [])) (fun g => [⟨5, true, bsC l0, 0⟩, ⟨27, false, [.val (.bool b0), .val (.string s0)], 0⟩, ⟨27, false, [.wid 40000 (parseZ S) (sm_parse S)], 0⟩]) (fun g => z30 y1 - g.1.1) 0 (fun x j => (j 0 :: j 1 :: j 2 :: j 3 :: j 4 :: .c (.val (.bool true)) :: .c (.ptr 1 0) :: .c (.val (.string S)) :: .c (.ptr 2 0) :: .c (.val (.bool (parseOk S))) :: .c (.val (.string ⟨(List.replicate (z30 y1) 48 ++ decT (ival b0 s0.data.toList)).toArray⟩)) :: .c (.val (.string ⟨(sgT (ival b0 s0.data.toList)).toArray⟩)) :: j 12 :: j 13 :: j 14 :: j 15 :: j 16 :: j 17 :: j 18 :: j 19 :: j 20 :: j 21 :: j 22 :: j 23 :: j 24 :: j 25 :: j 26 :: j 27 :: j 28 :: j 29 :: j 30 :: j 31 :: j 32 :: j 33 :: j 34 :: j 35 :: j 36 :: j 37 :: j 38 :: j 39 :: j 40 :: j 41 :: j 42 :: j 43 :: j 44 :: j 45 :: j 46 :: j 47 :: j 48 :: j 49 :: j 50 :: j 51 :: j 52 :: j 53 :: j 54 :: j 55 :: j 56 :: j 57 :: j 58 :: j 59 :: j 60 :: j 61 :: j 62 :: j 63 :: j 64 :: j 65 :: j 66 :: j 67 :: j 68 :: j 69 :: j 70 :: j 71 :: j 72 :: j 73 :: j 74 :: j 75 :: j 76 :: j 77 :: j 78 :: j 79 :: j 80 :: j 81 :: [])) (fun x => [⟨5, true, bsC l0, 0⟩, ⟨27, false, [.val (.bool b0), .val (.string s0)], 0⟩, ⟨27, false, [.wid 40000 (parseZ S) (sm_parse S)], 0⟩]) ?_ ?_ ?_
    · refine ⟨[0, 2, 3], [1, 5, 6, 7, 8, 9, 10, 11, 12], [0, 1, 2], fun vs => ?_⟩
      conv => whnf
      refine ⟨bsC_pure _, fun _ _ => rfl, fun _ _ => rfl, ?_⟩
      conv => whnf
      refine ⟨_, _, ?_, ?_, ⟨(0, vs), Nat.zero_le _⟩, rfl, rfl⟩
      · exact ⟨fun _ => rfl, fun _ => rfl, fun _ => rfl, fun _ => rfl, fun _ => rfl, fun _ => rfl, fun _ => rfl, fun _ => rfl, fun _ => rfl, fun _ => rfl, fun _ => congrArg Value.string (hx), fun _ => congrArg Value.string (by unfold sgT; rw [if_pos hz]), fun _ => rfl, fun _ => rfl, fun _ => rfl, fun _ => rfl, fun _ => rfl, fun _ => rfl, fun _ => rfl, fun _ => rfl, fun _ => rfl, fun _ => rfl, fun _ => rfl, fun _ => rfl, fun _ => rfl, fun _ => rfl, fun _ => rfl, fun _ => rfl, fun _ => rfl, fun _ => rfl, fun _ => rfl, fun _ => rfl, fun _ => rfl, fun _ => rfl, fun _ => rfl, fun _ => rfl, fun _ => rfl, fun _ => rfl, fun _ => rfl, fun _ => rfl, fun _ => rfl, fun _ => rfl, fun _ => rfl, fun _ => rfl, fun _ => rfl, fun _ => rfl, fun _ => rfl, fun _ => rfl, fun _ => rfl, fun _ => rfl, fun _ => rfl, fun _ => rfl, fun _ => rfl, fun _ => rfl, fun _ => rfl, fun _ => rfl, fun _ => rfl, fun _ => rfl, fun _ => rfl, fun _ => rfl, fun _ => rfl, fun _ => rfl, fun _ => rfl, fun _ => rfl, fun _ => rfl, fun _ => rfl, fun _ => rfl, fun _ => rfl, fun _ => rfl, fun _ => rfl, fun _ => rfl, fun _ => rfl, fun _ => rfl, fun _ => rfl, fun _ => rfl, fun _ => rfl, fun _ => rfl, fun _ => rfl, fun _ => rfl, fun _ => rfl, fun _ => rfl, fun _ => rfl, trivial⟩
      · exact ⟨⟨rfl, rfl, rfl, fun _ => rfl⟩, ⟨rfl, rfl, rfl, fun _ => rfl⟩, ⟨rfl, rfl, rfl, fun _ => rfl⟩, trivial⟩
    · intro Qx hqx
      rintro ⟨⟨i, vs⟩, hI⟩
      have hI : i ≤ z30 y1 := hI
      conv => whnf
      refine bcase_intro (fun hlt => ?_) (fun hlt => ?_)
      · have hlt : i < z30 y1 := lt_z30 hlt
        have hi30 : i ≤ 30 := Nat.le_trans (Nat.le_of_lt hlt) (Nat.le_of_lt (z30_lt y1))
        have hir : IntKind.i64.wrap ((i : Int) + 1) = ((i + 1 : Nat) : Int) := by rw [wrap_id (by unfold IR; omega)]; omega
        have hro : (List.replicate i 48 ++ decT (ival b0 s0.data.toList)).length ≤ 100000 := by rw [List.length_append, List.length_replicate]; omega
        conv => whnf
        conv =>
          arg 2
          tactic' =>
            apply eff_cat (a := ⟨[48].toArray⟩) (b := ⟨(List.replicate i 48 ++ decT (ival b0 s0.data.toList)).toArray⟩) (ho := ?how9) (hx := ?hxw9) (hy := ?hyw9) (h := ?hw9)
            case how9 => rfl
            case hxw9 => rfl
            case hyw9 => rfl
            case hw9 => exact room_mk (a := [48]) (by decide) hro
        conv => whnf
        refine ⟨[0, 1, 2], [1, 5, 6, 7, 8, 9, 10, 11, 12], [0, 1, 2], fun vs2 => ?_⟩
        conv => whnf
        refine ⟨bsC_pure _, fun _ _ => rfl, fun _ _ => rfl, ?_⟩
        conv => whnf
        refine ⟨_, _, ?_, ?_, ⟨(i + 1, vs2), hlt⟩, (by omega : z30 y1 - (i + 1) < z30 y1 - i), rfl, rfl⟩
        · exact ⟨fun _ => rfl, fun _ => rfl, fun _ => rfl, fun _ => rfl, fun _ => rfl, fun _ => rfl, fun _ => rfl, fun _ => rfl, fun _ => rfl, fun _ => rfl, fun _ => congrArg Value.string rep_step, fun _ => rfl, sint_eq hir _ _, fun _ => rfl, fun _ => rfl, fun _ => rfl, fun _ => rfl, fun _ => rfl, fun _ => rfl, fun _ => rfl, fun _ => rfl, fun _ => rfl, fun _ => rfl, fun _ => rfl, fun _ => rfl, fun _ => rfl, fun _ => rfl, fun _ => rfl, fun _ => rfl, fun _ => rfl, fun _ => rfl, fun _ => rfl, fun _ => rfl, fun _ => rfl, fun _ => rfl, fun _ => rfl, fun _ => rfl, fun _ => rfl, fun _ => rfl, fun _ => rfl, fun _ => rfl, fun _ => rfl, fun _ => rfl, fun _ => rfl, fun _ => rfl, fun _ => rfl, fun _ => rfl, fun _ => rfl, fun _ => rfl, fun _ => rfl, fun _ => rfl, fun _ => rfl, fun _ => rfl, fun _ => rfl, fun _ => rfl, fun _ => rfl, fun _ => rfl, fun _ => rfl, fun _ => rfl, fun _ => rfl, fun _ => rfl, fun _ => rfl, fun _ => rfl, fun _ => rfl, fun _ => rfl, fun _ => rfl, fun _ => rfl, fun _ => rfl, fun _ => rfl, fun _ => rfl, fun _ => rfl, fun _ => rfl, fun _ => rfl, fun _ => rfl, fun _ => rfl, fun _ => rfl, fun _ => rfl, fun _ => rfl, fun _ => rfl, fun _ => rfl, fun _ => rfl, fun _ => rfl, trivial⟩
        · exact ⟨⟨rfl, rfl, rfl, fun _ => rfl⟩, ⟨rfl, rfl, rfl, fun _ => rfl⟩, ⟨rfl, rfl, rfl, fun _ => rfl⟩, trivial⟩
      · have hge : ¬ i < z30 y1 := ge_z30 hlt
        have hie : i = z30 y1 := Nat.le_antisymm hI (Nat.le_of_not_lt hge)
        subst hie
        conv => whnf
        exact hqx ⟨(), trivial⟩ (fun i => nth uv (_ :: _ :: _ :: _ :: _ :: uv :: uv :: uv :: uv :: uv :: uv :: uv :: _ :: _ :: _ :: _ :: _ :: _ :: _ :: _ :: _ :: _ :: _ :: _ :: _ :: _ :: _ :: _ :: _ :: _ :: _ :: _ :: _ :: _ :: _ :: _ :: _ :: _ :: _ :: _ :: _ :: _ :: _ :: _ :: _ :: _ :: _ :: _ :: _ :: _ :: _ :: _ :: _ :: _ :: _ :: _ :: _ :: _ :: _ :: _ :: _ :: _ :: _ :: _ :: _ :: _ :: _ :: _ :: _ :: _ :: _ :: _ :: _ :: _ :: _ :: _ :: _ :: _ :: _ :: _ :: _ :: _ :: []) i)
    · rintro ⟨u, hu⟩ jj
      conv => whnf
      have hk30 : z30 y1 ≤ 30 := Nat.le_of_lt (z30_lt y1)
      obtain ⟨q1, q2⟩ := parse_text (ival b0 s0.data.toList) (z30 y1) (by omega)
      have hsz2 := sz_le (z := (ival b0 s0.data.toList)) hk30 hdl
      have hro : (List.replicate (z30 y1) 48 ++ decT (ival b0 s0.data.toList)).length ≤ 100000 := by rw [List.length_append, List.length_replicate]; omega
      obtain ⟨S2, hS2⟩ : ∃ S2 : ByteArray, S2 = ⟨(sgT (ival b0 s0.data.toList) ++ (List.replicate (z30 y1) 48 ++ decT (ival b0 s0.data.toList))).toArray⟩ := ⟨_, rfl⟩
      rw [← hS2] at q1 q2 hsz2
      have hcat : (⟨(sgT (ival b0 s0.data.toList)).toArray⟩ : ByteArray) ++ ⟨(List.replicate (z30 y1) 48 ++ decT (ival b0 s0.data.toList)).toArray⟩ = S2 := by rw [hS2, cat_mk]
      conv =>
        arg 2
        tactic' =>
          apply eff_cat2 (c := S2) (a := ⟨(sgT (ival b0 s0.data.toList)).toArray⟩) (b := ⟨(List.replicate (z30 y1) 48 ++ decT (ival b0 s0.data.toList)).toArray⟩) (ho := ?how10) (hx := ?hxw10) (hy := ?hyw10) (h := ?hw10) (e := ?ew10)
          case how10 => rfl
          case hxw10 => rfl
          case hyw10 => rfl
          case hw10 => exact room_mk (Nat.le_trans (sg_len _) (by decide)) hro
          case ew10 => exact hcat
      conv => whnf
      refine ⟨hsz2, ?_⟩
      conv => whnf
      refine ⟨Nat.le_trans hs0 (by decide), ?_⟩
      conv => whnf
      refine bcase_true (beq_s hS) ?_
      conv => whnf
      refine bcase_true p2 ?_
      conv => whnf
      refine bcase_true q2 ?_
      conv => whnf
      refine ⟨⟨Nat.le_trans hs0 (by decide), Nat.le_trans (Nat.le_refl 40000) (by decide)⟩, ?_⟩
      conv => whnf
      refine bcase_true (decide_eq_true (sg_zero p1)) ?_
      conv => whnf
      refine bcase_true (decide_eq_true (p1.trans q1.symm)) ?_
      conv => whnf
      refine ⟨Nat.le_trans hs0 (by decide), ?_⟩
      conv => whnf
      refine ⟨Nat.le_trans hs0 (by decide), ?_⟩
      conv => whnf
      exact fun ρ => bool_sv (decide_eq_true (p1.trans (Int.neg_neg _).symm)) ρ
  · obtain ⟨c0', hl0, hc0, hne, hx⟩ := head_pos hS hz
    refine bcase_true (decide_eq_true (by omega)) ?_
    conv => whnf
    conv =>
      arg 2
      tactic' =>
        apply eff_index_chr (i := 0) (c := c0') (ho := ?how14) (hT := ?hTw14) (hx := ?hxw14) (hk := ?hkw14) (hlt := ?hltw14) (hc := ?hcw14)
        case how14 => rfl
        case hTw14 => rfl
        case hxw14 => rfl
        case hkw14 => rfl
        case hltw14 => exact hl0
        case hcw14 => exact hc0
    conv => whnf
    refine bcase_false ((c_dash c0').symm.trans (beq_false_of_ne hne)) ?_
    conv => whnf
    refine loop_cut (G := {g : Nat × (Nat → Value) // g.1 ≤ z30 y1}) (X := {u : Unit // True}) (fun g => (.c (.val (g.1.2 0)) :: .c (.int y1 k1) :: .c (.val (g.1.2 2)) :: .c (.val (g.1.2 3)) :: .c (.val (g.1.2 4)) :: .c (.val (.bool true)) :: .c (.ptr 1 0) :: .c (.val (.string S)) :: .c (.ptr 2 0) :: .c (.val (.bool (parseOk S))) :: .c (.val (.string ⟨(List.replicate g.1.1 48 ++ decT (ival b0 s0.data.toList)).toArray⟩)) :: .c (.val (.string ⟨(sgT (ival b0 s0.data.toList)).toArray⟩)) :: .c (.int (g.1.1 : Nat) (ir_nat (Nat.le_trans g.2 (Nat.le_trans (Nat.le_of_lt (z30_lt y1)) (by decide))))) :: .c (.val (g.1.2 13)) :: .c (.val (g.1.2 14)) :: .c (.val (g.1.2 15)) :: .c (.val (g.1.2 16)) :: .c (.val (g.1.2 17)) :: .c (.val (g.1.2 18)) :: .c (.val (g.1.2 19)) :: .c (.val (g.1.2 20)) :: .c (.val (g.1.2 21)) :: .c (.val (g.1.2 22)) :: .c (.val (g.1.2 23)) :: .c (.val (g.1.2 24)) :: .c (.val (g.1.2 25)) :: .c (.val (g.1.2 26)) :: .c (.val (g.1.2 27)) :: .c (.val (g.1.2 28)) :: .c (.val (g.1.2 29)) :: .c (.val (g.1.2 30)) :: .c (.val (g.1.2 31)) :: .c (.val (g.1.2 32)) :: .c (.val (g.1.2 33)) :: .c (.val (g.1.2 34)) :: .c (.val (g.1.2 35)) :: .c (.val (g.1.2 36)) :: .c (.val (g.1.2 37)) :: .c (.val (g.1.2 38)) :: .c (.val (g.1.2 39)) :: .c (.val (g.1.2 40)) :: .c (.val (g.1.2 41)) :: .c (.val (g.1.2 42)) :: .c (.val (g.1.2 43)) :: .c (.val (g.1.2 44)) :: .c (.val (g.1.2 45)) :: .c (.val (g.1.2 46)) :: .c (.val (g.1.2 47)) :: .c (.val (g.1.2 48)) :: .c (.val (g.1.2 49)) :: .c (.val (g.1.2 50)) :: .c (.val (g.1.2 51)) :: .c (.val (g.1.2 52)) :: .c (.val (g.1.2 53)) :: .c (.val (g.1.2 54)) :: .c (.val (g.1.2 55)) :: .c (.val (g.1.2 56)) :: .c (.val (g.1.2 57)) :: .c (.val (g.1.2 58)) :: .c (.val (g.1.2 59)) :: .c (.val (g.1.2 60)) :: .c (.val (g.1.2 61)) :: .c (.val (g.1.2 62)) :: .c (.val (g.1.2 63)) :: .c (.val (g.1.2 64)) :: .c (.val (g.1.2 65)) :: .c (.val (g.1.2 66)) :: .c (.val (g.1.2 67)) :: .c (.val (g.1.2 68)) :: .c (.val (g.1.2 69)) :: .c (.val (g.1.2 70)) :: .c (.val (g.1.2 71)) :: .c (.val (g.1.2 72)) :: .c (.val (g.1.2 73)) :: .c (.val (g.1.2 74)) :: .c (.val (g.1.2 75)) :: .c (.val (g.1.2 76)) :: .c (.val (g.1.2 77)) :: .c (.val (g.1.2 78)) :: .c (.val (g.1.2 79)) :: .c (.val (g.1.2 80)) :: .c (.val (g.1.2 81)) :: [])) (fun g => [⟨5, true, bsC l0, 0⟩, ⟨27, false, [.val (.bool b0), .val (.string s0)], 0⟩, ⟨27, false, [.wid 40000 (parseZ S) (sm_parse S)], 0⟩]) (fun g => z30 y1 - g.1.1) 0 (fun x j => (j 0 :: j 1 :: j 2 :: j 3 :: j 4 :: .c (.val (.bool true)) :: .c (.ptr 1 0) :: .c (.val (.string S)) :: .c (.ptr 2 0) :: .c (.val (.bool (parseOk S))) :: .c (.val (.string ⟨(List.replicate (z30 y1) 48 ++ decT (ival b0 s0.data.toList)).toArray⟩)) :: .c (.val (.string ⟨(sgT (ival b0 s0.data.toList)).toArray⟩)) :: j 12 :: j 13 :: j 14 :: j 15 :: j 16 :: j 17 :: j 18 :: j 19 :: j 20 :: j 21 :: j 22 :: j 23 :: j 24 :: j 25 :: j 26 :: j 27 :: j 28 :: j 29 :: j 30 :: j 31 :: j 32 :: j 33 :: j 34 :: j 35 :: j 36 :: j 37 :: j 38 :: j 39 :: j 40 :: j 41 :: j 42 :: j 43 :: j 44 :: j 45 :: j 46 :: j 47 :: j 48 :: j 49 :: j 50 :: j 51 :: j 52 :: j 53 :: j 54 :: j 55 :: j 56 :: j 57 :: j 58 :: j 59 :: j 60 :: j 61 :: j 62 :: j 63 :: j 64 :: j 65 :: j 66 :: j 67 :: j 68 :: j 69 :: j 70 :: j 71 :: j 72 :: j 73 :: j 74 :: j 75 :: j 76 :: j 77 :: j 78 :: j 79 :: j 80 :: j 81 :: [])) (fun x => [⟨5, true, bsC l0, 0⟩, ⟨27, false, [.val (.bool b0), .val (.string s0)], 0⟩, ⟨27, false, [.wid 40000 (parseZ S) (sm_parse S)], 0⟩]) ?_ ?_ ?_
    · refine ⟨[0, 2, 3], [1, 5, 6, 7, 8, 9, 10, 11, 12], [0, 1, 2], fun vs => ?_⟩
      conv => whnf
      refine ⟨bsC_pure _, fun _ _ => rfl, fun _ _ => rfl, ?_⟩
      conv => whnf
      refine ⟨_, _, ?_, ?_, ⟨(0, vs), Nat.zero_le _⟩, rfl, rfl⟩
      · exact ⟨fun _ => rfl, fun _ => rfl, fun _ => rfl, fun _ => rfl, fun _ => rfl, fun _ => rfl, fun _ => rfl, fun _ => rfl, fun _ => rfl, fun _ => rfl, fun _ => congrArg Value.string (hx), fun _ => congrArg Value.string (by unfold sgT; rw [if_neg hz]), fun _ => rfl, fun _ => rfl, fun _ => rfl, fun _ => rfl, fun _ => rfl, fun _ => rfl, fun _ => rfl, fun _ => rfl, fun _ => rfl, fun _ => rfl, fun _ => rfl, fun _ => rfl, fun _ => rfl, fun _ => rfl, fun _ => rfl, fun _ => rfl, fun _ => rfl, fun _ => rfl, fun _ => rfl, fun _ => rfl, fun _ => rfl, fun _ => rfl, fun _ => rfl, fun _ => rfl, fun _ => rfl, fun _ => rfl, fun _ => rfl, fun _ => rfl, fun _ => rfl, fun _ => rfl, fun _ => rfl, fun _ => rfl, fun _ => rfl, fun _ => rfl, fun _ => rfl, fun _ => rfl, fun _ => rfl, fun _ => rfl, fun _ => rfl, fun _ => rfl, fun _ => rfl, fun _ => rfl, fun _ => rfl, fun _ => rfl, fun _ => rfl, fun _ => rfl, fun _ => rfl, fun _ => rfl, fun _ => rfl, fun _ => rfl, fun _ => rfl, fun _ => rfl, fun _ => rfl, fun _ => rfl, fun _ => rfl, fun _ => rfl, fun _ => rfl, fun _ => rfl, fun _ => rfl, fun _ => rfl, fun _ => rfl, fun _ => rfl, fun _ => rfl, fun _ => rfl, fun _ => rfl, fun _ => rfl, fun _ => rfl, fun _ => rfl, fun _ => rfl, fun _ => rfl, trivial⟩
      · exact ⟨⟨rfl, rfl, rfl, fun _ => rfl⟩, ⟨rfl, rfl, rfl, fun _ => rfl⟩, ⟨rfl, rfl, rfl, fun _ => rfl⟩, trivial⟩
    · intro Qx hqx
      rintro ⟨⟨i, vs⟩, hI⟩
      have hI : i ≤ z30 y1 := hI
      conv => whnf
      refine bcase_intro (fun hlt => ?_) (fun hlt => ?_)
      · have hlt : i < z30 y1 := lt_z30 hlt
        have hi30 : i ≤ 30 := Nat.le_trans (Nat.le_of_lt hlt) (Nat.le_of_lt (z30_lt y1))
        have hir : IntKind.i64.wrap ((i : Int) + 1) = ((i + 1 : Nat) : Int) := by rw [wrap_id (by unfold IR; omega)]; omega
        have hro : (List.replicate i 48 ++ decT (ival b0 s0.data.toList)).length ≤ 100000 := by rw [List.length_append, List.length_replicate]; omega
        conv => whnf
        conv =>
          arg 2
          tactic' =>
            apply eff_cat (a := ⟨[48].toArray⟩) (b := ⟨(List.replicate i 48 ++ decT (ival b0 s0.data.toList)).toArray⟩) (ho := ?how9) (hx := ?hxw9) (hy := ?hyw9) (h := ?hw9)
            case how9 => rfl
            case hxw9 => rfl
            case hyw9 => rfl
            case hw9 => exact room_mk (a := [48]) (by decide) hro
        conv => whnf
        refine ⟨[0, 1, 2], [1, 5, 6, 7, 8, 9, 10, 11, 12], [0, 1, 2], fun vs2 => ?_⟩
        conv => whnf
        refine ⟨bsC_pure _, fun _ _ => rfl, fun _ _ => rfl, ?_⟩
        conv => whnf
        refine ⟨_, _, ?_, ?_, ⟨(i + 1, vs2), hlt⟩, (by omega : z30 y1 - (i + 1) < z30 y1 - i), rfl, rfl⟩
        · exact ⟨fun _ => rfl, fun _ => rfl, fun _ => rfl, fun _ => rfl, fun _ => rfl, fun _ => rfl, fun _ => rfl, fun _ => rfl, fun _ => rfl, fun _ => rfl, fun _ => congrArg Value.string rep_step, fun _ => rfl, sint_eq hir _ _, fun _ => rfl, fun _ => rfl, fun _ => rfl, fun _ => rfl, fun _ => rfl, fun _ => rfl, fun _ => rfl, fun _ => rfl, fun _ => rfl, fun _ => rfl, fun _ => rfl, fun _ => rfl, fun _ => rfl, fun _ => rfl, fun _ => rfl, fun _ => rfl, fun _ => rfl, fun _ => rfl, fun _ => rfl, fun _ => rfl, fun _ => rfl, fun _ => rfl, fun _ => rfl, fun _ => rfl, fun _ => rfl, fun _ => rfl, fun _ => rfl, fun _ => rfl, fun _ => rfl, fun _ => rfl, fun _ => rfl, fun _ => rfl, fun _ => rfl, fun _ => rfl, fun _ => rfl, fun _ => rfl, fun _ => rfl, fun _ => rfl, fun _ => rfl, fun _ => rfl, fun _ => rfl, fun _ => rfl, fun _ => rfl, fun _ => rfl, fun _ => rfl, fun _ => rfl, fun _ => rfl, fun _ => rfl, fun _ => rfl, fun _ => rfl, fun _ => rfl, fun _ => rfl, fun _ => rfl, fun _ => rfl, fun _ => rfl, fun _ => rfl, fun _ => rfl, fun _ => rfl, fun _ => rfl, fun _ => rfl, fun _ => rfl, fun _ => rfl, fun _ => rfl, fun _ => rfl, fun _ => rfl, fun _ => rfl, fun _ => rfl, fun _ => rfl, fun _ => rfl, trivial⟩
        · exact ⟨⟨rfl, rfl, rfl, fun _ => rfl⟩, ⟨rfl, rfl, rfl, fun _ => rfl⟩, ⟨rfl, rfl, rfl, fun _ => rfl⟩, trivial⟩
      · have hge : ¬ i < z30 y1 := ge_z30 hlt
        have hie : i = z30 y1 := Nat.le_antisymm hI (Nat.le_of_not_lt hge)
        subst hie
        conv => whnf
        exact hqx ⟨(), trivial⟩ (fun i => nth uv (_ :: _ :: _ :: _ :: _ :: uv :: uv :: uv :: uv :: uv :: uv :: uv :: _ :: _ :: _ :: _ :: _ :: _ :: _ :: _ :: _ :: _ :: _ :: _ :: _ :: _ :: _ :: _ :: _ :: _ :: _ :: _ :: _ :: _ :: _ :: _ :: _ :: _ :: _ :: _ :: _ :: _ :: _ :: _ :: _ :: _ :: _ :: _ :: _ :: _ :: _ :: _ :: _ :: _ :: _ :: _ :: _ :: _ :: _ :: _ :: _ :: _ :: _ :: _ :: _ :: _ :: _ :: _ :: _ :: _ :: _ :: _ :: _ :: _ :: _ :: _ :: _ :: _ :: _ :: _ :: _ :: _ :: []) i)
    · rintro ⟨u, hu⟩ jj
      conv => whnf
      have hk30 : z30 y1 ≤ 30 := Nat.le_of_lt (z30_lt y1)
      obtain ⟨q1, q2⟩ := parse_text (ival b0 s0.data.toList) (z30 y1) (by omega)
      have hsz2 := sz_le (z := (ival b0 s0.data.toList)) hk30 hdl
      have hro : (List.replicate (z30 y1) 48 ++ decT (ival b0 s0.data.toList)).length ≤ 100000 := by rw [List.length_append, List.length_replicate]; omega
      obtain ⟨S2, hS2⟩ : ∃ S2 : ByteArray, S2 = ⟨(sgT (ival b0 s0.data.toList) ++ (List.replicate (z30 y1) 48 ++ decT (ival b0 s0.data.toList))).toArray⟩ := ⟨_, rfl⟩
      rw [← hS2] at q1 q2 hsz2
      have hcat : (⟨(sgT (ival b0 s0.data.toList)).toArray⟩ : ByteArray) ++ ⟨(List.replicate (z30 y1) 48 ++ decT (ival b0 s0.data.toList)).toArray⟩ = S2 := by rw [hS2, cat_mk]
      conv =>
        arg 2
        tactic' =>
          apply eff_cat2 (c := S2) (a := ⟨(sgT (ival b0 s0.data.toList)).toArray⟩) (b := ⟨(List.replicate (z30 y1) 48 ++ decT (ival b0 s0.data.toList)).toArray⟩) (ho := ?how10) (hx := ?hxw10) (hy := ?hyw10) (h := ?hw10) (e := ?ew10)
          case how10 => rfl
          case hxw10 => rfl
          case hyw10 => rfl
          case hw10 => exact room_mk (Nat.le_trans (sg_len _) (by decide)) hro
          case ew10 => exact hcat
      conv => whnf
      refine ⟨hsz2, ?_⟩
      conv => whnf
      refine ⟨Nat.le_trans hs0 (by decide), ?_⟩
      conv => whnf
      refine bcase_true (beq_s hS) ?_
      conv => whnf
      refine bcase_true p2 ?_
      conv => whnf
      refine bcase_true q2 ?_
      conv => whnf
      refine ⟨⟨Nat.le_trans hs0 (by decide), Nat.le_trans (Nat.le_refl 40000) (by decide)⟩, ?_⟩
      conv => whnf
      refine bcase_true (decide_eq_true (sg_zero p1)) ?_
      conv => whnf
      refine bcase_true (decide_eq_true (p1.trans q1.symm)) ?_
      conv => whnf
      refine ⟨Nat.le_trans hs0 (by decide), ?_⟩
      conv => whnf
      refine ⟨Nat.le_trans hs0 (by decide), ?_⟩
      conv => whnf
      exact fun ρ => bool_sv (decide_eq_true (p1.trans (Int.neg_neg _).symm)) ρ
set_option maxHeartbeats 16000000 in
theorem vcWideTextsB (b0 : Bool) (z0 : Int) (h0 : IR z0) (a0 : Option Addr) (y1 : Int) (k1 : IR y1) : vcF envT (inl envT fxMade 1) Tryd.f14 [.agg [.val (.bool b0), .val (.slice a0 0 0), .int z0 h0], .c (.int y1 k1)] [] fun u _ => ∀ ρ, u.den ρ = (SV.c (.val (.bool true))).den ρ := by
  conv => whnf
  generalize es : mkS z0 _ = s0
  have hs0 : 8 * s0.size ≤ 320 := es ▸ mk320 _ _
  refine ⟨Nat.le_trans hs0 (by decide), ?_⟩
  conv => whnf
  have hdl := text_len (b := b0) hs0
  obtain ⟨p1, p2⟩ := parse_text (ival b0 s0.data.toList) 0 (by omega)
  have hsz1 := sz_le (z := (ival b0 s0.data.toList)) (k := 0) (by decide) hdl
  generalize eS : (⟨(textL _).toArray⟩ : ByteArray) = S
  have hS : S = ⟨(textL (ival b0 s0.data.toList)).toArray⟩ := eS.symm
  have hSe : (⟨(sgT (ival b0 s0.data.toList) ++ (List.replicate 0 48 ++ decT (ival b0 s0.data.toList))).toArray⟩ : ByteArray) = S := by rw [hS, text_parts]; rfl
  rw [hSe] at p1 p2 hsz1
  have hirS : IR S.size := by unfold IR; omega
  refine ⟨hsz1, ?_⟩
  conv => whnf
  conv =>
    arg 2
    tactic' =>
      apply eff_len_str (ho := ?how17) (hc := ?hcw17) (ha := ?haw17) (ht := ?htw17) (hT := ?hTw17) (hx := ?hxw17) (h := ?hw17)
      case how17 => rfl
      case hcw17 => rfl
      case haw17 => rfl
      case htw17 => rfl
      case hTw17 => rfl
      case hxw17 => rfl
      case hw17 => exact hirS
  conv => whnf
  by_cases hz : (ival b0 s0.data.toList) < 0
  · obtain ⟨hl0, hc0, hx⟩ := head_neg hS hz
    refine bcase_true (decide_eq_true (by omega)) ?_
    conv => whnf
    conv =>
      arg 2
      tactic' =>
        apply eff_index_chr (i := 0) (c := 45) (ho := ?how19) (hT := ?hTw19) (hx := ?hxw19) (hk := ?hkw19) (hlt := ?hltw19) (hc := ?hcw19)
        case how19 => rfl
        case hTw19 => rfl
        case hxw19 => rfl
        case hkw19 => rfl
        case hltw19 => exact hl0
        case hcw19 => exact hc0
    conv => whnf
    conv =>
      arg 2
      tactic' =>
        apply eff_slice_str (ho := ?how18) (hT := ?hTw18) (hx := ?hxw18) (hl := ?hlw18) (hk := ?hkw18) (hle := ?hlew18)
        case how18 => rfl
        case hTw18 => rfl
        case hxw18 => rfl
        case hlw18 => rfl
        case hkw18 => rfl
        case hlew18 => exact ⟨hl0, Nat.le_refl _⟩
    conv => whnf
    refine loop_cut (G := {g : Nat × (Nat → Value) // g.1 ≤ z30 y1}) (X := {u : Unit // True}) (fun g => (.c (.val (g.1.2 0)) :: .c (.int y1 k1) :: .c (.val (g.1.2 2)) :: .c (.val (g.1.2 3)) :: .c (.val (g.1.2 4)) :: .c (.val (.bool true)) :: .c (.ptr 0 0) :: .c (.val (.string S)) :: .c (.ptr 1 0) :: .c (.val (.bool (parseOk S))) :: .c (.val (.string ⟨(List.replicate g.1.1 48 ++ decT (ival b0 s0.data.toList)).toArray⟩)) :: .c (.val (.string ⟨(sgT (ival b0 s0.data.toList)).toArray⟩)) :: .c (.int (g.1.1 : Nat) (ir_nat (Nat.le_trans g.2 (Nat.le_trans (Nat.le_of_lt (z30_lt y1)) (by decide))))) :: .c (.val (g.1.2 13)) :: .c (.val (g.1.2 14)) :: .c (.val (g.1.2 15)) :: .c (.val (g.1.2 16)) :: .c (.val (g.1.2 17)) :: .c (.val (g.1.2 18)) :: .c (.val (g.1.2 19)) :: .c (.val (g.1.2 20)) :: .c (.val (g.1.2 21)) :: .c (.val (g.1.2 22)) :: .c (.val (g.1.2 23)) :: .c (.val (g.1.2 24)) :: .c (.val (g.1.2 25)) :: .c (.val (g.1.2 26)) :: .c (.val (g.1.2 27)) :: .c (.val (g.1.2 28)) :: .c (.val (g.1.2 29)) :: .c (.val (g.1.2 30)) :: .c (.val (g.1.2 31)) :: .c (.val (g.1.2 32)) :: .c (.val (g.1.2 33)) :: .c (.val (g.1.2 34)) :: .c (.val (g.1.2 35)) :: .c (.val (g.1.2 36)) :: .c (.val (g.1.2 37)) :: .c (.val (g.1.2 38)) :: .c (.val (g.1.2 39)) :: .c (.val (g.1.2 40)) :: .c (.val (g.1.2 41)) :: .c (.val (g.1.2 42)) :: .c (.val (g.1.2 43)) :: .c (.val (g.1.2 44)) :: .c (.val (g.1.2 45)) :: .c (.val (g.1.2 46)) :: .c (.val (g.1.2 47)) :: .c (.val (g.1.2 48)) :: .c (.val (g.1.2 49)) :: .c (.val (g.1.2 50)) :: .c (.val (g.1.2 51)) :: .c (.val (g.1.2 52)) :: .c (.val (g.1.2 53)) :: .c (.val (g.1.2 54)) :: .c (.val (g.1.2 55)) :: .c (.val (g.1.2 56)) :: .c (.val (g.1.2 57)) :: .c (.val (g.1.2 58)) :: .c (.val (g.1.2 59)) :: .c (.val (g.1.2 60)) :: .c (.val (g.1.2 61)) :: .c (.val (g.1.2 62)) :: .c (.val (g.1.2 63)) :: .c (.val (g.1.2 64)) :: .c (.val (g.1.2 65)) :: .c (.val (g.1.2 66)) :: .c (.val (g.1.2 67)) :: .c (.val (g.1.2 68)) :: .c (.val (g.1.2 69)) :: .c (.val (g.1.2 70)) :: .c (.val (g.1.2 71)) :: .c (.val (g.1.2 72)) :: .c (.val (g.1.2 73)) :: .c (.val (g.1.2 74)) :: .c (.val (g.1.2 75)) :: .c (.val (g.1.2 76)) :: .c (.val (g.1.2 77)) :: .c (.val (g.1.2 78)) :: .c (.val (g.1.2 79)) :: .c (.val (g.1.2 80)) :: .c (.val (g.1.2 81)) :: [])) (fun g => [⟨27, false, [.val (.bool b0), .val (.string s0)], 0⟩, ⟨27, false, [.wid 40000 (parseZ S) (sm_parse S)], 0⟩]) (fun g => z30 y1 - g.1.1) 0 (fun x j => (j 0 :: j 1 :: j 2 :: j 3 :: j 4 :: .c (.val (.bool true)) :: .c (.ptr 0 0) :: .c (.val (.string S)) :: .c (.ptr 1 0) :: .c (.val (.bool (parseOk S))) :: .c (.val (.string ⟨(List.replicate (z30 y1) 48 ++ decT (ival b0 s0.data.toList)).toArray⟩)) :: .c (.val (.string ⟨(sgT (ival b0 s0.data.toList)).toArray⟩)) :: j 12 :: j 13 :: j 14 :: j 15 :: j 16 :: j 17 :: j 18 :: j 19 :: j 20 :: j 21 :: j 22 :: j 23 :: j 24 :: j 25 :: j 26 :: j 27 :: j 28 :: j 29 :: j 30 :: j 31 :: j 32 :: j 33 :: j 34 :: j 35 :: j 36 :: j 37 :: j 38 :: j 39 :: j 40 :: j 41 :: j 42 :: j 43 :: j 44 :: j 45 :: j 46 :: j 47 :: j 48 :: j 49 :: j 50 :: j 51 :: j 52 :: j 53 :: j 54 :: j 55 :: j 56 :: j 57 :: j 58 :: j 59 :: j 60 :: j 61 :: j 62 :: j 63 :: j 64 :: j 65 :: j 66 :: j 67 :: j 68 :: j 69 :: j 70 :: j 71 :: j 72 :: j 73 :: j 74 :: j 75 :: j 76 :: j 77 :: j 78 :: j 79 :: j 80 :: j 81 :: [])) (fun x => [⟨27, false, [.val (.bool b0), .val (.string s0)], 0⟩, ⟨27, false, [.wid 40000 (parseZ S) (sm_parse S)], 0⟩]) ?_ ?_ ?_
    · refine ⟨[1, 2], [1, 5, 6, 7, 8, 9, 10, 11, 12], [0, 1], fun vs => ?_⟩
      conv => whnf
      refine ⟨fun _ _ => rfl, fun _ _ => rfl, ?_⟩
      conv => whnf
      refine ⟨_, _, ?_, ?_, ⟨(0, vs), Nat.zero_le _⟩, rfl, rfl⟩
      · exact ⟨fun _ => rfl, fun _ => rfl, fun _ => rfl, fun _ => rfl, fun _ => rfl, fun _ => rfl, fun _ => rfl, fun _ => rfl, fun _ => rfl, fun _ => rfl, fun _ => congrArg Value.string (hx), fun _ => congrArg Value.string (by unfold sgT; rw [if_pos hz]), fun _ => rfl, fun _ => rfl, fun _ => rfl, fun _ => rfl, fun _ => rfl, fun _ => rfl, fun _ => rfl, fun _ => rfl, fun _ => rfl, fun _ => rfl, fun _ => rfl, fun _ => rfl, fun _ => rfl, fun _ => rfl, fun _ => rfl, fun _ => rfl, fun _ => rfl, fun _ => rfl, fun _ => rfl, fun _ => rfl, fun _ => rfl, fun _ => rfl, fun _ => rfl, fun _ => rfl, fun _ => rfl, fun _ => rfl, fun _ => rfl, fun _ => rfl, fun _ => rfl, fun _ => rfl, fun _ => rfl, fun _ => rfl, fun _ => rfl, fun _ => rfl, fun _ => rfl, fun _ => rfl, fun _ => rfl, fun _ => rfl, fun _ => rfl, fun _ => rfl, fun _ => rfl, fun _ => rfl, fun _ => rfl, fun _ => rfl, fun _ => rfl, fun _ => rfl, fun _ => rfl, fun _ => rfl, fun _ => rfl, fun _ => rfl, fun _ => rfl, fun _ => rfl, fun _ => rfl, fun _ => rfl, fun _ => rfl, fun _ => rfl, fun _ => rfl, fun _ => rfl, fun _ => rfl, fun _ => rfl, fun _ => rfl, fun _ => rfl, fun _ => rfl, fun _ => rfl, fun _ => rfl, fun _ => rfl, fun _ => rfl, fun _ => rfl, fun _ => rfl, fun _ => rfl, trivial⟩
      · exact ⟨⟨rfl, rfl, rfl, fun _ => rfl⟩, ⟨rfl, rfl, rfl, fun _ => rfl⟩, trivial⟩
    · intro Qx hqx
      rintro ⟨⟨i, vs⟩, hI⟩
      have hI : i ≤ z30 y1 := hI
      conv => whnf
      refine bcase_intro (fun hlt => ?_) (fun hlt => ?_)
      · have hlt : i < z30 y1 := lt_z30 hlt
        have hi30 : i ≤ 30 := Nat.le_trans (Nat.le_of_lt hlt) (Nat.le_of_lt (z30_lt y1))
        have hir : IntKind.i64.wrap ((i : Int) + 1) = ((i + 1 : Nat) : Int) := by rw [wrap_id (by unfold IR; omega)]; omega
        have hro : (List.replicate i 48 ++ decT (ival b0 s0.data.toList)).length ≤ 100000 := by rw [List.length_append, List.length_replicate]; omega
        conv => whnf
        conv =>
          arg 2
          tactic' =>
            apply eff_cat (a := ⟨[48].toArray⟩) (b := ⟨(List.replicate i 48 ++ decT (ival b0 s0.data.toList)).toArray⟩) (ho := ?how15) (hx := ?hxw15) (hy := ?hyw15) (h := ?hw15)
            case how15 => rfl
            case hxw15 => rfl
            case hyw15 => rfl
            case hw15 => exact room_mk (a := [48]) (by decide) hro
        conv => whnf
        refine ⟨[0, 1], [1, 5, 6, 7, 8, 9, 10, 11, 12], [0, 1], fun vs2 => ?_⟩
        conv => whnf
        refine ⟨fun _ _ => rfl, fun _ _ => rfl, ?_⟩
        conv => whnf
        refine ⟨_, _, ?_, ?_, ⟨(i + 1, vs2), hlt⟩, (by omega : z30 y1 - (i + 1) < z30 y1 - i), rfl, rfl⟩
        · exact ⟨fun _ => rfl, fun _ => rfl, fun _ => rfl, fun _ => rfl, fun _ => rfl, fun _ => rfl, fun _ => rfl, fun _ => rfl, fun _ => rfl, fun _ => rfl, fun _ => congrArg Value.string rep_step, fun _ => rfl, sint_eq hir _ _, fun _ => rfl, fun _ => rfl, fun _ => rfl, fun _ => rfl, fun _ => rfl, fun _ => rfl, fun _ => rfl, fun _ => rfl, fun _ => rfl, fun _ => rfl, fun _ => rfl, fun _ => rfl, fun _ => rfl, fun _ => rfl, fun _ => rfl, fun _ => rfl, fun _ => rfl, fun _ => rfl, fun _ => rfl, fun _ => rfl, fun _ => rfl, fun _ => rfl, fun _ => rfl, fun _ => rfl, fun _ => rfl, fun _ => rfl, fun _ => rfl, fun _ => rfl, fun _ => rfl, fun _ => rfl, fun _ => rfl, fun _ => rfl, fun _ => rfl, fun _ => rfl, fun _ => rfl, fun _ => rfl, fun _ => rfl, fun _ => rfl, fun _ => rfl, fun _ => rfl, fun _ => rfl, fun _ => rfl, fun _ => rfl, fun _ => rfl, fun _ => rfl, fun _ => rfl, fun _ => rfl, fun _ => rfl, fun _ => rfl, fun _ => rfl, fun _ => rfl, fun _ => rfl, fun _ => rfl, fun _ => rfl, fun _ => rfl, fun _ => rfl, fun _ => rfl, fun _ => rfl, fun _ => rfl, fun _ => rfl, fun _ => rfl, fun _ => rfl, fun _ => rfl, fun _ => rfl, fun _ => rfl, fun _ => rfl, fun _ => rfl, fun _ => rfl, fun _ => rfl, trivial⟩
        · exact ⟨⟨rfl, rfl, rfl, fun _ => rfl⟩, ⟨rfl, rfl, rfl, fun _ => rfl⟩, trivial⟩
      · have hge : ¬ i < z30 y1 := ge_z30 hlt
        have hie : i = z30 y1 := Nat.le_antisymm hI (Nat.le_of_not_lt hge)
        subst hie
        conv => whnf
        exact hqx ⟨(), trivial⟩ (fun i => nth uv (_ :: _ :: _ :: _ :: _ :: uv :: uv :: uv :: uv :: uv :: uv :: uv :: _ :: _ :: _ :: _ :: _ :: _ :: _ :: _ :: _ :: _ :: _ :: _ :: _ :: _ :: _ :: _ :: _ :: _ :: _ :: _ :: _ :: _ :: _ :: _ :: _ :: _ :: _ :: _ :: _ :: _ :: _ :: _ :: _ :: _ :: _ :: _ :: _ :: _ :: _ :: _ :: _ :: _ :: _ :: _ :: _ :: _ :: _ :: _ :: _ :: _ :: _ :: _ :: _ :: _ :: _ :: _ :: _ :: _ :: _ :: _ :: _ :: _ :: _ :: _ :: _ :: _ :: _ :: _ :: _ :: _ :: []) i)
    · rintro ⟨u, hu⟩ jj
      conv => whnf
      have hk30 : z30 y1 ≤ 30 := Nat.le_of_lt (z30_lt y1)
      obtain ⟨q1, q2⟩ := parse_text (ival b0 s0.data.toList) (z30 y1) (by omega)
      have hsz2 := sz_le (z := (ival b0 s0.data.toList)) hk30 hdl
      have hro : (List.replicate (z30 y1) 48 ++ decT (ival b0 s0.data.toList)).length ≤ 100000 := by rw [List.length_append, List.length_replicate]; omega
      obtain ⟨S2, hS2⟩ : ∃ S2 : ByteArray, S2 = ⟨(sgT (ival b0 s0.data.toList) ++ (List.replicate (z30 y1) 48 ++ decT (ival b0 s0.data.toList))).toArray⟩ := ⟨_, rfl⟩
      rw [← hS2] at q1 q2 hsz2
      have hcat : (⟨(sgT (ival b0 s0.data.toList)).toArray⟩ : ByteArray) ++ ⟨(List.replicate (z30 y1) 48 ++ decT (ival b0 s0.data.toList)).toArray⟩ = S2 := by rw [hS2, cat_mk]
      conv =>
        arg 2
        tactic' =>
          apply eff_cat2 (c := S2) (a := ⟨(sgT (ival b0 s0.data.toList)).toArray⟩) (b := ⟨(List.replicate (z30 y1) 48 ++ decT (ival b0 s0.data.toList)).toArray⟩) (ho := ?how16) (hx := ?hxw16) (hy := ?hyw16) (h := ?hw16) (e := ?ew16)
          case how16 => rfl
          case hxw16 => rfl
          case hyw16 => rfl
          case hw16 => exact room_mk (Nat.le_trans (sg_len _) (by decide)) hro
          case ew16 => exact hcat
      conv => whnf
      refine ⟨hsz2, ?_⟩
      conv => whnf
      refine ⟨Nat.le_trans hs0 (by decide), ?_⟩
      conv => whnf
      refine bcase_true (beq_s hS) ?_
      conv => whnf
      refine bcase_true p2 ?_
      conv => whnf
      refine bcase_true q2 ?_
      conv => whnf
      refine ⟨⟨Nat.le_trans hs0 (by decide), Nat.le_trans (Nat.le_refl 40000) (by decide)⟩, ?_⟩
      conv => whnf
      refine bcase_true (decide_eq_true (sg_zero p1)) ?_
      conv => whnf
      refine bcase_true (decide_eq_true (p1.trans q1.symm)) ?_
      conv => whnf
      refine ⟨Nat.le_trans hs0 (by decide), ?_⟩
      conv => whnf
      refine ⟨Nat.le_trans hs0 (by decide), ?_⟩
      conv => whnf
      exact fun ρ => bool_sv (decide_eq_true (p1.trans (Int.neg_neg _).symm)) ρ
  · obtain ⟨c0', hl0, hc0, hne, hx⟩ := head_pos hS hz
    refine bcase_true (decide_eq_true (by omega)) ?_
    conv => whnf
    conv =>
      arg 2
      tactic' =>
        apply eff_index_chr (i := 0) (c := c0') (ho := ?how20) (hT := ?hTw20) (hx := ?hxw20) (hk := ?hkw20) (hlt := ?hltw20) (hc := ?hcw20)
        case how20 => rfl
        case hTw20 => rfl
        case hxw20 => rfl
        case hkw20 => rfl
        case hltw20 => exact hl0
        case hcw20 => exact hc0
    conv => whnf
    refine bcase_false ((c_dash c0').symm.trans (beq_false_of_ne hne)) ?_
    conv => whnf
    refine loop_cut (G := {g : Nat × (Nat → Value) // g.1 ≤ z30 y1}) (X := {u : Unit // True}) (fun g => (.c (.val (g.1.2 0)) :: .c (.int y1 k1) :: .c (.val (g.1.2 2)) :: .c (.val (g.1.2 3)) :: .c (.val (g.1.2 4)) :: .c (.val (.bool true)) :: .c (.ptr 0 0) :: .c (.val (.string S)) :: .c (.ptr 1 0) :: .c (.val (.bool (parseOk S))) :: .c (.val (.string ⟨(List.replicate g.1.1 48 ++ decT (ival b0 s0.data.toList)).toArray⟩)) :: .c (.val (.string ⟨(sgT (ival b0 s0.data.toList)).toArray⟩)) :: .c (.int (g.1.1 : Nat) (ir_nat (Nat.le_trans g.2 (Nat.le_trans (Nat.le_of_lt (z30_lt y1)) (by decide))))) :: .c (.val (g.1.2 13)) :: .c (.val (g.1.2 14)) :: .c (.val (g.1.2 15)) :: .c (.val (g.1.2 16)) :: .c (.val (g.1.2 17)) :: .c (.val (g.1.2 18)) :: .c (.val (g.1.2 19)) :: .c (.val (g.1.2 20)) :: .c (.val (g.1.2 21)) :: .c (.val (g.1.2 22)) :: .c (.val (g.1.2 23)) :: .c (.val (g.1.2 24)) :: .c (.val (g.1.2 25)) :: .c (.val (g.1.2 26)) :: .c (.val (g.1.2 27)) :: .c (.val (g.1.2 28)) :: .c (.val (g.1.2 29)) :: .c (.val (g.1.2 30)) :: .c (.val (g.1.2 31)) :: .c (.val (g.1.2 32)) :: .c (.val (g.1.2 33)) :: .c (.val (g.1.2 34)) :: .c (.val (g.1.2 35)) :: .c (.val (g.1.2 36)) :: .c (.val (g.1.2 37)) :: .c (.val (g.1.2 38)) :: .c (.val (g.1.2 39)) :: .c (.val (g.1.2 40)) :: .c (.val (g.1.2 41)) :: .c (.val (g.1.2 42)) :: .c (.val (g.1.2 43)) :: .c (.val (g.1.2 44)) :: .c (.val (g.1.2 45)) :: .c (.val (g.1.2 46)) :: .c (.val (g.1.2 47)) :: .c (.val (g.1.2 48)) :: .c (.val (g.1.2 49)) :: .c (.val (g.1.2 50)) :: .c (.val (g.1.2 51)) :: .c (.val (g.1.2 52)) :: .c (.val (g.1.2 53)) :: .c (.val (g.1.2 54)) :: .c (.val (g.1.2 55)) :: .c (.val (g.1.2 56)) :: .c (.val (g.1.2 57)) :: .c (.val (g.1.2 58)) :: .c (.val (g.1.2 59)) :: .c (.val (g.1.2 60)) :: .c (.val (g.1.2 61)) :: .c (.val (g.1.2 62)) :: .c (.val (g.1.2 63)) :: .c (.val (g.1.2 64)) :: .c (.val (g.1.2 65)) :: .c (.val (g.1.2 66)) :: .c (.val (g.1.2 67)) :: .c (.val (g.1.2 68)) :: .c (.val (g.1.2 69)) :: .c (.val (g.1.2 70)) :: .c (.val (g.1.2 71)) :: .c (.val (g.1.2 72)) :: .c (.val (g.1.2 73)) :: .c (.val (g.1.2 74)) :: .c (.val (g.1.2 75)) :: .c (.val (g.1.2 76)) :: .c (.val (g.1.2 77)) :: .c (.val (g.1.2 78)) :: .c (.val (g.1.2 79)) :: .c (.val (g.1.2 80)) :: .c (.val (g.1.2 81)) :: [])) (fun g => [⟨27, false, [.val (.bool b0), .val (.string s0)], 0⟩, ⟨27, false, [.wid 40000 (parseZ S) (sm_parse S)], 0⟩]) (fun g => z30 y1 - g.1.1) 0 (fun x j => (j 0 :: j 1 :: j 2 :: j 3 :: j 4 :: .c (.val (.bool true)) :: .c (.ptr 0 0) :: .c (.val (.string S)) :: .c (.ptr 1 0) :: .c (.val (.bool (parseOk S))) :: .c (.val (.string ⟨(List.replicate (z30 y1) 48 ++ decT (ival b0 s0.data.toList)).toArray⟩)) :: .c (.val (.string ⟨(sgT (ival b0 s0.data.toList)).toArray⟩)) :: j 12 :: j 13 :: j 14 :: j 15 :: j 16 :: j 17 :: j 18 :: j 19 :: j 20 :: j 21 :: j 22 :: j 23 :: j 24 :: j 25 :: j 26 :: j 27 :: j 28 :: j 29 :: j 30 :: j 31 :: j 32 :: j 33 :: j 34 :: j 35 :: j 36 :: j 37 :: j 38 :: j 39 :: j 40 :: j 41 :: j 42 :: j 43 :: j 44 :: j 45 :: j 46 :: j 47 :: j 48 :: j 49 :: j 50 :: j 51 :: j 52 :: j 53 :: j 54 :: j 55 :: j 56 :: j 57 :: j 58 :: j 59 :: j 60 :: j 61 :: j 62 :: j 63 :: j 64 :: j 65 :: j 66 :: j 67 :: j 68 :: j 69 :: j 70 :: j 71 :: j 72 :: j 73 :: j 74 :: j 75 :: j 76 :: j 77 :: j 78 :: j 79 :: j 80 :: j 81 :: [])) (fun x => [⟨27, false, [.val (.bool b0), .val (.string s0)], 0⟩, ⟨27, false, [.wid 40000 (parseZ S) (sm_parse S)], 0⟩]) ?_ ?_ ?_
    · refine ⟨[1, 2], [1, 5, 6, 7, 8, 9, 10, 11, 12], [0, 1], fun vs => ?_⟩
      conv => whnf
      refine ⟨fun _ _ => rfl, fun _ _ => rfl, ?_⟩
      conv => whnf
      refine ⟨_, _, ?_, ?_, ⟨(0, vs), Nat.zero_le _⟩, rfl, rfl⟩
      · exact ⟨fun _ => rfl, fun _ => rfl, fun _ => rfl, fun _ => rfl, fun _ => rfl, fun _ => rfl, fun _ => rfl, fun _ => rfl, fun _ => rfl, fun _ => rfl, fun _ => congrArg Value.string (hx), fun _ => congrArg Value.string (by unfold sgT; rw [if_neg hz]), fun _ => rfl, fun _ => rfl, fun _ => rfl, fun _ => rfl, fun _ => rfl, fun _ => rfl, fun _ => rfl, fun _ => rfl, fun _ => rfl, fun _ => rfl, fun _ => rfl, fun _ => rfl, fun _ => rfl, fun _ => rfl, fun _ => rfl, fun _ => rfl, fun _ => rfl, fun _ => rfl, fun _ => rfl, fun _ => rfl, fun _ => rfl, fun _ => rfl, fun _ => rfl, fun _ => rfl, fun _ => rfl, fun _ => rfl, fun _ => rfl, fun _ => rfl, fun _ => rfl, fun _ => rfl, fun _ => rfl, fun _ => rfl, fun _ => rfl, fun _ => rfl, fun _ => rfl, fun _ => rfl, fun _ => rfl, fun _ => rfl, fun _ => rfl, fun _ => rfl, fun _ => rfl, fun _ => rfl, fun _ => rfl, fun _ => rfl, fun _ => rfl, fun _ => rfl, fun _ => rfl, fun _ => rfl, fun _ => rfl, fun _ => rfl, fun _ => rfl, fun _ => rfl, fun _ => rfl, fun _ => rfl, fun _ => rfl, fun _ => rfl, fun _ => rfl, fun _ => rfl, fun _ => rfl, fun _ => rfl, fun _ => rfl, fun _ => rfl, fun _ => rfl, fun _ => rfl, fun _ => rfl, fun _ => rfl, fun _ => rfl, fun _ => rfl, fun _ => rfl, fun _ => rfl, trivial⟩
      · exact ⟨⟨rfl, rfl, rfl, fun _ => rfl⟩, ⟨rfl, rfl, rfl, fun _ => rfl⟩, trivial⟩
    · intro Qx hqx
      rintro ⟨⟨i, vs⟩, hI⟩
      have hI : i ≤ z30 y1 := hI
      conv => whnf
      refine bcase_intro (fun hlt => ?_) (fun hlt => ?_)
      · have hlt : i < z30 y1 := lt_z30 hlt
        have hi30 : i ≤ 30 := Nat.le_trans (Nat.le_of_lt hlt) (Nat.le_of_lt (z30_lt y1))
        have hir : IntKind.i64.wrap ((i : Int) + 1) = ((i + 1 : Nat) : Int) := by rw [wrap_id (by unfold IR; omega)]; omega
        have hro : (List.replicate i 48 ++ decT (ival b0 s0.data.toList)).length ≤ 100000 := by rw [List.length_append, List.length_replicate]; omega
        conv => whnf
        conv =>
          arg 2
          tactic' =>
            apply eff_cat (a := ⟨[48].toArray⟩) (b := ⟨(List.replicate i 48 ++ decT (ival b0 s0.data.toList)).toArray⟩) (ho := ?how15) (hx := ?hxw15) (hy := ?hyw15) (h := ?hw15)
            case how15 => rfl
            case hxw15 => rfl
            case hyw15 => rfl
            case hw15 => exact room_mk (a := [48]) (by decide) hro
        conv => whnf
        refine ⟨[0, 1], [1, 5, 6, 7, 8, 9, 10, 11, 12], [0, 1], fun vs2 => ?_⟩
        conv => whnf
        refine ⟨fun _ _ => rfl, fun _ _ => rfl, ?_⟩
        conv => whnf
        refine ⟨_, _, ?_, ?_, ⟨(i + 1, vs2), hlt⟩, (by omega : z30 y1 - (i + 1) < z30 y1 - i), rfl, rfl⟩
        · exact ⟨fun _ => rfl, fun _ => rfl, fun _ => rfl, fun _ => rfl, fun _ => rfl, fun _ => rfl, fun _ => rfl, fun _ => rfl, fun _ => rfl, fun _ => rfl, fun _ => congrArg Value.string rep_step, fun _ => rfl, sint_eq hir _ _, fun _ => rfl, fun _ => rfl, fun _ => rfl, fun _ => rfl, fun _ => rfl, fun _ => rfl, fun _ => rfl, fun _ => rfl, fun _ => rfl, fun _ => rfl, fun _ => rfl, fun _ => rfl, fun _ => rfl, fun _ => rfl, fun _ => rfl, fun _ => rfl, fun _ => rfl, fun _ => rfl, fun _ => rfl, fun _ => rfl, fun _ => rfl, fun _ => rfl, fun _ => rfl, fun _ => rfl, fun _ => rfl, fun _ => rfl, fun _ => rfl, fun _ => rfl, fun _ => rfl, fun _ => rfl, fun _ => rfl, fun _ => rfl, fun _ => rfl, fun _ => rfl, fun _ => rfl, fun _ => rfl, fun _ => rfl, fun _ => rfl, fun _ => rfl, fun _ => rfl, fun _ => rfl, fun _ => rfl, fun _ => rfl, fun _ => rfl, fun _ => rfl, fun _ => rfl, fun _ => rfl, fun _ => rfl, fun _ => rfl, fun _ => rfl, fun _ => rfl, fun _ => rfl, fun _ => rfl, fun _ => rfl, fun _ => rfl, fun _ => rfl, fun _ => rfl, fun _ => rfl, fun _ => rfl, fun _ => rfl, fun _ => rfl, fun _ => rfl, fun _ => rfl, fun _ => rfl, fun _ => rfl, fun _ => rfl, fun _ => rfl, fun _ => rfl, fun _ => rfl, trivial⟩
        · exact ⟨⟨rfl, rfl, rfl, fun _ => rfl⟩, ⟨rfl, rfl, rfl, fun _ => rfl⟩, trivial⟩
      · have hge : ¬ i < z30 y1 := ge_z30 hlt
        have hie : i = z30 y1 := Nat.le_antisymm hI (Nat.le_of_not_lt hge)
        subst hie
        conv => whnf
        exact hqx ⟨(), trivial⟩ (fun i => nth uv (_ :: _ :: _ :: _ :: _ :: uv :: uv :: uv :: uv :: uv :: uv :: uv :: _ :: _ :: _ :: _ :: _ :: _ :: _ :: _ :: _ :: _ :: _ :: _ :: _ :: _ :: _ :: _ :: _ :: _ :: _ :: _ :: _ :: _ :: _ :: _ :: _ :: _ :: _ :: _ :: _ :: _ :: _ :: _ :: _ :: _ :: _ :: _ :: _ :: _ :: _ :: _ :: _ :: _ :: _ :: _ :: _ :: _ :: _ :: _ :: _ :: _ :: _ :: _ :: _ :: _ :: _ :: _ :: _ :: _ :: _ :: _ :: _ :: _ :: _ :: _ :: _ :: _ :: _ :: _ :: _ :: _ :: []) i)
    · rintro ⟨u, hu⟩ jj
      conv => whnf
      have hk30 : z30 y1 ≤ 30 := Nat.le_of_lt (z30_lt y1)
      obtain ⟨q1, q2⟩ := parse_text (ival b0 s0.data.toList) (z30 y1) (by omega)
      have hsz2 := sz_le (z := (ival b0 s0.data.toList)) hk30 hdl
      have hro : (List.replicate (z30 y1) 48 ++ decT (ival b0 s0.data.toList)).length ≤ 100000 := by rw [List.length_append, List.length_replicate]; omega
      obtain ⟨S2, hS2⟩ : ∃ S2 : ByteArray, S2 = ⟨(sgT (ival b0 s0.data.toList) ++ (List.replicate (z30 y1) 48 ++ decT (ival b0 s0.data.toList))).toArray⟩ := ⟨_, rfl⟩
      rw [← hS2] at q1 q2 hsz2
      have hcat : (⟨(sgT (ival b0 s0.data.toList)).toArray⟩ : ByteArray) ++ ⟨(List.replicate (z30 y1) 48 ++ decT (ival b0 s0.data.toList)).toArray⟩ = S2 := by rw [hS2, cat_mk]
      conv =>
        arg 2
        tactic' =>
          apply eff_cat2 (c := S2) (a := ⟨(sgT (ival b0 s0.data.toList)).toArray⟩) (b := ⟨(List.replicate (z30 y1) 48 ++ decT (ival b0 s0.data.toList)).toArray⟩) (ho := ?how16) (hx := ?hxw16) (hy := ?hyw16) (h := ?hw16) (e := ?ew16)
          case how16 => rfl
          case hxw16 => rfl
          case hyw16 => rfl
          case hw16 => exact room_mk (Nat.le_trans (sg_len _) (by decide)) hro
          case ew16 => exact hcat
      conv => whnf
      refine ⟨hsz2, ?_⟩
      conv => whnf
      refine ⟨Nat.le_trans hs0 (by decide), ?_⟩
      conv => whnf
      refine bcase_true (beq_s hS) ?_
      conv => whnf
      refine bcase_true p2 ?_
      conv => whnf
      refine bcase_true q2 ?_
      conv => whnf
      refine ⟨⟨Nat.le_trans hs0 (by decide), Nat.le_trans (Nat.le_refl 40000) (by decide)⟩, ?_⟩
      conv => whnf
      refine bcase_true (decide_eq_true (sg_zero p1)) ?_
      conv => whnf
      refine bcase_true (decide_eq_true (p1.trans q1.symm)) ?_
      conv => whnf
      refine ⟨Nat.le_trans hs0 (by decide), ?_⟩
      conv => whnf
      refine ⟨Nat.le_trans hs0 (by decide), ?_⟩
      conv => whnf
      exact fun ρ => bool_sv (decide_eq_true (p1.trans (Int.neg_neg _).symm)) ρ
end Go.Proofs.YtbhcmajeoamloaaDoor
