/- law 01: WideParses. -/
import Derived.Test.YtbhcmajeoamloaaDoorLwa
import Derived.Test.YtbhcmajeoamloaaDoorIab
import Derived.Test.YtbhcmajeoamloaaDoorRowX
namespace Go.Proofs.YtbhcmajeoamloaaDoor
open Go.RowKit
set_option maxRecDepth 100000

theorem bool_sv {a b : Bool} (e : a = b) (ρ : Rho) : (SV.c (.val (.bool a))).den ρ = (SV.c (.val (.bool b))).den ρ := by subst e; rfl
def lawP : List (FuncId × Dn) := (15, dSane) :: lawE
theorem lawP_ok : AllOk lawP := .cons spSane lawE_ok
theorem bb_t (b : Bool) : (b == b) = true := by cases b <;> rfl
theorem eff_cat {T : TypeId → Option TI} {op : Op} {ev : Operand → SV} {hp : Nat → Option Blk} {t yt : TypeId} {x y : Operand} (ho : op = .binOp .add t x y yt) {a b : ByteArray} (hx : ev x = .c (.val (.string a))) (hy : ev y = .c (.val (.string b))) (h : a.size + b.size ≤ 9223372036854775807) :
    eff T op ev hp = some (.val (.c (.val (.string (a ++ b))))) := by
  subst ho
  have e : binOp .add t (.string a) (.string b) = .pure (.string (a ++ b)) := by
    show Op.stringOp .add a b = _
    unfold Op.stringOp
    rw [if_neg (by simp [IntKind.max, IntKind.signed, IntKind.bits]; omega)]
    rfl
  simp only [eff, hx, hy, binS, e, pureO]
theorem one_at {e : Int} {c : UInt8} (h : e = (c.toNat : Int)) : subC [C.val (.int .u8 e)] 0 1 = some (bsC [c]) := by subst h; rfl
theorem eff_cat2 {T : TypeId → Option TI} {op : Op} {ev : Operand → SV} {hp : Nat → Option Blk} {t yt : TypeId} {x y : Operand} (ho : op = .binOp .add t x y yt) {a b c : ByteArray} (hx : ev x = .c (.val (.string a))) (hy : ev y = .c (.val (.string b))) (h : a.size + b.size ≤ 9223372036854775807) (e : a ++ b = c) :
    eff T op ev hp = some (.val (.c (.val (.string c)))) := by subst e; exact eff_cat ho hx hy h
def lawV : List (FuncId × Dn) := (26, dParse) :: lawP
theorem lawV_ok : AllOk lawV := .cons spRParse lawP_ok
def envV : Env := envN 0 lawV [] fun _ => false
theorem envV_ok : EOk Tryd.prog envV := envN_ok lawV_ok .nil 0 fun _ => false
theorem u8_of {v : Int} (h : 0 ≤ v ∧ v < 256) : v = ((UInt8.ofNat v.toNat).toNat : Int) := by rw [UInt8.toNat_ofNat']; omega
theorem u8_wrap (z : Int) : 0 ≤ IntKind.u8.wrap z ∧ IntKind.u8.wrap z < 256 := by unfold IntKind.wrap; simp [IntKind.bits, IntKind.signed]; omega
theorem cat_le {a b c : ByteArray} {m n : Nat} (e : a ++ b = c) (ha : a.size ≤ m) (hb : b.size ≤ n) : c.size ≤ m + n := by subst e; rw [ByteArray.size_append]; omega
theorem cat_fit {a b : ByteArray} {m n : Nat} (ha : a.size ≤ m) (hb : b.size ≤ n) (h : m + n ≤ 1000) : a.size + b.size ≤ 9223372036854775807 := by omega
theorem one_size (c : UInt8) : (⟨[c].toArray⟩ : ByteArray).size ≤ 1 := Nat.le_refl _
theorem ext_size (s : ByteArray) : (s.extract 0 (min s.size 60)).size ≤ 60 := by rw [ByteArray.size_extract]; omega
theorem ir_min60 (n : Nat) : IR ((min n 60 : Nat) : Int) := by unfold IR; omega
theorem bnd_min (n : Nat) {h : IR (minI (n : Int) 60)} : natOf (.c (.int (minI (n : Int) 60) h)) = some (min n 60) := (congrArg natOf (cint (min_nat n 60) (ir_min60 n))).trans rfl
theorem nbb (b : Bool) : (!(b == b)) = false := by cases b <;> rfl
theorem nde (z : Int) : (!decide (z = z)) = false := by simp
theorem lt_60 {i : Nat} (h : decide ((i : Int) < 60) = true) : i < 60 := by have := of_decide_eq_true h; omega
theorem ge_60 {i : Nat} (h : decide ((i : Int) < 60) = false) : ¬ i < 60 := by have := of_decide_eq_false h; omega
theorem suc60 {i : Nat} (h : i ≤ 60) : IntKind.i64.wrap ((i : Int) + 1) = ((i + 1 : Nat) : Int) := by rw [wrap_id (by unfold IR; omega)]; omega
set_option maxHeartbeats 16000000 in
theorem vcWideParsesA (s : ByteArray) (hs : IR s.size) (c : Int) (hc : 0 ≤ c ∧ c < 256) (l : List UInt8) (cap : Nat) (g0 : SliOk false l.length cap) : vcF envV (inl envV noF 0) Tryd.f6 [.c (.val (.string s)), .c (.sli false 0 0 l.length cap g0), .c (.val (.int .u8 c))] [⟨5, true, bsC l, 0⟩] fun u _ => ∀ ρ, u.den ρ = (SV.c (.val (.bool true))).den ρ := by
  obtain ⟨X, hX⟩ : ∃ X, s.extract 0 (min s.size 60) = X := ⟨_, rfl⟩
  have hXs : X.size ≤ 60 := hX ▸ ext_size s
  conv => whnf
  conv =>
    arg 2
    tactic' =>
      apply eff_len_str (ho := ?how9) (hc := ?hcw9) (ha := ?haw9) (ht := ?htw9) (hT := ?hTw9) (hx := ?hxw9) (h := ?hw9)
      case how9 => rfl
      case hcw9 => rfl
      case haw9 => rfl
      case htw9 => rfl
      case hTw9 => rfl
      case hxw9 => rfl
      case hw9 => exact hs
  conv => whnf
  conv =>
    arg 2
    tactic' =>
      apply eff_slice_str (k := min s.size 60) (ho := ?how10) (hT := ?hTw10) (hx := ?hxw10) (hl := ?hlw10) (hk := ?hkw10) (hle := ?hlew10)
      case how10 => rfl
      case hTw10 => rfl
      case hxw10 => rfl
      case hlw10 => rfl
      case hkw10 => exact bnd_min s.size
      case hlew10 => exact ⟨Nat.zero_le _, Nat.min_le_left _ _⟩
  conv => whnf
  refine loop_cut (G := {g : Nat × ByteArray × (Nat → Value) // g.1 ≤ 60 ∧ g.2.1.size ≤ g.1}) (X := {x : ByteArray // x.size ≤ 60}) (fun g => (.c (.val (g.1.2.2 0)) :: .c (.sli false 0 0 l.length cap g0) :: .c (.val (.int .u8 c)) :: .c (.val (g.1.2.2 3)) :: .c (.val (g.1.2.2 4)) :: .c (.val (g.1.2.2 5)) :: .c (.val (g.1.2.2 6)) :: .c (.val (.bool true)) :: .c (.val (.string (s.extract 0 (min s.size 60)))) :: .c (.val (.string g.1.2.1)) :: .c (.int (g.1.1 : Nat) (ir_nat (Nat.le_trans g.2.1 (by decide)))) :: .c (.val (g.1.2.2 11)) :: .c (.val (g.1.2.2 12)) :: .c (.val (g.1.2.2 13)) :: .c (.val (g.1.2.2 14)) :: .c (.val (g.1.2.2 15)) :: .c (.val (g.1.2.2 16)) :: .c (.val (g.1.2.2 17)) :: .c (.val (g.1.2.2 18)) :: .c (.val (g.1.2.2 19)) :: .c (.val (g.1.2.2 20)) :: .c (.val (g.1.2.2 21)) :: .c (.val (g.1.2.2 22)) :: .c (.val (g.1.2.2 23)) :: .c (.val (g.1.2.2 24)) :: .c (.val (g.1.2.2 25)) :: .c (.val (g.1.2.2 26)) :: .c (.val (g.1.2.2 27)) :: .c (.val (g.1.2.2 28)) :: .c (.val (g.1.2.2 29)) :: .c (.val (g.1.2.2 30)) :: .c (.val (g.1.2.2 31)) :: .c (.val (g.1.2.2 32)) :: .c (.val (g.1.2.2 33)) :: .c (.val (g.1.2.2 34)) :: .c (.val (g.1.2.2 35)) :: .c (.val (g.1.2.2 36)) :: .c (.val (g.1.2.2 37)) :: .c (.val (g.1.2.2 38)) :: .c (.val (g.1.2.2 39)) :: .c (.val (g.1.2.2 40)) :: .c (.val (g.1.2.2 41)) :: .c (.val (g.1.2.2 42)) :: .c (.val (g.1.2.2 43)) :: .c (.val (g.1.2.2 44)) :: .c (.val (g.1.2.2 45)) :: .c (.val (g.1.2.2 46)) :: .c (.val (g.1.2.2 47)) :: .c (.val (g.1.2.2 48)) :: .c (.val (g.1.2.2 49)) :: .c (.val (g.1.2.2 50)) :: .c (.val (g.1.2.2 51)) :: .c (.val (g.1.2.2 52)) :: .c (.val (g.1.2.2 53)) :: .c (.val (g.1.2.2 54)) :: .c (.val (g.1.2.2 55)) :: .c (.val (g.1.2.2 56)) :: .c (.val (g.1.2.2 57)) :: .c (.val (g.1.2.2 58)) :: .c (.val (g.1.2.2 59)) :: .c (.val (g.1.2.2 60)) :: .c (.val (g.1.2.2 61)) :: .c (.val (g.1.2.2 62)) :: .c (.val (g.1.2.2 63)) :: .c (.val (g.1.2.2 64)) :: .c (.val (g.1.2.2 65)) :: .c (.val (g.1.2.2 66)) :: .c (.val (g.1.2.2 67)) :: .c (.val (g.1.2.2 68)) :: .c (.val (g.1.2.2 69)) :: .c (.val (g.1.2.2 70)) :: .c (.val (g.1.2.2 71)) :: .c (.val (g.1.2.2 72)) :: .c (.val (g.1.2.2 73)) :: .c (.val (g.1.2.2 74)) :: .c (.val (g.1.2.2 75)) :: .c (.val (g.1.2.2 76)) :: .c (.val (g.1.2.2 77)) :: .c (.val (g.1.2.2 78)) :: .c (.val (g.1.2.2 79)) :: .c (.val (g.1.2.2 80)) :: .c (.val (g.1.2.2 81)) :: .c (.val (g.1.2.2 82)) :: .c (.val (g.1.2.2 83)) :: .c (.val (g.1.2.2 84)) :: .c (.val (g.1.2.2 85)) :: [])) (fun g => [⟨5, true, bsC l, 0⟩]) (fun g => 60 - g.1.1) 0 (fun x j => (j 0 :: j 1 :: .c (.val (.int .u8 c)) :: j 3 :: j 4 :: j 5 :: j 6 :: .c (.val (.bool true)) :: .c (.val (.string (s.extract 0 (min s.size 60)))) :: .c (.val (.string x.1)) :: j 10 :: j 11 :: j 12 :: j 13 :: j 14 :: j 15 :: j 16 :: j 17 :: j 18 :: j 19 :: j 20 :: j 21 :: j 22 :: j 23 :: j 24 :: j 25 :: j 26 :: j 27 :: j 28 :: j 29 :: j 30 :: j 31 :: j 32 :: j 33 :: j 34 :: j 35 :: j 36 :: j 37 :: j 38 :: j 39 :: j 40 :: j 41 :: j 42 :: j 43 :: j 44 :: j 45 :: j 46 :: j 47 :: j 48 :: j 49 :: j 50 :: j 51 :: j 52 :: j 53 :: j 54 :: j 55 :: j 56 :: j 57 :: j 58 :: j 59 :: j 60 :: j 61 :: j 62 :: j 63 :: j 64 :: j 65 :: j 66 :: j 67 :: j 68 :: j 69 :: j 70 :: j 71 :: j 72 :: j 73 :: j 74 :: j 75 :: j 76 :: j 77 :: j 78 :: j 79 :: j 80 :: j 81 :: j 82 :: j 83 :: j 84 :: j 85 :: [])) (fun x => [⟨5, true, bsC l, 0⟩]) ?_ ?_ ?_
  · refine ⟨[0], [1, 2, 7, 8, 9, 10], [0], fun vs => ?_⟩
    conv => whnf
    refine ⟨bsC_pure _, ?_⟩
    conv => whnf
    refine ⟨_, _, ?_, ?_, ⟨(0, ⟨#[]⟩, vs), Nat.zero_le _, Nat.zero_le _⟩, rfl, rfl⟩
    · exact ⟨fun _ => rfl, fun _ => rfl, fun _ => rfl, fun _ => rfl, fun _ => rfl, fun _ => rfl, fun _ => rfl, fun _ => rfl, fun _ => rfl, fun _ => rfl, fun _ => rfl, fun _ => rfl, fun _ => rfl, fun _ => rfl, fun _ => rfl, fun _ => rfl, fun _ => rfl, fun _ => rfl, fun _ => rfl, fun _ => rfl, fun _ => rfl, fun _ => rfl, fun _ => rfl, fun _ => rfl, fun _ => rfl, fun _ => rfl, fun _ => rfl, fun _ => rfl, fun _ => rfl, fun _ => rfl, fun _ => rfl, fun _ => rfl, fun _ => rfl, fun _ => rfl, fun _ => rfl, fun _ => rfl, fun _ => rfl, fun _ => rfl, fun _ => rfl, fun _ => rfl, fun _ => rfl, fun _ => rfl, fun _ => rfl, fun _ => rfl, fun _ => rfl, fun _ => rfl, fun _ => rfl, fun _ => rfl, fun _ => rfl, fun _ => rfl, fun _ => rfl, fun _ => rfl, fun _ => rfl, fun _ => rfl, fun _ => rfl, fun _ => rfl, fun _ => rfl, fun _ => rfl, fun _ => rfl, fun _ => rfl, fun _ => rfl, fun _ => rfl, fun _ => rfl, fun _ => rfl, fun _ => rfl, fun _ => rfl, fun _ => rfl, fun _ => rfl, fun _ => rfl, fun _ => rfl, fun _ => rfl, fun _ => rfl, fun _ => rfl, fun _ => rfl, fun _ => rfl, fun _ => rfl, fun _ => rfl, fun _ => rfl, fun _ => rfl, fun _ => rfl, fun _ => rfl, fun _ => rfl, fun _ => rfl, fun _ => rfl, fun _ => rfl, fun _ => rfl, trivial⟩
    · exact ⟨⟨rfl, rfl, rfl, fun _ => rfl⟩, trivial⟩
  · intro Qx hqx
    rintro ⟨⟨i, T, vs⟩, hi, hTs⟩
    have hi : i ≤ 60 := hi
    have hTs : T.size ≤ i := hTs
    conv => whnf
    refine bcase_intro (fun hlt => ?_) (fun hlt => ?_)
    · have hlt : i < l.length := n_lt hlt
      conv => whnf
      refine bcase_intro (fun h60 => ?_) (fun h60 => ?_)
      · have h60 : i < 60 := lt_60 h60
        obtain ⟨v, hv⟩ : ∃ v : Int, v = ((l[i]'hlt).toNat : Int) := ⟨_, rfl⟩
        conv => whnf
        conv =>
          arg 2
          tactic' =>
            apply eff_index_sli (ho := ?how11) (hT := ?hTw11) (hx := ?hxw11) (hk := ?hkw11) (hlt := ?hltw11)
            case how11 => rfl
            case hTw11 => rfl
            case hxw11 => rfl
            case hkw11 => rfl
            case hltw11 => exact hlt
        conv => whnf
        conv =>
          arg 2
          tactic' =>
            apply eff_load_sub (m := [.val (.int .u8 ((l[i]'hlt).toNat : Int))]) (ho := ?how12) (hT := ?hTw12) (hx := ?hxw12) (hb := ?hbw12) (hm := ?hmw12) (hv := ?hvw12)
            case how12 => rfl
            case hTw12 => rfl
            case hxw12 => rfl
            case hbw12 => rfl
            case hmw12 => exact bsC_get hlt
            case hvw12 => rfl
        conv => whnf
        refine ⟨[UInt8.ofNat (IntKind.u8.wrap (48 + (((l[i]'hlt).toNat : Int)).tmod 10)).toNat], rfl, .inl rfl, one_at (u8_of (u8_wrap _)), ?_⟩
        obtain ⟨T2, hT2⟩ : ∃ T2, T ++ ⟨[UInt8.ofNat (IntKind.u8.wrap (48 + (((l[i]'hlt).toNat : Int)).tmod 10)).toNat].toArray⟩ = T2 := ⟨_, rfl⟩
        have hT2s := cat_le hT2 hTs (one_size _)
        have hT60 : T.size ≤ 60 := Nat.le_trans hTs hi
        conv => whnf
        conv =>
          arg 2
          tactic' =>
            apply eff_cat2 (a := T) (b := ⟨[UInt8.ofNat (IntKind.u8.wrap (48 + (((l[i]'hlt).toNat : Int)).tmod 10)).toNat].toArray⟩) (c := T2) (ho := ?how13) (hx := ?hxw13) (hy := ?hyw13) (h := ?hw13) (e := ?ew13)
            case how13 => rfl
            case hxw13 => rfl
            case hyw13 => rfl
            case hw13 => exact cat_fit hT60 (one_size _) (by decide)
            case ew13 => exact hT2
        conv => whnf
        refine ⟨[0], [1, 2, 7, 8, 9, 10], [0], fun vs2 => ?_⟩
        conv => whnf
        refine ⟨bsC_pure _, ?_⟩
        conv => whnf
        refine ⟨_, _, ?_, ?_, ⟨(i + 1, T2, vs2), h60, hT2s⟩, (by omega : 60 - (i + 1) < 60 - i), rfl, rfl⟩
        · exact ⟨fun _ => rfl, fun _ => rfl, fun _ => rfl, fun _ => rfl, fun _ => rfl, fun _ => rfl, fun _ => rfl, fun _ => rfl, fun _ => rfl, fun _ => rfl, sint_eq (suc60 hi) _ _, fun _ => rfl, fun _ => rfl, fun _ => rfl, fun _ => rfl, fun _ => rfl, fun _ => rfl, fun _ => rfl, fun _ => rfl, fun _ => rfl, fun _ => rfl, fun _ => rfl, fun _ => rfl, fun _ => rfl, fun _ => rfl, fun _ => rfl, fun _ => rfl, fun _ => rfl, fun _ => rfl, fun _ => rfl, fun _ => rfl, fun _ => rfl, fun _ => rfl, fun _ => rfl, fun _ => rfl, fun _ => rfl, fun _ => rfl, fun _ => rfl, fun _ => rfl, fun _ => rfl, fun _ => rfl, fun _ => rfl, fun _ => rfl, fun _ => rfl, fun _ => rfl, fun _ => rfl, fun _ => rfl, fun _ => rfl, fun _ => rfl, fun _ => rfl, fun _ => rfl, fun _ => rfl, fun _ => rfl, fun _ => rfl, fun _ => rfl, fun _ => rfl, fun _ => rfl, fun _ => rfl, fun _ => rfl, fun _ => rfl, fun _ => rfl, fun _ => rfl, fun _ => rfl, fun _ => rfl, fun _ => rfl, fun _ => rfl, fun _ => rfl, fun _ => rfl, fun _ => rfl, fun _ => rfl, fun _ => rfl, fun _ => rfl, fun _ => rfl, fun _ => rfl, fun _ => rfl, fun _ => rfl, fun _ => rfl, fun _ => rfl, fun _ => rfl, fun _ => rfl, fun _ => rfl, fun _ => rfl, fun _ => rfl, fun _ => rfl, fun _ => rfl, fun _ => rfl, trivial⟩
        · exact ⟨⟨rfl, rfl, rfl, fun _ => rfl⟩, trivial⟩
      · have h60 : ¬ i < 60 := ge_60 h60
        conv => whnf
        exact hqx ⟨T, Nat.le_trans hTs hi⟩ (fun i => nth uv (_ :: _ :: uv :: _ :: _ :: _ :: _ :: uv :: uv :: uv :: _ :: _ :: _ :: _ :: _ :: _ :: _ :: _ :: _ :: _ :: _ :: _ :: _ :: _ :: _ :: _ :: _ :: _ :: _ :: _ :: _ :: _ :: _ :: _ :: _ :: _ :: _ :: _ :: _ :: _ :: _ :: _ :: _ :: _ :: _ :: _ :: _ :: _ :: _ :: _ :: _ :: _ :: _ :: _ :: _ :: _ :: _ :: _ :: _ :: _ :: _ :: _ :: _ :: _ :: _ :: _ :: _ :: _ :: _ :: _ :: _ :: _ :: _ :: _ :: _ :: _ :: _ :: _ :: _ :: _ :: _ :: _ :: _ :: _ :: _ :: _ :: []) i)
    · conv => whnf
      exact hqx ⟨T, Nat.le_trans hTs hi⟩ (fun i => nth uv (_ :: _ :: uv :: _ :: _ :: _ :: _ :: uv :: uv :: uv :: _ :: _ :: _ :: _ :: _ :: _ :: _ :: _ :: _ :: _ :: _ :: _ :: _ :: _ :: _ :: _ :: _ :: _ :: _ :: _ :: _ :: _ :: _ :: _ :: _ :: _ :: _ :: _ :: _ :: _ :: _ :: _ :: _ :: _ :: _ :: _ :: _ :: _ :: _ :: _ :: _ :: _ :: _ :: _ :: _ :: _ :: _ :: _ :: _ :: _ :: _ :: _ :: _ :: _ :: _ :: _ :: _ :: _ :: _ :: _ :: _ :: _ :: _ :: _ :: _ :: _ :: _ :: _ :: _ :: _ :: _ :: _ :: _ :: _ :: _ :: _ :: []) i)
  · rintro ⟨T, hTs⟩ jj
    conv => whnf
    have hTs : T.size ≤ 60 := hTs
    obtain ⟨T1, hT1⟩ : ∃ T1, T ++ ⟨[UInt8.ofNat c.toNat].toArray⟩ = T1 := ⟨_, rfl⟩
    have hT1s := cat_le hT1 hTs (one_size _)
    obtain ⟨O, hO⟩ : ∃ O, T1 ++ s.extract 0 (min s.size 60) = O := ⟨_, rfl⟩
    have hOs := cat_le hO hT1s (ext_size s)
    obtain ⟨D, hD⟩ : ∃ D, (⟨[45].toArray⟩ : ByteArray) ++ T = D := ⟨_, rfl⟩
    have hDs := cat_le hD (m := 1) (by decide) hTs
    obtain ⟨E, hE⟩ : ∃ E, (⟨[45, 45].toArray⟩ : ByteArray) ++ T = E := ⟨_, rfl⟩
    have hEs := cat_le hE (m := 2) (by decide) hTs
    refine ⟨[UInt8.ofNat c.toNat], rfl, .inl rfl, one_at (u8_of hc), ?_⟩
    conv => whnf
    conv =>
      arg 2
      tactic' =>
        apply eff_cat2 (a := T) (b := ⟨[UInt8.ofNat c.toNat].toArray⟩) (c := T1) (ho := ?how14) (hx := ?hxw14) (hy := ?hyw14) (h := ?hw14) (e := ?ew14)
        case how14 => rfl
        case hxw14 => rfl
        case hyw14 => rfl
        case hw14 => exact cat_fit hTs (one_size _) (by decide)
        case ew14 => exact hT1
    conv => whnf
    conv =>
      arg 2
      tactic' =>
        apply eff_cat2 (a := T1) (b := s.extract 0 (min s.size 60)) (c := O) (ho := ?how15) (hx := ?hxw15) (hy := ?hyw15) (h := ?hw15) (e := ?ew15)
        case how15 => rfl
        case hxw15 => rfl
        case hyw15 => rfl
        case hw15 => exact cat_fit hT1s (ext_size s) (by decide)
        case ew15 => exact hO
    conv => whnf
    conv =>
      arg 2
      tactic' =>
        apply eff_cat2 (a := ⟨[45].toArray⟩) (b := T) (c := D) (ho := ?how16) (hx := ?hxw16) (hy := ?hyw16) (h := ?hw16) (e := ?ew16)
        case how16 => rfl
        case hxw16 => rfl
        case hyw16 => rfl
        case hw16 => exact cat_fit (m := 1) (by decide) hTs (by decide)
        case ew16 => exact hD
    conv => whnf
    conv =>
      arg 2
      tactic' =>
        apply eff_cat2 (a := ⟨[45, 45].toArray⟩) (b := T) (c := E) (ho := ?how17) (hx := ?hxw17) (hy := ?hyw17) (h := ?hw17) (e := ?ew17)
        case how17 => rfl
        case hxw17 => rfl
        case hyw17 => rfl
        case hw17 => exact cat_fit (m := 2) (by decide) hTs (by decide)
        case ew17 => exact hE
    conv => whnf
    refine .inl ⟨6, ?_⟩
    conv => whnf
    refine ⟨Nat.le_trans (ext_size s) (by decide), ?_⟩
    conv => whnf
    refine ⟨Nat.le_trans (ext_size s) (by decide), ?_⟩
    conv => whnf
    refine bcase_false (nde _) ?_
    conv => whnf
    refine bcase_false (nbb _) ?_
    conv => whnf
    refine ⟨Nat.le_trans hTs (by decide), ?_⟩
    conv => whnf
    refine ⟨Nat.le_trans hTs (by decide), ?_⟩
    conv => whnf
    refine bcase_false (nde _) ?_
    conv => whnf
    refine bcase_false (nbb _) ?_
    conv => whnf
    refine ⟨Nat.le_trans hDs (by decide), ?_⟩
    conv => whnf
    refine ⟨Nat.le_trans hDs (by decide), ?_⟩
    conv => whnf
    refine bcase_false (nde _) ?_
    conv => whnf
    refine bcase_false (nbb _) ?_
    conv => whnf
    refine ⟨Nat.le_trans hEs (by decide), ?_⟩
    conv => whnf
    refine ⟨Nat.le_trans hEs (by decide), ?_⟩
    conv => whnf
    refine bcase_false (nde _) ?_
    conv => whnf
    refine bcase_false (nbb _) ?_
    conv => whnf
    refine ⟨Nat.le_trans hOs (by decide), ?_⟩
    conv => whnf
    refine ⟨Nat.le_trans hOs (by decide), ?_⟩
    conv => whnf
    refine bcase_false (nde _) ?_
    conv => whnf
    refine bcase_false (nbb _) ?_
    conv => whnf
    exact fun _ => rfl
set_option maxHeartbeats 16000000 in
theorem vcWideParsesB (s : ByteArray) (hs : IR s.size) (c : Int) (hc : 0 ≤ c ∧ c < 256) (a : Option Addr) : vcF envV (inl envV noF 0) Tryd.f6 [.c (.val (.string s)), .c (.val (.slice a 0 0)), .c (.val (.int .u8 c))] [] fun u _ => ∀ ρ, u.den ρ = (SV.c (.val (.bool true))).den ρ := by
  obtain ⟨X, hX⟩ : ∃ X, s.extract 0 (min s.size 60) = X := ⟨_, rfl⟩
  have hXs : X.size ≤ 60 := hX ▸ ext_size s
  conv => whnf
  conv =>
    arg 2
    tactic' =>
      apply eff_len_str (ho := ?how18) (hc := ?hcw18) (ha := ?haw18) (ht := ?htw18) (hT := ?hTw18) (hx := ?hxw18) (h := ?hw18)
      case how18 => rfl
      case hcw18 => rfl
      case haw18 => rfl
      case htw18 => rfl
      case hTw18 => rfl
      case hxw18 => rfl
      case hw18 => exact hs
  conv => whnf
  conv =>
    arg 2
    tactic' =>
      apply eff_slice_str (k := min s.size 60) (ho := ?how19) (hT := ?hTw19) (hx := ?hxw19) (hl := ?hlw19) (hk := ?hkw19) (hle := ?hlew19)
      case how19 => rfl
      case hTw19 => rfl
      case hxw19 => rfl
      case hlw19 => rfl
      case hkw19 => exact bnd_min s.size
      case hlew19 => exact ⟨Nat.zero_le _, Nat.min_le_left _ _⟩
  conv => whnf
  refine loop_cut (G := {g : Nat → Value // True}) (X := {x : ByteArray // x.size ≤ 60}) (fun g => (.c (.val (g.1 0)) :: .c (.val (.slice a 0 0)) :: .c (.val (.int .u8 c)) :: .c (.val (g.1 3)) :: .c (.val (g.1 4)) :: .c (.val (g.1 5)) :: .c (.val (g.1 6)) :: .c (.val (.bool true)) :: .c (.val (.string (s.extract 0 (min s.size 60)))) :: .c (.val (.string ⟨#[]⟩)) :: .c (.int 0 (by decide)) :: .c (.val (g.1 11)) :: .c (.val (g.1 12)) :: .c (.val (g.1 13)) :: .c (.val (g.1 14)) :: .c (.val (g.1 15)) :: .c (.val (g.1 16)) :: .c (.val (g.1 17)) :: .c (.val (g.1 18)) :: .c (.val (g.1 19)) :: .c (.val (g.1 20)) :: .c (.val (g.1 21)) :: .c (.val (g.1 22)) :: .c (.val (g.1 23)) :: .c (.val (g.1 24)) :: .c (.val (g.1 25)) :: .c (.val (g.1 26)) :: .c (.val (g.1 27)) :: .c (.val (g.1 28)) :: .c (.val (g.1 29)) :: .c (.val (g.1 30)) :: .c (.val (g.1 31)) :: .c (.val (g.1 32)) :: .c (.val (g.1 33)) :: .c (.val (g.1 34)) :: .c (.val (g.1 35)) :: .c (.val (g.1 36)) :: .c (.val (g.1 37)) :: .c (.val (g.1 38)) :: .c (.val (g.1 39)) :: .c (.val (g.1 40)) :: .c (.val (g.1 41)) :: .c (.val (g.1 42)) :: .c (.val (g.1 43)) :: .c (.val (g.1 44)) :: .c (.val (g.1 45)) :: .c (.val (g.1 46)) :: .c (.val (g.1 47)) :: .c (.val (g.1 48)) :: .c (.val (g.1 49)) :: .c (.val (g.1 50)) :: .c (.val (g.1 51)) :: .c (.val (g.1 52)) :: .c (.val (g.1 53)) :: .c (.val (g.1 54)) :: .c (.val (g.1 55)) :: .c (.val (g.1 56)) :: .c (.val (g.1 57)) :: .c (.val (g.1 58)) :: .c (.val (g.1 59)) :: .c (.val (g.1 60)) :: .c (.val (g.1 61)) :: .c (.val (g.1 62)) :: .c (.val (g.1 63)) :: .c (.val (g.1 64)) :: .c (.val (g.1 65)) :: .c (.val (g.1 66)) :: .c (.val (g.1 67)) :: .c (.val (g.1 68)) :: .c (.val (g.1 69)) :: .c (.val (g.1 70)) :: .c (.val (g.1 71)) :: .c (.val (g.1 72)) :: .c (.val (g.1 73)) :: .c (.val (g.1 74)) :: .c (.val (g.1 75)) :: .c (.val (g.1 76)) :: .c (.val (g.1 77)) :: .c (.val (g.1 78)) :: .c (.val (g.1 79)) :: .c (.val (g.1 80)) :: .c (.val (g.1 81)) :: .c (.val (g.1 82)) :: .c (.val (g.1 83)) :: .c (.val (g.1 84)) :: .c (.val (g.1 85)) :: [])) (fun g => []) (fun g => 0) 0 (fun x j => (j 0 :: j 1 :: .c (.val (.int .u8 c)) :: j 3 :: j 4 :: j 5 :: j 6 :: .c (.val (.bool true)) :: .c (.val (.string (s.extract 0 (min s.size 60)))) :: .c (.val (.string x.1)) :: j 10 :: j 11 :: j 12 :: j 13 :: j 14 :: j 15 :: j 16 :: j 17 :: j 18 :: j 19 :: j 20 :: j 21 :: j 22 :: j 23 :: j 24 :: j 25 :: j 26 :: j 27 :: j 28 :: j 29 :: j 30 :: j 31 :: j 32 :: j 33 :: j 34 :: j 35 :: j 36 :: j 37 :: j 38 :: j 39 :: j 40 :: j 41 :: j 42 :: j 43 :: j 44 :: j 45 :: j 46 :: j 47 :: j 48 :: j 49 :: j 50 :: j 51 :: j 52 :: j 53 :: j 54 :: j 55 :: j 56 :: j 57 :: j 58 :: j 59 :: j 60 :: j 61 :: j 62 :: j 63 :: j 64 :: j 65 :: j 66 :: j 67 :: j 68 :: j 69 :: j 70 :: j 71 :: j 72 :: j 73 :: j 74 :: j 75 :: j 76 :: j 77 :: j 78 :: j 79 :: j 80 :: j 81 :: j 82 :: j 83 :: j 84 :: j 85 :: [])) (fun x => []) ?_ ?_ ?_
  · refine ⟨[], [1, 2, 7, 8, 9, 10], [0], fun vs => ?_⟩
    conv => whnf
    refine ⟨_, _, ?_, ?_, ⟨vs, trivial⟩, rfl, rfl⟩
    · exact ⟨fun _ => rfl, fun _ => rfl, fun _ => rfl, fun _ => rfl, fun _ => rfl, fun _ => rfl, fun _ => rfl, fun _ => rfl, fun _ => rfl, fun _ => rfl, fun _ => rfl, fun _ => rfl, fun _ => rfl, fun _ => rfl, fun _ => rfl, fun _ => rfl, fun _ => rfl, fun _ => rfl, fun _ => rfl, fun _ => rfl, fun _ => rfl, fun _ => rfl, fun _ => rfl, fun _ => rfl, fun _ => rfl, fun _ => rfl, fun _ => rfl, fun _ => rfl, fun _ => rfl, fun _ => rfl, fun _ => rfl, fun _ => rfl, fun _ => rfl, fun _ => rfl, fun _ => rfl, fun _ => rfl, fun _ => rfl, fun _ => rfl, fun _ => rfl, fun _ => rfl, fun _ => rfl, fun _ => rfl, fun _ => rfl, fun _ => rfl, fun _ => rfl, fun _ => rfl, fun _ => rfl, fun _ => rfl, fun _ => rfl, fun _ => rfl, fun _ => rfl, fun _ => rfl, fun _ => rfl, fun _ => rfl, fun _ => rfl, fun _ => rfl, fun _ => rfl, fun _ => rfl, fun _ => rfl, fun _ => rfl, fun _ => rfl, fun _ => rfl, fun _ => rfl, fun _ => rfl, fun _ => rfl, fun _ => rfl, fun _ => rfl, fun _ => rfl, fun _ => rfl, fun _ => rfl, fun _ => rfl, fun _ => rfl, fun _ => rfl, fun _ => rfl, fun _ => rfl, fun _ => rfl, fun _ => rfl, fun _ => rfl, fun _ => rfl, fun _ => rfl, fun _ => rfl, fun _ => rfl, fun _ => rfl, fun _ => rfl, fun _ => rfl, fun _ => rfl, trivial⟩
    · exact trivial
  · intro Qx hqx
    rintro ⟨vs, _⟩
    conv => whnf
    exact hqx ⟨⟨#[]⟩, Nat.zero_le _⟩ (fun i => nth uv (_ :: _ :: uv :: _ :: _ :: _ :: _ :: uv :: uv :: uv :: _ :: _ :: _ :: _ :: _ :: _ :: _ :: _ :: _ :: _ :: _ :: _ :: _ :: _ :: _ :: _ :: _ :: _ :: _ :: _ :: _ :: _ :: _ :: _ :: _ :: _ :: _ :: _ :: _ :: _ :: _ :: _ :: _ :: _ :: _ :: _ :: _ :: _ :: _ :: _ :: _ :: _ :: _ :: _ :: _ :: _ :: _ :: _ :: _ :: _ :: _ :: _ :: _ :: _ :: _ :: _ :: _ :: _ :: _ :: _ :: _ :: _ :: _ :: _ :: _ :: _ :: _ :: _ :: _ :: _ :: _ :: _ :: _ :: _ :: _ :: _ :: []) i)
  · rintro ⟨T, hTs⟩ jj
    conv => whnf
    have hTs : T.size ≤ 60 := hTs
    obtain ⟨T1, hT1⟩ : ∃ T1, T ++ ⟨[UInt8.ofNat c.toNat].toArray⟩ = T1 := ⟨_, rfl⟩
    have hT1s := cat_le hT1 hTs (one_size _)
    obtain ⟨O, hO⟩ : ∃ O, T1 ++ s.extract 0 (min s.size 60) = O := ⟨_, rfl⟩
    have hOs := cat_le hO hT1s (ext_size s)
    obtain ⟨D, hD⟩ : ∃ D, (⟨[45].toArray⟩ : ByteArray) ++ T = D := ⟨_, rfl⟩
    have hDs := cat_le hD (m := 1) (by decide) hTs
    obtain ⟨E, hE⟩ : ∃ E, (⟨[45, 45].toArray⟩ : ByteArray) ++ T = E := ⟨_, rfl⟩
    have hEs := cat_le hE (m := 2) (by decide) hTs
    refine ⟨[UInt8.ofNat c.toNat], rfl, .inl rfl, one_at (u8_of hc), ?_⟩
    conv => whnf
    conv =>
      arg 2
      tactic' =>
        apply eff_cat2 (a := T) (b := ⟨[UInt8.ofNat c.toNat].toArray⟩) (c := T1) (ho := ?how20) (hx := ?hxw20) (hy := ?hyw20) (h := ?hw20) (e := ?ew20)
        case how20 => rfl
        case hxw20 => rfl
        case hyw20 => rfl
        case hw20 => exact cat_fit hTs (one_size _) (by decide)
        case ew20 => exact hT1
    conv => whnf
    conv =>
      arg 2
      tactic' =>
        apply eff_cat2 (a := T1) (b := s.extract 0 (min s.size 60)) (c := O) (ho := ?how21) (hx := ?hxw21) (hy := ?hyw21) (h := ?hw21) (e := ?ew21)
        case how21 => rfl
        case hxw21 => rfl
        case hyw21 => rfl
        case hw21 => exact cat_fit hT1s (ext_size s) (by decide)
        case ew21 => exact hO
    conv => whnf
    conv =>
      arg 2
      tactic' =>
        apply eff_cat2 (a := ⟨[45].toArray⟩) (b := T) (c := D) (ho := ?how22) (hx := ?hxw22) (hy := ?hyw22) (h := ?hw22) (e := ?ew22)
        case how22 => rfl
        case hxw22 => rfl
        case hyw22 => rfl
        case hw22 => exact cat_fit (m := 1) (by decide) hTs (by decide)
        case ew22 => exact hD
    conv => whnf
    conv =>
      arg 2
      tactic' =>
        apply eff_cat2 (a := ⟨[45, 45].toArray⟩) (b := T) (c := E) (ho := ?how23) (hx := ?hxw23) (hy := ?hyw23) (h := ?hw23) (e := ?ew23)
        case how23 => rfl
        case hxw23 => rfl
        case hyw23 => rfl
        case hw23 => exact cat_fit (m := 2) (by decide) hTs (by decide)
        case ew23 => exact hE
    conv => whnf
    refine .inl ⟨6, ?_⟩
    conv => whnf
    refine ⟨Nat.le_trans (ext_size s) (by decide), ?_⟩
    conv => whnf
    refine ⟨Nat.le_trans (ext_size s) (by decide), ?_⟩
    conv => whnf
    refine bcase_false (nde _) ?_
    conv => whnf
    refine bcase_false (nbb _) ?_
    conv => whnf
    refine ⟨Nat.le_trans hTs (by decide), ?_⟩
    conv => whnf
    refine ⟨Nat.le_trans hTs (by decide), ?_⟩
    conv => whnf
    refine bcase_false (nde _) ?_
    conv => whnf
    refine bcase_false (nbb _) ?_
    conv => whnf
    refine ⟨Nat.le_trans hDs (by decide), ?_⟩
    conv => whnf
    refine ⟨Nat.le_trans hDs (by decide), ?_⟩
    conv => whnf
    refine bcase_false (nde _) ?_
    conv => whnf
    refine bcase_false (nbb _) ?_
    conv => whnf
    refine ⟨Nat.le_trans hEs (by decide), ?_⟩
    conv => whnf
    refine ⟨Nat.le_trans hEs (by decide), ?_⟩
    conv => whnf
    refine bcase_false (nde _) ?_
    conv => whnf
    refine bcase_false (nbb _) ?_
    conv => whnf
    refine ⟨Nat.le_trans hOs (by decide), ?_⟩
    conv => whnf
    refine ⟨Nat.le_trans hOs (by decide), ?_⟩
    conv => whnf
    refine bcase_false (nde _) ?_
    conv => whnf
    refine bcase_false (nbb _) ?_
    conv => whnf
    exact fun _ => rfl
end Go.Proofs.YtbhcmajeoamloaaDoor
