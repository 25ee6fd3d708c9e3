/- strings.TrimLeft at the cutset that is the zero byte alone. -/
import Derived.Test.YtapppahniablmaaDoorWords
import Derived.Lib.IndexBytes
namespace Go.Proofs.YtapppahniablmaaDoor
open Go.RowKit

theorem lstrip_cons_zero {l : List UInt8} {c : UInt8} (h : c = 0) : lstrip (c :: l) = lstrip l := by subst h; rfl
theorem lstrip_cons_ne {l : List UInt8} {c : UInt8} (h : c ≠ 0) : lstrip (c :: l) = c :: l := by
  unfold lstrip; rw [List.dropWhile_cons, if_neg (by simpa using h)]

theorem bytes_head (t : ByteArray) (h : 0 < t.size) : t.data.toList = t[0] :: (t.extract 1 t.size).data.toList := by
  rw [Lib.extract_to_end]
  have hl : 0 < t.data.toList.length := by rw [Array.length_toList]; exact h
  conv => lhs; rw [← List.drop_zero (l := t.data.toList), List.drop_eq_getElem_cons hl]
  rfl

set_option maxRecDepth 100000 in
set_option maxHeartbeats 1000000 in
theorem trimByte_any (s : ByteArray) (w : World) (hs : s.size ≤ 1000000000000) :
    Calls Tryd.prog 77 #[.string s, .int .u8 0] w fun e w' => e = .returned (.string ⟨(lstrip s.data.toList).toArray⟩) ∧ w = w' := by
  go_enter Tryd.func77, Tryd.ntmps77
  go_wp2
  go_loop [0] (fun v => ∃ t : ByteArray, v = .string t ∧ t.size ≤ s.size ∧ Hid (lstrip t.data.toList = lstrip s.data.toList)) (fun v => match v with | .string t => t.size | _ => 0)
  case atStart => exact ⟨s, rfl, Nat.le_refl _, rfl⟩
  case round =>
    obtain ⟨t, rfl, hts, HT⟩ := hrel
    by_cases h0 : 0 < t.size
    · have hd := bytes_head t h0
      have HD := Lib.hid hd
      clear hd
      by_cases hc : ((t[0].toNat : Nat) : Int) = 0
      · go_wp2
        go_round
        case rel =>
          refine ⟨_, rfl, by rw [ByteArray.size_extract]; omega, ?_⟩
          have h := HT.out
          rw [HD.out, lstrip_cons_zero (UInt8.toNat_inj.1 (by simpa using hc))] at h
          exact h
        case measure => show (t.extract 1 t.size).size < t.size; rw [ByteArray.size_extract]; omega
      · go_wp2
        go_ret
        refine ⟨ret_eq ?_, rfl⟩
        rw [← HT.out, HD.out, lstrip_cons_ne (fun h => hc (by rw [h]; rfl)), ← HD.out]
        rfl
    · go_wp2
      go_ret
      refine ⟨ret_eq ?_, rfl⟩
      have ht : t.data.toList = [] := List.eq_nil_of_length_eq_zero (by rw [Array.length_toList]; show t.size = 0; omega)
      rw [← HT.out, ht]
      show Value.string t = _
      congr 1
      apply ByteArray.ext
      apply Array.ext'
      rw [ht]; rfl

set_option maxRecDepth 100000 in
set_option maxHeartbeats 1000000 in
theorem trimLeft_any (s : ByteArray) (w : World) (hs : s.size ≤ 1000000000000) :
    Calls Tryd.prog 70 #[.string s, .string ⟨#[0]⟩] w fun e w' => e = .returned (.string ⟨(lstrip s.data.toList).toArray⟩) ∧ w = w' := by
  by_cases h0 : s.data.toList = []
  · have h1 : s.toList.isEmpty = true := by rw [ByteArray.toList_eq, h0]; rfl
    go_enter Tryd.func70, Tryd.ntmps70
    go_wp2
    go_ret
    refine ⟨ret_eq ?_, rfl⟩
    show Value.string s = _
    congr 1
    apply ByteArray.ext
    apply Array.ext'
    rw [h0]; rfl
  · have h1 : s.toList.isEmpty = false := by rw [ByteArray.toList_eq]; simpa using h0
    go_enter Tryd.func70, Tryd.ntmps70
    go_wp2_with (go_at_call 77; refine (trimByte_any s _ hs).mono ?_; rintro e w' ⟨rfl, rfl⟩)
    go_ret
    exact ⟨rfl, rfl⟩
end Go.Proofs.YtapppahniablmaaDoor
