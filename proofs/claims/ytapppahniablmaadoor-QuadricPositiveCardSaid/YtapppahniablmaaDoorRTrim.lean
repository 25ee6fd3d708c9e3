/- ref trim: the zeros at the end are left out. -/
import Derived.Test.YtapppahniablmaaDoorWords
namespace Go.Proofs.YtapppahniablmaaDoor
open Go.RowKit
set_option maxHeartbeats 400000 in
theorem trim_any (l : List Nat) (A : Option Addr) (n c B : Nat) (w : World) (hn : l.length = n) (hnc : n ≤ c) (hc : c ≤ 9223372036854775807) (h : Wd .i64 w B A l) :
    Calls Tryd.prog 59 #[.slice A n c] w fun e w' => e = .returned (.slice A (tlen l) c) ∧ w = w' := by
  have H := Lib.hid h
  clear h
  go_enter Tryd.func59, Tryd.ntmps59
  go_wp2
  go_loop [0] (fun a => ∃ k : Nat, k ≤ n ∧ a = .slice A k c ∧ ∀ j, k ≤ j → l[j]?.getD 0 = 0) (fun a => match a with | .slice _ k _ => k | _ => 0)
  case atStart => exact ⟨n, Nat.le_refl _, rfl, fun j hj => by rw [List.getElem?_eq_none (by omega)]; rfl⟩
  case round =>
    obtain ⟨k, hk, rfl, hz⟩ := hrel
    have HZ := Lib.hid hz
    clear hz
    by_cases hk0 : k = 0
    · subst hk0
      go_wp2
      go_ret
      exact ⟨by rw [tlen_eq (k := 0) (by omega) (fun j hj => by rw [List.getD_eq_getElem?_getD]; exact HZ.out j hj) (Or.inl rfl)]; rfl, rfl⟩
    · obtain ⟨ad, rfl, hcell⟩ := H.out.get (k := k - 1) (by omega)
      by_cases hx : l[k - 1]?.getD 0 = 0
      · go_wp2
        go_round
        case rel => exact ⟨k - 1, by omega, rfl, fun j hj => by
          by_cases e : j = k - 1
          · rw [e]; exact hx
          · exact HZ.out j (by omega)⟩
        case measure => show k - 1 < k; omega
      · go_wp2
        go_ret
        exact ⟨by rw [tlen_eq (k := k) (by omega) (fun j hj => by rw [List.getD_eq_getElem?_getD]; exact HZ.out j hj) (Or.inr (by rw [List.getD_eq_getElem?_getD]; exact hx))]; rfl, rfl⟩
end Go.Proofs.YtapppahniablmaaDoor
