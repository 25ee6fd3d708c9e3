/- nat.add. -/
import Derived.Test.YtapppahniablmaaDoorNorm
import Derived.Deep.DeepCutAuto
namespace Go.Proofs.YtapppahniablmaaDoor
open Go.RowKit
theorem info_u64 : (Tryd.prog.info? 72).map (fun i => (i.zero, i.size, i.bytes)) = some (some (.int .u64 0), 1, 8) := by kernel_rfl

/-- what a function that hands back a natural number leaves: new memory that holds the digits of n -/
def GivesNat (n : Nat) (w : World) (e : Ending) (w' : World) : Prop :=
  ∃ A k c, e = .returned (.slice A k c) ∧ (dig WB n).length = k ∧ k ≤ c ∧ c ≤ 1099511627776 ∧ Wd .u64 w' w'.heap.size A (dig WB n) ∧ Below w.heap.size w w'

theorem gives_norm {w w' : World} {l : List Nat} {A : Option Addr} {c : Nat} (hb : Below w.heap.size w w') (hwd : Wd .u64 w' w'.heap.size A l) (hd : Dl WB l) (hn : l.length ≤ c) (hc : c ≤ 1099511627776) :
    GivesNat (val WB l) w (.returned (.slice A (tlen l) c)) w' := by
  have ht := take_tlen WB_two hd
  have hl := tlen_le l
  refine ⟨A, tlen l, c, rfl, ?_, by omega, hc, ?_, hb⟩
  · rw [← ht, List.length_take]; omega
  · rw [← ht]; exact hwd.take _

set_option maxRecDepth 100000 in
set_option maxHeartbeats 1000000 in
theorem add_any (la lb : List Nat) (Aa Ab : Option Addr) (na nb ca cb : Nat) (w : World) (da : Dl WB la) (db : Dl WB lb)
    (ha : Wd .u64 w w.heap.size Aa la) (hb : Wd .u64 w w.heap.size Ab lb) (hna : la.length = na) (hnb : lb.length = nb) (hsa : na ≤ 1000000000) (hsb : nb ≤ 1000000000) :
    Calls Tryd.prog 56 #[.slice Aa na ca, .slice Ab nb cb] w (GivesNat (val WB la + val WB lb) w) := by
  have HA := Lib.hid ha
  have HB := Lib.hid hb
  have HNA := Lib.hid hna
  have HNB := Lib.hid hnb
  clear ha hb hna hnb
  go_enter Tryd.func56, Tryd.ntmps56
  go_upto_if 13 with fail
  go_cut [0, 1] (fun a b wc => ∃ lx ly Ax Ay nx ny cx cy, a = .slice Ax nx cx ∧ b = .slice Ay ny cy ∧ wc = w ∧ Wd .u64 w w.heap.size Ax lx ∧ Wd .u64 w w.heap.size Ay ly ∧ Hid (lx.length = nx) ∧ Hid (ly.length = ny) ∧ Dl WB lx ∧ Dl WB ly ∧ nx ≤ 1000000000 ∧ ny ≤ nx ∧ Hid (val WB lx + val WB ly = val WB la + val WB lb))
  case first =>
    go_wp2
    · go_meet
      case rel => exact ⟨lb, la, Ab, Aa, nb, na, cb, ca, rfl, rfl, rfl, HB.out, HA.out, HNB.out, HNA.out, db, da, hsb, by omega, Nat.add_comm _ _⟩
    · go_meet
      case rel => exact ⟨la, lb, Aa, Ab, na, nb, ca, cb, rfl, rfl, rfl, HA.out, HB.out, HNA.out, HNB.out, da, db, hsa, by omega, rfl⟩
  case rest =>
    obtain ⟨lx, ly, Ax, Ay, nx, ny, cx, cy, rfl, rfl, rfl, hx, hy, Hnx, Hny, dx, dy, hnx, hyx, Hval⟩ := hcut
    have HX := Lib.hid hx
    have HY := Lib.hid hy
    clear hx hy
    have hmk := run_make_dig (P := Tryd.prog) 75 72 Tryd.underlying75 info_u64 ((nx : Int) + 1) (nx + 1) (by omega) (by omega)
    go_wp2
    clear hmk
    go_loopw [6, 22] (fun cr i wr => ∃ (k c : Nat) (lo : List Nat), k ≤ nx ∧ c ≤ 1 ∧ i = .int .i64 k ∧ cr = .int .u64 c ∧ Ow .u64 wr wc.heap.size 72 lo ∧ Hid (lo.length = nx + 1) ∧ Dl WB lo ∧
        Hid (val WB (lo.take k) + WB ^ k * c = val WB (lx.take k) + val WB (ly.take k)) ∧ Below wc.heap.size wc wr) (fun _ i _ => nx - (intOf i).toNat)
    case atStart => exact ⟨0, 0, List.replicate (nx + 1) 0, Nat.zero_le _, by omega, rfl, rfl, Ow.new _ _ _ _, List.length_replicate, Dl.replicate WB_pos _, by simp [Hid, val], (Below.refl _ _).alloc (Nat.le_refl _) _⟩
    case round =>
      obtain ⟨k, c, lo, hk, hc, rfl, rfl, how, Hlen, dlo, Hv, hbel⟩ := hrel
      have HOW := Lib.hid how
      have HBEL := Lib.hid hbel
      clear how hbel
      by_cases hlt : k < nx
      · obtain ⟨ax, rfl, hcx⟩ := (HX.out.below HBEL.out).get (k := k) (by have := Hnx.out; omega)
        have hbx := dx.getD WB_pos k
        rw [List.getD_eq_getElem?_getD, WB_eq] at hbx
        have hfo := HOW.out.free k
        have hco := HOW.out.cell k (by have := Hlen.out; omega)
        by_cases hlty : k < ny
        · obtain ⟨ay, rfl, hcy⟩ := (HY.out.below HBEL.out).get (k := k) (by have := Hny.out; omega)
          have hby := dy.getD WB_pos k
          rw [List.getD_eq_getElem?_getD, WB_eq] at hby
          go_wp2
          go_roundw
          case rel =>
            have e1 := and_mask ((lx[k]?.getD 0 : Nat) + (c : Nat) + (ly[k]?.getD 0 : Nat) : Int) (lx[k]?.getD 0 + c + ly[k]?.getD 0) (by omega) (by omega)
            have e2 := div_word ((lx[k]?.getD 0 : Nat) + (c : Nat) + (ly[k]?.getD 0 : Nat) : Int) (lx[k]?.getD 0 + c + ly[k]?.getD 0) (by omega)
            have hl := Hlen.out
            refine ⟨k + 1, _, lo.set k ((lx[k]?.getD 0 + c + ly[k]?.getD 0) % WB), by omega, ?_, by go_num, by rw [e2], by rw [e1]; exact HOW.out.set _ _, by rw [List.length_set]; exact hl, dlo.set _ (Nat.mod_lt _ WB_pos), add_step (by omega) rfl rfl Hv.out, HBEL.out.setCell (Nat.le_refl _) _⟩
            rw [WB_eq]; omega
          case measure => simp [intOf]; omega
        · have hy0 : ly[k]?.getD 0 = 0 := by rw [List.getElem?_eq_none (by have := Hny.out; omega)]; rfl
          have HY0 := Lib.hid hy0
          clear hy0
          go_wp2
          go_roundw
          case rel =>
            have e1 := and_mask ((lx[k]?.getD 0 : Nat) + (c : Nat) : Int) (lx[k]?.getD 0 + c + 0) (by omega) (by omega)
            have e2 := div_word ((lx[k]?.getD 0 : Nat) + (c : Nat) : Int) (lx[k]?.getD 0 + c + 0) (by omega)
            have hl := Hlen.out
            refine ⟨k + 1, _, lo.set k ((lx[k]?.getD 0 + c + 0) % WB), by omega, ?_, by go_num, by rw [e2], by rw [e1]; exact HOW.out.set _ _, by rw [List.length_set]; exact hl, dlo.set _ (Nat.mod_lt _ WB_pos), add_step (by omega) rfl HY0.out Hv.out, HBEL.out.setCell (Nat.le_refl _) _⟩
            rw [WB_eq]; omega
          case measure => simp [intOf]; omega
      · obtain rfl : k = nx := by omega
        have hfo := HOW.out.free k
        have hco := HOW.out.cell k (by have := Hlen.out; omega)
        have hset := HOW.out.set k c
        have hbs := HBEL.out.setCell (p := ⟨wc.heap.size, k, none⟩) (Nat.le_refl _) (.int .u64 c)
        have hls : (lo.set k c).length = k + 1 := by rw [List.length_set]; exact Hlen.out
        have hwd := hset.wd (B := wr.heap.size) HOW.out.lt
        have hval : val WB (lo.set k c) = val WB la + val WB lb := by
          have h1 := val_take_set WB lo k c (by have := Hlen.out; omega)
          rw [List.take_of_length_le (by rw [hls]; exact Nat.le_refl _)] at h1
          have h2 := Hv.out
          rw [List.take_of_length_le (l := lx) (by have := Hnx.out; omega), List.take_of_length_le (l := ly) (by have := Hny.out; omega)] at h2
          have h3 := Hval.out
          omega
        have hdl := dlo.set k (v := c) (by rw [WB_eq]; omega)
        have HS := Lib.hid hset; have HBS := Lib.hid hbs; have HLS := Lib.hid hls; have HWD := Lib.hid hwd; have HVAL := Lib.hid hval
        clear hset hbs hls hwd hval
        go_wp2_with (go_at_call 68; refine (norm_any (lo.set k c) _ _ _ wr.heap.size _ HLS.out (by omega) (by omega) HWD.out).mono ?_; rintro e w' ⟨rfl, rfl⟩)
        go_ret
        rw [← HVAL.out]
        exact gives_norm HBS.out (HWD.out.more (Nat.le_of_eq (by simp))) hdl (by have := HLS.out; omega) (by omega)
end Go.Proofs.YtapppahniablmaaDoor
