/- nat.wide: the canonical number with a sign and an absolute value. -/
import Derived.Maps.AppendAt
import Derived.Test.YtapppahniablmaaDoorBack
import Derived.Test.YtapppahniablmaaDoorTrim
import Derived.Test.YtapppahniablmaaDoorNorm
namespace Go.Proofs.YtapppahniablmaaDoor
open Go.RowKit Go.Shelf
attribute [local go_sem] Oper.semAt_some

/-- a number as Go holds it: the canonical one -/
def wv (neg : Bool) (n : Nat) : Value := .agg #[.bool neg, .string ⟨(mag n).toArray⟩]

theorem b4_vals (x : Nat) : (b4 x).map (fun b => Value.int .u8 (b.toNat : Int)) = [.int .u8 (IntKind.u8.wrap ((x : Int) / 16777216)), .int .u8 (IntKind.u8.wrap ((x : Int) / 65536)), .int .u8 (IntKind.u8.wrap ((x : Int) / 256)), .int .u8 (IntKind.u8.wrap (x : Int))] := by
  simp only [b4, List.map_cons, List.map_nil, IntKind.wrap_u8, UInt8.toNat_ofNat']
  simp

/-- 'string(b)' of a row of the call's own -/
theorem run_string_own {P : Program} (w : World) (src dst e : TypeId) (base n : Nat) (v : Value) (l : List UInt8) (hs : P.underlying src = some (.slice e)) (he : P.underlying e = some (.int .u8)) (hd : P.underlying dst = some .string)
    (h : w.ownsRow base e 1 v n (l.map fun b => Value.int .u8 (b.toNat : Int))) : (convert src dst v).run P w = .ok (.string ⟨l.toArray⟩) w := by
  have hlen := h.1
  rw [List.length_map] at hlen
  rcases h.2 with ⟨rfl, h0⟩ | ⟨g, cap, cur, rfl, _, hg, hnc, hcm, hcs, htake⟩
  · have : l = [] := List.eq_nil_of_length_eq_zero (by omega)
    subst this
    rw [run_convert_bytes_string w src dst e none 0 0 hs he hd]
    simp [Conv.bytesToString]
    rfl
  · have hn : n = l.length := by omega
    subst hn
    exact run_convert_bytes_back w src dst e ⟨g, 0, none⟩ cap l hs he hd (fun j hj => by
      have e1 : (Addr.add ⟨g, 0, none⟩ j) = ⟨g, j, none⟩ := by unfold Addr.add; split <;> simp_all
      rw [e1, h.cellAt j (by omega)]
      simp [hj])

theorem info_u8 : (Tryd.prog.info? 5).map (fun i => (i.zero, i.size, i.bytes)) = some (some (.int .u8 0), 1, 1) := by kernel_rfl

/-- the result's box behind the two stores -/
theorem res_box {W : World} {g D : Nat} {t : TypeId} {a b : Value} {o : Obj} (x y : Value) (h : W.heap[g]? = some (.cells #[a, b] t (0, 0))) (hD : D ≠ g) :
    (((W.setCell ⟨g, 0, none⟩ x).setCell ⟨g, 1, none⟩ y).putObj D o).heap[g]? = some (.cells #[x, y] t (0, 0)) := by
  rw [World.putObj_heap_other (by omega)]
  have h1 := heap_setCell_same W g 0 _ t x h
  have h2 := heap_setCell_same _ g 1 _ t y h1
  simpa using h2
theorem mag_isEmpty (n : Nat) : (!(mag n).isEmpty) = decide (n ≠ 0) := by
  rcases Nat.eq_zero_or_pos n with h | h
  · subst h; rw [mag_zero]; rfl
  · have : mag n ≠ [] := fun e => by rw [mag_eq_nil] at e; omega
    have h2 : (mag n).isEmpty = false := by simpa using this
    rw [h2]
    simp; omega

set_option maxRecDepth 100000 in
set_option maxHeartbeats 2000000 in
theorem wide_in (n : Nat) (hn : 5 ≤ n) (la : List Nat) (A : Option Addr) (na ca : Nat) (neg : Bool) (w : World) (da : Dl WB la) (ha : Wd .u64 w w.heap.size A la) (hna : la.length = na) (hsa : na ≤ 1000000000) (hca : na ≤ ca) (hca2 : ca ≤ 1099511627776) :
    CallsIn Fence.wide n Tryd.prog 51 #[.slice A na ca, .bool neg] w fun e w' => e = .returned (wv (neg && decide (val WB la ≠ 0)) (val WB la)) ∧ Below w.heap.size w w' := by
  have h1 : 1 ≤ n := by omega
  obtain ⟨i0, hi, hz0, hz1, hz2⟩ := info_parts info_u8
  have HA := Lib.hid ha
  have HNA := Lib.hid hna
  have htk := take_tlen WB_two da
  have htl := tlen_le la
  have HTK := Lib.hid htk
  have hlk : tlen la ≤ na := by omega
  clear ha hna htk htl
  refine callsIn_of_wp_marks Tryd.func51 rfl trivial ?_ rfl
  simp only [Tryd.ntmps51, List.size_toArray, List.length_cons, List.length_nil, Nat.reduceAdd, Nat.reduceSub, Array.replicate_succ, Array.replicate_zero, List.push_toArray, List.append_toArray, List.nil_append, List.cons_append]
  have hmk := run_make_cap (P := Tryd.prog) 81 5 Tryd.underlying81 1 (by omega) info_u8 (4 * (tlen la : Int)) (4 * tlen la) (by omega) (by omega)
  gi_wp2_with (first
    | (refine ⟨trivial, ?_⟩; gi_at_call 68; refine (callsIn_wide.2 (norm_any la A na ca w.heap.size _ HNA.out hca (by omega) (HA.out.keep (Nat.le_refl _) (fun p hp => World.cell?_alloc_lt _ _ _ (by omega))))).mono ?_; rintro e w' ⟨rfl, rfl⟩)
    | (refine ⟨trivial, ?_⟩; gi_at_call 69; refine (back_in Fence.wide _ trivial rfl A (tlen la) ca _).mono ?_; rintro e w' ⟨rfl, rfl⟩))

  clear hmk
  obtain ⟨zs, hzs⟩ : ∃ zs, zs = la.take (tlen la) := ⟨_, rfl⟩
  have hzl : zs.length = tlen la := by rw [hzs, List.length_take]; have := HNA.out; omega
  have hzd : zs = dig WB (val WB la) := by rw [hzs]; exact HTK.out
  have hwd0 : Wd .u64 w w.heap.size A zs := by rw [hzs]; exact HA.out.take _
  have hdz : Dl WB zs := by rw [hzs]; exact da.take _
  have HZL := Lib.hid hzl
  have HZD := Lib.hid hzd
  have HWD0 := Lib.hid hwd0
  have HDZ := Lib.hid hdz
  clear hzs hzl hzd hwd0 hdz HTK HA HNA
  obtain ⟨k, hk⟩ : ∃ k, tlen la = k := ⟨_, rfl⟩
  rw [hk] at HZL hlk ⊢
  clear hk
  obtain ⟨w1, hw1⟩ : ∃ w1, w1 = w.alloc (Obj.cells #[.bool false, .string ⟨#[]⟩] 26) := ⟨_, rfl⟩
  rw [← hw1]
  obtain ⟨w4, hw4⟩ : ∃ w4, w4 = ((w1.alloc (Obj.cells (madeCells #[Value.int .u8 0] (4 * k)) 5)).alloc (Obj.cells #[Value.slice (some ⟨w.heap.size + 1, 0, none⟩) 0 (4 * k)] 81)).alloc (Obj.cells #[Value.slice A k ca] 75) := ⟨_, rfl⟩
  have hs1 : w1.heap.size = w.heap.size + 1 := by rw [hw1]; simp
  have hs4 : w4.heap.size = w.heap.size + 4 := by rw [hw4]; simp [hs1]
  have hb4 : Below w1.heap.size w1 w4 := by rw [hw4]; exact (((Below.refl _ _).alloc (Nat.le_refl _) _).alloc (by simp) _).alloc (by simp; omega) _
  have hb14 : Below w.heap.size w w4 := ((Below.refl _ w).alloc (Nat.le_refl _) (Obj.cells #[.bool false, .string ⟨#[]⟩] 26)).trans (by rw [← hw1]; exact hb4.mono (by omega))
  have bB : Boxed w4 (w.heap.size + 2) 81 (.slice (some ⟨w.heap.size + 1, 0, none⟩) 0 (4 * k)) := by
    have h := (Boxed.new (w1.alloc (Obj.cells (madeCells #[Value.int .u8 0] (4 * k)) 5)) 81 (.slice (some ⟨w.heap.size + 1, 0, none⟩) 0 (4 * k))).alloc (Obj.cells #[Value.slice A k ca] 75)
    rw [← hw4] at h
    simpa [hs1] using h
  have bS : Boxed w4 (w.heap.size + 3) 75 (.slice A k ca) := by
    have h := Boxed.new ((w1.alloc (Obj.cells (madeCells #[Value.int .u8 0] (4 * k)) 5)).alloc (Obj.cells #[Value.slice (some ⟨w.heap.size + 1, 0, none⟩) 0 (4 * k)] 81)) 75 (.slice A k ca)
    rw [← hw4] at h
    simpa [hs1] using h
  have hrow0 : w4.ownsRow (w.heap.size + 1) 5 1 (.slice (some ⟨w.heap.size + 1, 0, none⟩) 0 (4 * k)) 0 [] := by
    have h0 : w1.heap.size = w.heap.size + 1 := hs1
    have hm : (w1.alloc (Obj.cells (madeCells #[Value.int .u8 0] (4 * k)) 5)).heap[w.heap.size + 1]? = some (.cells (madeCells #[Value.int .u8 0] (4 * k)) 5 (0, 0)) := by
      rw [← hs1]; exact heap_alloc_new w1 _
    have hm4 : w4.heap[w.heap.size + 1]? = some (.cells (madeCells #[Value.int .u8 0] (4 * k)) 5 (0, 0)) := by
      rw [hw4, Below.heap_alloc _ _ _ (by simp; omega), Below.heap_alloc _ _ _ (by simp; omega)]; exact hm
    exact ⟨rfl, .inr ⟨w.heap.size + 1, 4 * k, _, rfl, Nat.le_refl _, hm4, Nat.zero_le _, by unfold maxLen; omega, by simp [madeCells], rfl⟩⟩
  have hres : w4.heap[w.heap.size]? = some (.cells #[.bool false, .string ⟨#[]⟩] 26 (0, 0)) := by
    rw [hb4.block w.heap.size (by omega), hw1]; exact heap_alloc_new w _
  have hwd4 : Wd .u64 w4 w.heap.size A zs := HWD0.out.below hb14
  rw [← hw4]
  have HW1 := Lib.hid hw1; have HW4 := Lib.hid hw4; have HS1 := Lib.hid hs1; have HS4 := Lib.hid hs4
  clear hw1 hw4 hs1
  have HB4 := Lib.hid hb4; have HB14 := Lib.hid hb14; have BB := Lib.hid bB; have BS := Lib.hid bS; have HR0 := Lib.hid hrow0; have HRES := Lib.hid hres; have HWD4 := Lib.hid hwd4
  clear hb4 hb14 bB bS hrow0 hres hwd4
  refine wpIn_rangeFunc_ownG rfl h1 (gf := 76) (lb := #[.pointer (some ⟨w.heap.size + 3, 0, none⟩)]) rfl trivial (enters_of Tryd.func76 (by kernel_rfl) rfl)
    (back_stops Fence.wide (n - 1) trivial rfl (by omega) (w.heap.size + 3) w.heap.size k ca A zs HZL.out (by omega) w4 (by omega) (by omega) BS.out.cell HWD4.out) KpB.trans (kpB_put (by omega) (by omega)) (Below.refl _ _) (fun _ => rfl)
    (fun pre W => (∃ v, Boxed W (w.heap.size + 2) 81 v ∧ W.ownsRow (w.heap.size + 1) 5 1 v (4 * pre.length) (pre.flatMap fun x => (b4 x.2).map fun b => Value.int .u8 (b.toNat : Int)) ∧ True) ∧ Boxed W (w.heap.size + 3) 75 (.slice A k ca) ∧ Below (w.heap.size + 1) w4 W)
    (fun _ _ _ => False)
    (OwnFrom.and (Own.from (holdsRow_own (w.heap.size + 1) (w.heap.size + 2) 81 5 1 (fun pre : List (Nat × Nat) => 4 * pre.length) (fun pre => pre.flatMap fun x => (b4 x.2).map fun b => Value.int .u8 (b.toNat : Int)) (fun _ _ => True)) _) (OwnFrom.and (Own.from (boxed_own _ _ _) _) (ownFrom_below (by omega) (by omega))))
    (fun _ _ _ _ _ hs _ _ => hs)
    ⟨⟨_, BB.out, HR0.out, trivial⟩, BS.out, Below.refl _ _⟩
    (fun x => { tmps := #[.slice A k ca, .bool neg, undef, undef, .pointer (some ⟨w.heap.size, 0, none⟩), .pointer (some ⟨w.heap.size + 1 + 1, 0, none⟩), undef, .int .u64 x.2, undef, .slice A na ca, .slice A k ca, .slice A k ca, .int .i64 k, .int .i64 (4 * (k : Int)), .slice (some ⟨w.heap.size + 1, 0, none⟩) 0 (4 * k), .slice A k ca, .func (.func 76) #[] #[.pointer (some ⟨w.heap.size + 1 + 1 + 1, 0, none⟩)], .int .i64 x.1, .int .u64 x.2, undef, undef, undef, undef, undef, undef, undef, undef, undef, undef, undef, undef, undef, undef, undef, undef, undef, undef, undef, undef, undef, undef, undef, undef], defers := [] }) ?assign ?body ?done ?stop
  case assign =>
    intro l x W K hK
    gi_wp2
    exact hK
  case body =>
    rintro l pre x W ⟨⟨v, hv, hrow, _⟩, hbs, hB⟩ hlt
    have hc := hv.cell
    gi_wp2_with (gi_at_builtin; refine wpListIn_append_own _ rfl _ _ 81 rfl (w.heap.size + 1) 5 i0 (.int .u8 0) 1 1 Tryd.underlying81 hi hz0 hz1 hz2 rfl (by decide) _ _ _ rfl (hrow.alloc _) ⟨W.heap.size, 0, none⟩ 4 4 [.int .u8 (IntKind.u8.wrap ((x.2 : Int) / 16777216)), .int .u8 (IntKind.u8.wrap ((x.2 : Int) / 65536)), .int .u8 (IntKind.u8.wrap ((x.2 : Int) / 256)), .int .u8 (IntKind.u8.wrap (x.2 : Int))] rfl rfl (cell_lit_new _ #[_, _, _, _] _) (by simp [Value.oneCell']) (by unfold maxLen; omega) (by omega) (by have := hB.size; simp; omega) ?_; intro v' w1 hown' hgrow _; obtain ⟨g', cap', rfl⟩ := ownsRow_succ hown'; obtain ⟨hv1, hv2, hr2, hk2, hb2⟩ := hv.appended (by decide) hrow (by have := hB.size; omega) (by omega) hown' hgrow; have hc1 := hv1.cell; have hf1 := hv1.frozen)
    have hbs2 : Boxed (w1.setCell ⟨w.heap.size + 2, 0, none⟩ (.slice (some ⟨g', 0, none⟩) (4 * pre.length + 4) cap')) (w.heap.size + 3) 75 (.slice A k ca) := ((hbs.alloc _).kept hgrow (hbs.not_row (by decide) hrow)).other (by omega) _
    refine ⟨hk2.from _, ⟨hb2.mono (by omega), hbs2.trans (Eq.symm hbs)⟩, ⟨_, hv2, ?_, trivial⟩, hbs2, hB.trans hb2⟩
    have e1 : 4 * (pre ++ [x]).length = 4 * pre.length + 4 := by rw [List.length_append]; simp; omega
    rw [e1, List.flatMap_append, List.flatMap_cons, List.flatMap_nil, List.append_nil, b4_vals]
    exact hr2
  case done =>
    rintro D ys W hD rfl ⟨⟨v, hv, hrow, _⟩, hbs, hB⟩ hK
    have hc := hv.cell
    have hys : (upto (backAt zs) k).flatMap (fun x => (b4 x.2).map fun b => Value.int .u8 (b.toNat : Int)) = (zs.reverse.flatMap b4).map fun b => Value.int .u8 (b.toNat : Int) := by
      exact back_words _ zs k HZL.out
    rw [hys] at hrow
    have hconv := run_string_own (P := Tryd.prog) W 81 9 5 (w.heap.size + 1) _ v (zs.reverse.flatMap b4) Tryd.underlying81 Tryd.underlying5 Tryd.underlying9 hrow
    have hval : mag (mval (zs.reverse.flatMap b4)) = mag (val WB la) := by
      have hd := HDZ.out
      rw [WB_eq] at hd
      rw [mval_words zs hd, HZD.out, WB_eq, val_dig (by omega)]
    have htrim : ∀ W : World, Calls Tryd.prog 70 #[.string ⟨(zs.reverse.flatMap b4).toArray⟩, .string ⟨#[0]⟩] W fun e w' => e = .returned (.string ⟨(mag (val WB la)).toArray⟩) ∧ W = w' := fun W => by
      have h := trimLeft_any ⟨(zs.reverse.flatMap b4).toArray⟩ W (by
        show (zs.reverse.flatMap b4).toArray.size ≤ _
        have hl : ∀ l : List Nat, (l.flatMap b4).length = 4 * l.length := fun l => by
          induction l with
          | nil => rfl
          | cons d l ih => rw [List.flatMap_cons, List.length_append, ih, b4_length, List.length_cons]; omega
        rw [List.size_toArray, hl, List.length_reverse, HZL.out]; omega)
      rw [lstrip_eq, hval] at h
      exact h
    have HTRIM := Lib.hid htrim
    clear hys hval htrim
    have hcr0 : W.cell? ⟨w.heap.size, 0, none⟩ = some (.bool false) := by rw [hB.cell (p := ⟨w.heap.size, 0, none⟩) (by simp), cell_of_row _ _ _ _ _ _ HRES.out]; rfl
    have hcr1 : W.cell? ⟨w.heap.size, 1, none⟩ = some (.string ⟨#[]⟩) := by rw [hB.cell (p := ⟨w.heap.size, 1, none⟩) (by simp), cell_of_row _ _ _ _ _ _ HRES.out]; rfl
    have hfr0 : W.frozen? ⟨w.heap.size, 0, none⟩ = false := by rw [hB.frozen (p := ⟨w.heap.size, 0, none⟩) (by simp)]; exact frozen_of_row _ _ _ _ _ HRES.out
    have hfr1 : W.frozen? ⟨w.heap.size, 1, none⟩ = false := by rw [hB.frozen (p := ⟨w.heap.size, 1, none⟩) (by simp)]; exact frozen_of_row _ _ _ _ _ HRES.out
    have HRB := Lib.hid ((hB.block w.heap.size (by omega)).trans HRES.out)
    have HDW : Hid (D ≠ w.heap.size) := by show D ≠ w.heap.size; omega
    have HEND : Hid (∀ x y : Value, Below w.heap.size w (((W.setCell ⟨w.heap.size, 0, none⟩ x).setCell ⟨w.heap.size, 1, none⟩ y).putObj D (.deferred none))) := fun x y => by
      have h1 := HB14.out.trans (hB.mono (by omega))
      have h2 := (h1.setCell (p := ⟨w.heap.size, 0, none⟩) (Nat.le_refl _) x).setCell (p := ⟨w.heap.size, 1, none⟩) (Nat.le_refl _) y
      have hK1 := ((KeepsOthers.setCell W ⟨w.heap.size, 0, none⟩ x).trans (KeepsOthers.setCell _ ⟨w.heap.size, 1, none⟩ y)).same D _ hK rfl
      exact h2.trans (belowK_b (w := w4) (by omega) _ D _ _ (by omega) hK1 rfl rfl)
    clear hB hrow
    cases neg
    · gi_wp2_with (refine ⟨trivial, ?_⟩; gi_at_call 70; refine (callsIn_wide.2 (HTRIM.out _)).mono ?_; rintro e w' ⟨rfl, rfl⟩)
      have hK1 := ((KeepsOthers.setCell W ⟨w.heap.size, 0, none⟩ (.bool false)).trans (KeepsOthers.setCell _ ⟨w.heap.size, 1, none⟩ (.string ⟨(mag (val WB la)).toArray⟩))).same D _ hK rfl
      refine ⟨by simp, .inl ⟨_, _, rfl, run_takeDeferred hK1, ?_⟩⟩
      exact ⟨wv false (val WB la), results_cell_row rfl _ _ w.heap.size 26 _ (0, 0) _ rfl (res_box _ _ HRB.out HDW.out) Tryd.underlying26 rfl (by kernel_rfl), rfl, HEND.out _ _⟩
    · gi_wp2_with (refine ⟨trivial, ?_⟩; gi_at_call 70; refine (callsIn_wide.2 (HTRIM.out _)).mono ?_; rintro e w' ⟨rfl, rfl⟩)
      have hK1 := ((KeepsOthers.setCell W ⟨w.heap.size, 0, none⟩ (.bool !(mag (val WB la)).isEmpty)).trans (KeepsOthers.setCell _ ⟨w.heap.size, 1, none⟩ (.string ⟨(mag (val WB la)).toArray⟩))).same D _ hK rfl
      refine ⟨by simp, .inl ⟨_, _, rfl, run_takeDeferred hK1, ?_⟩⟩
      exact ⟨wv (!(mag (val WB la)).isEmpty) (val WB la), results_cell_row rfl _ _ w.heap.size 26 _ (0, 0) _ rfl (res_box _ _ HRB.out HDW.out) Tryd.underlying26 rfl (by kernel_rfl), by rw [mag_isEmpty, Bool.true_and], HEND.out _ _⟩
  case stop =>
    rintro D c pre W _ _ h _
    exact h.elim

/-- the contract, outside every fence -/
theorem wide_any (m : Nat) (A : Option Addr) (na ca : Nat) (neg : Bool) (w : World) (ha : Wd .u64 w w.heap.size A (dig WB m)) (hna : (dig WB m).length = na) (hsa : na ≤ 1000000000) (hca : na ≤ ca) (hca2 : ca ≤ 1099511627776) :
    Calls Tryd.prog 51 #[.slice A na ca, .bool neg] w fun e w' => e = .returned (wv (neg && decide (m ≠ 0)) m) ∧ Below w.heap.size w w' := by
  have h := callsIn_wide.1 (wide_in 5 (Nat.le_refl _) (dig WB m) A na ca neg w (dig_Dl WB_two m) ha hna hsa hca hca2)
  rwa [val_dig WB_two] at h

theorem wide_lst (la : List Nat) (A : Option Addr) (na ca : Nat) (neg : Bool) (w : World) (da : Dl WB la) (ha : Wd .u64 w w.heap.size A la) (hna : la.length = na) (hsa : na ≤ 1000000000) (hca : na ≤ ca) (hca2 : ca ≤ 1099511627776) :
    Calls Tryd.prog 51 #[.slice A na ca, .bool neg] w fun e w' => e = .returned (wv (neg && decide (val WB la ≠ 0)) (val WB la)) ∧ Below w.heap.size w w' :=
  callsIn_wide.1 (wide_in 5 (Nat.le_refl _) la A na ca neg w da ha hna hsa hca hca2)
end Go.Proofs.YtapppahniablmaaDoor
