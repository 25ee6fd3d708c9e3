/- RayDivides: the row and its tied card. -/
import Derived.Test.YtefgchmbdijjdaaDoorRyDv
import Derived.Test.YtefgchmbdijjdaaDoorRowD
import Derived.Test.YtefgchmbdijjdaaDoorTie
import Derived.Test.YtefgchmbdijjdaaDoorCards
namespace Go.Proofs.YtefgchmbdijjdaaDoor
open Go.ChangeShapes Go.WideShapes Go.ChangeAt Go.RowKit
set_option maxRecDepth 100000

set_option maxHeartbeats 2000000 in
theorem rayDivides_lifted (os : Os) (started : os.Started) (H : Type) (enc : TypeId × Value → H) :
    ReturnsInHanded {} Tryd.checked os 5 .any (fun w args => (Rows.rayDividesSpec.pre enc Tryd.prog Tryd.f5 Rows.rayDividesRow.domain false w args ∧ laidMetH Tryd.prog Rows.rayDividesRow.laid w) ∧ sizedMet enc Tryd.prog Tryd.f5 (OpenSpec.ofChange Rows.rayDividesSpec) false w args)
      (Rows.rayDividesSpec.post enc Tryd.prog Tryd.f5 false true false false) := by
  refine returnsInHanded_of_change_and (C := Tryd.checked) (X := fun w _ => laidMetH Tryd.prog Rows.rayDividesRow.laid w) (fun _ _ _ hh h => h.of_heap hh) own started (by kernel_rfl) Tryd.func5
    (ChangeSpec.witness_shaped (enc := enc) (C := Tryd.checked) (os := os) (X := fun w _ => laidMetH Tryd.prog Rows.rayDividesRow.laid w) false (World.laidAll Tryd.prog os Rows.rayDividesRow.laid) #[.agg #[.int .i64 0, .int .i64 0, .int .i64 0, .int .i64 0, .int .i64 0, .int .i64 0, .int .i64 0], .agg #[.int .i64 0, .int .i64 0, .int .i64 0, .int .i64 0, .int .i64 0, .int .i64 0, .int .i64 0, .int .i64 0, .int .i64 0], .agg #[.int .u8 0, .int .u8 0]] 8 (World.laidAll_os _ _ _)
      (World.shaped_of_ZipB (by kernel_rfl) (by kernel_rfl)) (by kernel_rfl) (by kernel_rfl) (by kernel_rfl)
      (by rw [MakeChecks.laidMetH_plain _ _ _ (by kernel_rfl)]; exact laidMet_laidAll _ (by kernel_rfl) (by kernel_rfl))) ?_
  intro W base args ds gs before hval0 hW _ _ _ _
  have hval : ∀ (j : Nat) t v, Tryd.f5.params[j]? = some t → args[j]? = some v → Value.okWide Tryd.prog W .any base t v := hval0
  have hW' := hW
  obtain ⟨p, q, hA0, hV, rfl, _, _⟩ := hW
  have hA : DataW.TrodAll enc Tryd.prog W 0 (fun _ => true) true Tryd.f5.params.toList args.toList ds p := hA0
  rw [Tryd.params5] at hA hval
  have hAk := hA
  obtain ⟨v0, v1, v2, d0, d1, d2, p0, p1, p2, rfl, rfl, rfl, h0, h1, h2⟩ := trodAll_three hA
  obtain ⟨rfl, rfl⟩ := trodVars_none hV
  obtain ⟨rx, ry, rz, rw, d0, d1, d2, rfl, hrx, hry, hrz, hrw, hd0, hd1, hd2⟩ := open_api_Ray (hval 0 24 v0 rfl rfl) h0
  obtain ⟨x1, y1, z1, x2, y2, z2, x3, y3, z3, rfl, hx1, hy1, hz1, hx2, hy2, hz2, hx3, hy3, hz3⟩ := open__3_api_Point (hval 1 27 v1 rfl rfl) h1
  obtain ⟨n0, n1, rfl, hn0, hn1⟩ := open__2_uint8 (hval 2 28 v2 rfl rfl) h2
  simp only [List.append_nil] at hW'
  have call := (spLawDv.2 [.agg [.int rx hrx, .int ry hry, .int rz hrz, .int rw hrw, .int d0 hd0, .int d1 hd1, .int d2 hd2], .agg [.int x1 hx1, .int y1 hy1, .int z1 hz1, .int x2 hx2, .int y2 hy2, .int z2 hz2, .int x3 hx3, .int y3 hy3, .int z3 hz3], .agg [.val (.int .u8 n0), .val (.int .u8 n1)]] (some _) _ rfl).2 (fun _ h => by cases h; exact ⟨hn0, hn1⟩) (fun _ => (0, 0)) W
  have call : Calls Tryd.prog 5 #[.agg #[.int .i64 rx, .int .i64 ry, .int .i64 rz, .int .i64 rw, .int .i64 d0, .int .i64 d1, .int .i64 d2], .agg #[.int .i64 x1, .int .i64 y1, .int .i64 z1, .int .i64 x2, .int .i64 y2, .int .i64 z2, .int .i64 x3, .int .i64 y3, .int .i64 z3], .agg #[.int .u8 n0, .int .u8 n1]] W fun e w' => e = .returned (.bool true) ∧ Below W.heap.size W w' := call
  refine call.mono fun e W' ⟨he, hb⟩ => ?_
  subst he
  have hlt : ∀ x ∈ (p0 ++ p1 ++ p2), x.block < W.heap.size := fun x hx => by simpa using hW'.lt x (by simpa using hx)
  refine ⟨_, rfl, _, _, _, [], (p0 ++ p1 ++ p2), [], hW', trodAll_mk1 (shut_bool Tryd.underlying4 _), ?_, rfl, hb.frame _, fun h => by cases h⟩
  exact trodAll_stays hb hAk (by intro t ht; have ht : t ∈ [24, 27, 28] := ht; simp only [List.mem_cons, List.not_mem_nil, or_false] at ht; rcases ht with rfl | rfl | rfl <;> exact ⟨by kernel_rfl, of_decide_eq_true (by kernel_rfl)⟩) hlt (fun x hx => by simpa using hlt x hx)
theorem rayDivides_holds : Rows.RayDividesSaid :=
  OpenClaim.holds_of_wide 5 Tryd.f5 rfl rfl rfl rfl rfl rfl rfl ⟨rfl, rfl, rfl, rfl, rfl⟩ rfl rfl rfl rfl rfl (by kernel_rfl) Tryd.func5 (by kernel_rfl)
    (of_decide_eq_true (by kernel_rfl)) (by unfold Func.isWrapper; first | (rw [if_pos (by decide +kernel)]; kernel_rfl) | (rw [if_neg (by decide +kernel)]; exact ⟨rfl, rfl⟩))
    (fun os started H enc _ => rayDivides_lifted os started H enc)
theorem rayDivides_card : Rows.RayDividesCardSaid :=
  Claim7.holds_tied_plain_at .later [] [.data, .pinned] true (true, "4b8ed4007f869fa18eb92bb8c482fb39fa15821d1b473b1edd5fdec0af95eed9") false rayDivides_holds (fun _ h => by cases h) (by kernel_rfl) (fun _ h => by cases h) rayDivides_row_tie rfl ⟨rfl, rfl⟩ (by kernel_rfl) rfl
    (fun f fn hf hfn => by
      obtain rfl : f = 5 := Option.some.inj ((show Tryd.prog.funcNamed "lithophane/lithophanelaw22.RayDivides" = some 5 by kernel_rfl).symm.trans hf) |>.symm
      obtain rfl : fn = Tryd.f5 := (Option.some.inj (Tryd.func5.symm.trans hfn)).symm
      exact ⟨by kernel_rfl, fun j t ht => by
        rw [Tryd.params5] at ht
        have hm : t ∈ [24, 27, 28] := by simpa using Array.mem_of_getElem? ht
        have hall : ([24, 27, 28].all fun u => !Tryd.prog.wantsStandIn u) = true := by kernel_rfl
        exact (show Tryd.prog.wantsStandIn t = false by simpa using List.all_eq_true.1 hall t hm)⟩)
    (by kernel_rfl)
#print axioms rayDivides_card
end Go.Proofs.YtefgchmbdijjdaaDoor
