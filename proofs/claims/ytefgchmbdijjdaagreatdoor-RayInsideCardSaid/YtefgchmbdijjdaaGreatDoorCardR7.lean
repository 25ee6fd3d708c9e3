/- RayInside: the row and its tied card. -/
import Derived.Test.YtefgchmbdijjdaaGreatDoorPtb
import Derived.Test.YtefgchmbdijjdaaGreatDoorRowR
import Derived.Test.YtefgchmbdijjdaaGreatDoorTie
import Derived.Test.YtefgchmbdijjdaaGreatDoorCards
namespace Go.Proofs.YtefgchmbdijjdaaGreatDoor
open Go.ChangeShapes Go.WideShapes Go.ChangeAt Go.RowKit
set_option maxRecDepth 100000

set_option maxHeartbeats 2000000 in
theorem rayInside_lifted (os : Os) (started : os.Started) (H : Type) (enc : TypeId × Value → H) :
    ReturnsInHanded {} Tryz.checked os 7 .any (fun w args => (Rows.rayInsideSpec.pre enc Tryz.prog Tryz.f7 Rows.rayInsideRow.domain false w args ∧ laidMetH Tryz.prog Rows.rayInsideRow.laid w) ∧ sizedMet enc Tryz.prog Tryz.f7 (OpenSpec.ofChange Rows.rayInsideSpec) false w args)
      (Rows.rayInsideSpec.post enc Tryz.prog Tryz.f7 false true false false) := by
  refine returnsInHanded_of_change_and (C := Tryz.checked) (X := fun w _ => laidMetH Tryz.prog Rows.rayInsideRow.laid w) (fun _ _ _ hh h => h.of_heap hh) own started (by kernel_rfl) Tryz.func7
    (ChangeSpec.witness_shaped (enc := enc) (C := Tryz.checked) (os := os) (X := fun w _ => laidMetH Tryz.prog Rows.rayInsideRow.laid w) false (World.laidAll Tryz.prog os Rows.rayInsideRow.laid) #[.int .u32 0, .agg #[.int .i64 0, .int .i64 0, .int .i64 0, .int .i64 0, .int .i64 0, .int .i64 0, .int .i64 0]] 8 (World.laidAll_os _ _ _)
      (World.shaped_of_ZipB (by kernel_rfl) (by kernel_rfl)) (by kernel_rfl) (by kernel_rfl) (by kernel_rfl)
      (by rw [MakeChecks.laidMetH_plain _ _ _ (by kernel_rfl)]; exact laidMet_laidAll _ (by kernel_rfl) (by kernel_rfl))) ?_
  intro W base args ds gs before hval0 hW _ _ _ _
  have hval : ∀ (j : Nat) t v, Tryz.f7.params[j]? = some t → args[j]? = some v → Value.okWide Tryz.prog W .any base t v := hval0
  have hW' := hW
  obtain ⟨p, q, hA0, hV, rfl, _, _⟩ := hW
  have hA : DataW.TrodAll enc Tryz.prog W 0 (fun _ => true) true Tryz.f7.params.toList args.toList ds p := hA0
  rw [Tryz.params7] at hA hval
  have hAk := hA
  obtain ⟨v0, v1, d0, d1, p0, p1, rfl, rfl, rfl, h0, h1⟩ := trodAll_two hA
  obtain ⟨rfl, rfl⟩ := trodVars_none hV
  obtain ⟨b, rfl, hb⟩ := open_u32 (hval 0 47 v0 rfl rfl) h0
  obtain ⟨rx, ry, rz, rw, d0, d1, d2, rfl, hrx, hry, hrz, hrw, hd0, hd1, hd2⟩ := open_api_Ray (hval 1 24 v1 rfl rfl) h1
  simp only [List.append_nil] at hW'
  have call := call_lawI (b := b) csLawIn ⟨rx, ry, rz, rw, d0, d1, d2, hrx, hry, hrz, hrw, hd0, hd1, hd2⟩ W
  have call : Calls Tryz.prog 7 #[.int .u32 b, .agg #[.int .i64 rx, .int .i64 ry, .int .i64 rz, .int .i64 rw, .int .i64 d0, .int .i64 d1, .int .i64 d2]] W fun e w' => e = .returned (.bool true) ∧ Below W.heap.size W w' := call
  refine call.mono fun e W' ⟨he, hb⟩ => ?_
  subst he
  have hlt : ∀ x ∈ (p0 ++ p1), x.block < W.heap.size := fun x hx => by simpa using hW'.lt x (by simpa using hx)
  refine ⟨_, rfl, _, _, _, [], (p0 ++ p1), [], hW', trodAll_mk1 (shut_bool Tryz.underlying4 _), ?_, rfl, hb.frame _, fun h => by cases h⟩
  exact trodAll_stays hb hAk (by intro t ht; have ht : t ∈ [47, 24] := ht; simp only [List.mem_cons, List.not_mem_nil, or_false] at ht; rcases ht with rfl | rfl <;> exact ⟨by kernel_rfl, of_decide_eq_true (by kernel_rfl)⟩) hlt (fun x hx => by simpa using hlt x hx)
theorem rayInside_holds : Rows.RayInsideSaid :=
  OpenClaim.holds_of_wide 7 Tryz.f7 rfl rfl rfl rfl rfl rfl rfl ⟨rfl, rfl, rfl, rfl, rfl⟩ rfl rfl rfl rfl rfl (by kernel_rfl) Tryz.func7 (by kernel_rfl)
    (of_decide_eq_true (by kernel_rfl)) (by unfold Func.isWrapper; first | (rw [if_pos (by decide +kernel)]; kernel_rfl) | (rw [if_neg (by decide +kernel)]; exact ⟨rfl, rfl⟩))
    (fun os started H enc _ => rayInside_lifted os started H enc)
theorem rayInside_card : Rows.RayInsideCardSaid :=
  Claim7.holds_tied_plain_at .later [] [.data, .pinned] true (true, "9a3be8eeaeeb3130e61a5f90ac0de0843deb367aec0d9e15816fcc1e740e40a8") false rayInside_holds (fun _ h => by cases h) (by kernel_rfl) (fun _ h => by cases h) rayInside_row_tie rfl ⟨rfl, rfl⟩ (by kernel_rfl) rfl
    (fun f fn hf hfn => by
      obtain rfl : f = 7 := Option.some.inj ((show Tryz.prog.funcNamed "lithophane/lithophanelaw22.RayInside" = some 7 by kernel_rfl).symm.trans hf) |>.symm
      obtain rfl : fn = Tryz.f7 := (Option.some.inj (Tryz.func7.symm.trans hfn)).symm
      exact ⟨by kernel_rfl, fun j t ht => by
        rw [Tryz.params7] at ht
        have hm : t ∈ [47, 24] := by simpa using Array.mem_of_getElem? ht
        have hall : ([47, 24].all fun u => !Tryz.prog.wantsStandIn u) = true := by kernel_rfl
        exact (show Tryz.prog.wantsStandIn t = false by simpa using List.all_eq_true.1 hall t hm)⟩)
    (by kernel_rfl)
#print axioms rayInside_card
end Go.Proofs.YtefgchmbdijjdaaGreatDoor
