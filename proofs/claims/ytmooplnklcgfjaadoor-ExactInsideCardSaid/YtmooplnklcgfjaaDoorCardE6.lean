/- ExactInside: the row and its tied card. -/
import Derived.Test.YtmooplnklcgfjaaDoorL6
import Derived.Test.YtmooplnklcgfjaaDoorRowE3
import Derived.Test.YtmooplnklcgfjaaDoorTie
import Derived.Test.YtmooplnklcgfjaaDoorCards
namespace Go.Proofs.YtmooplnklcgfjaaDoor
open Go.ChangeShapes Go.WideShapes Go.ChangeAt Go.RowKit
set_option maxRecDepth 100000

set_option maxHeartbeats 2000000 in
theorem exactInside_lifted (os : Os) (started : os.Started) (H : Type) (enc : TypeId × Value → H) :
    ReturnsInHanded {} Tryd.checked os 5 .any (fun w args => (Rows.exactInsideSpec.pre enc Tryd.prog Tryd.f5 Rows.exactInsideRow.domain false w args ∧ laidMetH Tryd.prog Rows.exactInsideRow.laid w) ∧ sizedMet enc Tryd.prog Tryd.f5 (OpenSpec.ofChange Rows.exactInsideSpec) false w args)
      (Rows.exactInsideSpec.post enc Tryd.prog Tryd.f5 false true false false) := by
  refine returnsInHanded_of_change_and (C := Tryd.checked) (X := fun w _ => laidMetH Tryd.prog Rows.exactInsideRow.laid w) (fun _ _ _ hh h => h.of_heap hh) own started (by kernel_rfl) Tryd.func5
    (ChangeSpec.witness_shaped (enc := enc) (C := Tryd.checked) (os := os) (X := fun w _ => laidMetH Tryd.prog Rows.exactInsideRow.laid w) false (World.laidAll Tryd.prog os Rows.exactInsideRow.laid) #[.agg #[.int .i64 0, .int .i64 0, .int .i64 0, .int .i64 0, .int .i64 0, .int .i64 0, .int .i64 0, .int .i64 0, .int .i64 0], .agg #[.int .i64 0, .int .i64 0, .int .i64 0], .agg #[.int .i64 0, .int .i64 0, .int .i64 0]] 8 (World.laidAll_os _ _ _)
      (World.shaped_of_ZipB (by kernel_rfl) (by kernel_rfl)) (by kernel_rfl) (by kernel_rfl) (by kernel_rfl)
      (by rw [MakeChecks.laidMetH_plain _ _ _ (by kernel_rfl)]; exact laidMet_laidAll _ (by kernel_rfl) (by kernel_rfl))) ?_
  intro W base args ds gs before hval0 hW _ _ _ _
  have hval : ∀ (j : Nat) t v, Tryd.f5.params[j]? = some t → args[j]? = some v → Value.okWide Tryd.prog W .any base t v := hval0
  have hW' := hW
  obtain ⟨p, q, hA0, hV, rfl, _, _⟩ := hW
  have hA : DataW.TrodAll enc Tryd.prog W 0 (fun _ => true) true Tryd.f5.params.toList args.toList ds p := hA0
  rw [Tryd.params5] at hA hval
  have hAk := hA
  obtain ⟨v0, v1, v2, d0, d1, d2, p0, p1, p2, rfl, rfl, rfl, h0, h1, h2⟩ := trodAll_three hA
  obtain ⟨rfl, rfl⟩ := trodVars_none hV
  obtain ⟨x1, y1, z1, x2, y2, z2, x3, y3, z3, rfl, hx1, hy1, hz1, hx2, hy2, hz2, hx3, hy3, hz3⟩ := open__9_int (hval 0 23 v0 rfl rfl) h0
  obtain ⟨w0, w1, w2, rfl, hw0, hw1, hw2⟩ := open__3_int (hval 1 22 v1 rfl rfl) h1
  obtain ⟨x4, y4, z4, rfl, hx4, hy4, hz4⟩ := open__3_int (hval 2 22 v2 rfl rfl) h2
  simp only [List.append_nil] at hW'
  have call := (spLawIn.2 [.agg [.int x1 hx1, .int y1 hy1, .int z1 hz1, .int x2 hx2, .int y2 hy2, .int z2 hz2, .int x3 hx3, .int y3 hy3, .int z3 hz3], .agg [.int w0 hw0, .int w1 hw1, .int w2 hw2], .agg [.int x4 hx4, .int y4 hy4, .int z4 hz4]] none _ rfl).2 (fun _ h => by cases h) (fun _ => (0, 0)) W
  have call : Calls Tryd.prog 5 #[.agg #[.int .i64 x1, .int .i64 y1, .int .i64 z1, .int .i64 x2, .int .i64 y2, .int .i64 z2, .int .i64 x3, .int .i64 y3, .int .i64 z3], .agg #[.int .i64 w0, .int .i64 w1, .int .i64 w2], .agg #[.int .i64 x4, .int .i64 y4, .int .i64 z4]] W fun e w' => e = .returned (.bool true) ∧ Below W.heap.size W w' := call
  refine call.mono fun e W' ⟨he, hb⟩ => ?_
  subst he
  have hlt : ∀ x ∈ (p0 ++ p1 ++ p2), x.block < W.heap.size := fun x hx => by simpa using hW'.lt x (by simpa using hx)
  refine ⟨_, rfl, _, _, _, [], (p0 ++ p1 ++ p2), [], hW', trodAll_mk1 (shut_bool Tryd.underlying4 _), ?_, rfl, hb.frame _, fun h => by cases h⟩
  exact trodAll_stays hb hAk (by intro t ht; have ht : t ∈ [23, 22, 22] := ht; simp only [List.mem_cons, List.not_mem_nil, or_false] at ht; rcases ht with rfl | rfl | rfl <;> exact ⟨by kernel_rfl, of_decide_eq_true (by kernel_rfl)⟩) hlt (fun x hx => by simpa using hlt x hx)
theorem exactInside_holds : Rows.ExactInsideSaid :=
  OpenClaim.holds_of_wide 5 Tryd.f5 rfl rfl rfl rfl rfl rfl rfl ⟨rfl, rfl, rfl, rfl, rfl⟩ rfl rfl rfl rfl rfl (by kernel_rfl) Tryd.func5 (by kernel_rfl)
    (of_decide_eq_true (by kernel_rfl)) (by unfold Func.isWrapper; first | (rw [if_pos (by decide +kernel)]; kernel_rfl) | (rw [if_neg (by decide +kernel)]; exact ⟨rfl, rfl⟩))
    (fun os started H enc _ => exactInside_lifted os started H enc)
theorem exactInside_card : Rows.ExactInsideCardSaid :=
  Claim7.holds_tied_plain_at .later [] [.data, .pinned] true (true, "ca435a53be29f3c000ac6b8cdc99581d39aadfb54d9d13ff04f5b402ecc472e8") false exactInside_holds (fun _ h => by cases h) (by kernel_rfl) (fun _ h => by cases h) exactInside_row_tie rfl ⟨rfl, rfl⟩ (by kernel_rfl) rfl
    (fun f fn hf hfn => by
      obtain rfl : f = 5 := Option.some.inj ((show Tryd.prog.funcNamed "lithophane/lithophanelaw02.ExactInside" = some 5 by kernel_rfl).symm.trans hf) |>.symm
      obtain rfl : fn = Tryd.f5 := (Option.some.inj (Tryd.func5.symm.trans hfn)).symm
      exact ⟨by kernel_rfl, fun j t ht => by
        rw [Tryd.params5] at ht
        have hm : t ∈ [23, 22, 22] := by simpa using Array.mem_of_getElem? ht
        have hall : ([23, 22, 22].all fun u => !Tryd.prog.wantsStandIn u) = true := by kernel_rfl
        exact (show Tryd.prog.wantsStandIn t = false by simpa using List.all_eq_true.1 hall t hm)⟩)
    (by kernel_rfl)
#print axioms exactInside_card
end Go.Proofs.YtmooplnklcgfjaaDoor
