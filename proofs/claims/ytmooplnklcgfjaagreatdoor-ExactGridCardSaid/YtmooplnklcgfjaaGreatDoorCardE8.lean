/- ExactGrid: the row and its tied card. -/
import Derived.Test.YtmooplnklcgfjaaGreatDoorL8
import Derived.Test.YtmooplnklcgfjaaGreatDoorRowE1
import Derived.Test.YtmooplnklcgfjaaGreatDoorTie
import Derived.Test.YtmooplnklcgfjaaGreatDoorCards
namespace Go.Proofs.YtmooplnklcgfjaaGreatDoor
open Go.ChangeShapes Go.WideShapes Go.ChangeAt Go.RowKit
set_option maxRecDepth 100000

set_option maxHeartbeats 2000000 in
theorem exactGrid_lifted (os : Os) (started : os.Started) (H : Type) (enc : TypeId × Value → H) :
    ReturnsInHanded {} Tryz.checked os 6 .any (fun w args => (Rows.exactGridSpec.pre enc Tryz.prog Tryz.f6 Rows.exactGridRow.domain false w args ∧ laidMetH Tryz.prog Rows.exactGridRow.laid w) ∧ sizedMet enc Tryz.prog Tryz.f6 (OpenSpec.ofChange Rows.exactGridSpec) false w args)
      (Rows.exactGridSpec.post enc Tryz.prog Tryz.f6 false true false false) := by
  refine returnsInHanded_of_change_and (C := Tryz.checked) (X := fun w _ => laidMetH Tryz.prog Rows.exactGridRow.laid w) (fun _ _ _ hh h => h.of_heap hh) own started (by kernel_rfl) Tryz.func6
    (ChangeSpec.witness_shaped (enc := enc) (C := Tryz.checked) (os := os) (X := fun w _ => laidMetH Tryz.prog Rows.exactGridRow.laid w) false (World.laidAll Tryz.prog os Rows.exactGridRow.laid) #[.agg #[.int .i64 0, .int .i64 0, .int .i64 0], .agg #[.int .i64 0, .int .i64 0, .int .i64 0], .agg #[.int .i64 0, .int .i64 0, .int .i64 0, .int .i64 0, .int .i64 0, .int .i64 0]] 8 (World.laidAll_os _ _ _)
      (World.shaped_of_ZipB (by kernel_rfl) (by kernel_rfl)) (by kernel_rfl) (by kernel_rfl) (by kernel_rfl)
      (by rw [MakeChecks.laidMetH_plain _ _ _ (by kernel_rfl)]; exact laidMet_laidAll _ (by kernel_rfl) (by kernel_rfl))) ?_
  intro W base args ds gs before hval0 hW _ _ _ _
  have hval : ∀ (j : Nat) t v, Tryz.f6.params[j]? = some t → args[j]? = some v → Value.okWide Tryz.prog W .any base t v := hval0
  have hW' := hW
  obtain ⟨p, q, hA0, hV, rfl, _, _⟩ := hW
  have hA : DataW.TrodAll enc Tryz.prog W 0 (fun _ => true) true Tryz.f6.params.toList args.toList ds p := hA0
  rw [Tryz.params6] at hA hval
  have hAk := hA
  obtain ⟨v0, v1, v2, d0, d1, d2, p0, p1, p2, rfl, rfl, rfl, h0, h1, h2⟩ := trodAll_three hA
  obtain ⟨rfl, rfl⟩ := trodVars_none hV
  obtain ⟨x1, y1, z1, rfl, hx1, hy1, hz1⟩ := open__3_int (hval 0 36 v0 rfl rfl) h0
  obtain ⟨x2, y2, z2, rfl, hx2, hy2, hz2⟩ := open__3_int (hval 1 36 v1 rfl rfl) h1
  obtain ⟨x3, y3, z3, x4, y4, z4, rfl, hx3, hy3, hz3, hx4, hy4, hz4⟩ := open__2__3_int (hval 2 39 v2 rfl rfl) h2
  simp only [List.append_nil] at hW'
  have call := (spLawGr.2 [.agg [.int x1 hx1, .int y1 hy1, .int z1 hz1], .agg [.int x2 hx2, .int y2 hy2, .int z2 hz2], .agg [.int x3 hx3, .int y3 hy3, .int z3 hz3, .int x4 hx4, .int y4 hy4, .int z4 hz4]] none _ rfl).2 (fun _ h => by cases h) (fun _ => (0, 0)) W
  have call : Calls Tryz.prog 6 #[.agg #[.int .i64 x1, .int .i64 y1, .int .i64 z1], .agg #[.int .i64 x2, .int .i64 y2, .int .i64 z2], .agg #[.int .i64 x3, .int .i64 y3, .int .i64 z3, .int .i64 x4, .int .i64 y4, .int .i64 z4]] W fun e w' => e = .returned (.bool true) ∧ Below W.heap.size W w' := call
  refine call.mono fun e W' ⟨he, hb⟩ => ?_
  subst he
  have hlt : ∀ x ∈ (p0 ++ p1 ++ p2), x.block < W.heap.size := fun x hx => by simpa using hW'.lt x (by simpa using hx)
  refine ⟨_, rfl, _, _, _, [], (p0 ++ p1 ++ p2), [], hW', trodAll_mk1 (shut_bool Tryz.underlying4 _), ?_, rfl, hb.frame _, fun h => by cases h⟩
  exact trodAll_stays hb hAk (by intro t ht; have ht : t ∈ [36, 36, 39] := ht; simp only [List.mem_cons, List.not_mem_nil, or_false] at ht; rcases ht with rfl | rfl | rfl <;> exact ⟨by kernel_rfl, of_decide_eq_true (by kernel_rfl)⟩) hlt (fun x hx => by simpa using hlt x hx)
theorem exactGrid_holds : Rows.ExactGridSaid :=
  OpenClaim.holds_of_wide 6 Tryz.f6 rfl rfl rfl rfl rfl rfl rfl ⟨rfl, rfl, rfl, rfl, rfl⟩ rfl rfl rfl rfl rfl (by kernel_rfl) Tryz.func6 (by kernel_rfl)
    (of_decide_eq_true (by kernel_rfl)) (by unfold Func.isWrapper; first | (rw [if_pos (by decide +kernel)]; kernel_rfl) | (rw [if_neg (by decide +kernel)]; exact ⟨rfl, rfl⟩))
    (fun os started H enc _ => exactGrid_lifted os started H enc)
theorem exactGrid_card : Rows.ExactGridCardSaid :=
  Claim7.holds_tied_plain_at .later [] [.data, .pinned] true (true, "3e86aa7f77f43c327bfb34979c60654cebf9105fe952456b2c8b6439cbccb314") false exactGrid_holds (fun _ h => by cases h) (by kernel_rfl) (fun _ h => by cases h) exactGrid_row_tie rfl ⟨rfl, rfl⟩ (by kernel_rfl) rfl
    (fun f fn hf hfn => by
      obtain rfl : f = 6 := Option.some.inj ((show Tryz.prog.funcNamed "lithophane/lithophanelaw02.ExactGrid" = some 6 by kernel_rfl).symm.trans hf) |>.symm
      obtain rfl : fn = Tryz.f6 := (Option.some.inj (Tryz.func6.symm.trans hfn)).symm
      exact ⟨by kernel_rfl, fun j t ht => by
        rw [Tryz.params6] at ht
        have hm : t ∈ [36, 36, 39] := by simpa using Array.mem_of_getElem? ht
        have hall : ([36, 36, 39].all fun u => !Tryz.prog.wantsStandIn u) = true := by kernel_rfl
        exact (show Tryz.prog.wantsStandIn t = false by simpa using List.all_eq_true.1 hall t hm)⟩)
    (by kernel_rfl)
#print axioms exactGrid_card
end Go.Proofs.YtmooplnklcgfjaaGreatDoor
