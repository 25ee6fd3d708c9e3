/- QuadricMoved: the row and its tied card. -/
import Derived.Test.YtapppahniablmaaDoorLaw5
import Derived.Test.YtapppahniablmaaDoorRow2
import Derived.Test.YtapppahniablmaaDoorRow
import Derived.Test.YtapppahniablmaaDoorTie
import Derived.Test.YtapppahniablmaaDoorCards
namespace Go.Proofs.YtapppahniablmaaDoor
open Go.ChangeShapes Go.WideShapes Go.ChangeAt Go.RowKit
set_option maxRecDepth 100000

set_option maxHeartbeats 2000000 in
theorem quadricMoved_lifted (os : Os) (started : os.Started) (H : Type) (enc : TypeId × Value → H) :
    ReturnsInHanded {} Tryd.checked os 9 .any (fun w args => (Rows.quadricMovedSpec.pre enc Tryd.prog Tryd.f9 Rows.quadricMovedRow.domain false w args ∧ laidMetH Tryd.prog Rows.quadricMovedRow.laid w) ∧ sizedMet enc Tryd.prog Tryd.f9 (OpenSpec.ofChange Rows.quadricMovedSpec) false w args)
      (Rows.quadricMovedSpec.post enc Tryd.prog Tryd.f9 false true false false) := by
  refine returnsInHanded_of_change_and (C := Tryd.checked) (X := fun w _ => laidMetH Tryd.prog Rows.quadricMovedRow.laid w) (fun _ _ _ hh h => h.of_heap hh) own started (by kernel_rfl) Tryd.func9
    (ChangeSpec.witness_shaped (enc := enc) (C := Tryd.checked) (os := os) (X := fun w _ => laidMetH Tryd.prog Rows.quadricMovedRow.laid w) false (World.laidAll Tryd.prog os Rows.quadricMovedRow.laid) #[.agg #[.int .i64 0, .int .i64 0, .int .i64 0, .int .i64 0, .int .i64 0, .int .i64 0, .int .i64 0, .int .i64 0, .int .i64 0, .int .i64 0, .int .i64 0, .int .i64 0], .agg #[.int .i64 0, .int .i64 0, .int .i64 0], .int .i64 0] 8 (World.laidAll_os _ _ _)
      (World.shaped_of_ZipB (by kernel_rfl) (by kernel_rfl)) (by kernel_rfl) (by kernel_rfl) (by kernel_rfl)
      (by rw [MakeChecks.laidMetH_plain _ _ _ (by kernel_rfl)]; exact laidMet_laidAll _ (by kernel_rfl) (by kernel_rfl))) ?_
  intro W base args ds gs before hval0 hW _ _ _ _
  have hval : ∀ (j : Nat) t v, Tryd.f9.params[j]? = some t → args[j]? = some v → Value.okWide Tryd.prog W .any base t v := hval0
  have hW' := hW
  obtain ⟨p, q, hA0, hV, rfl, _, _⟩ := hW
  have hA : DataW.TrodAll enc Tryd.prog W 0 (fun _ => true) true Tryd.f9.params.toList args.toList ds p := hA0
  rw [Tryd.params9] at hA hval
  have hAk := hA
  obtain ⟨v0, v1, v2, d0, d1, d2, p0, p1, p2, rfl, rfl, rfl, h0, h1, h2⟩ := trodAll_three hA
  obtain ⟨rfl, rfl⟩ := trodVars_none hV
  obtain ⟨x1, y1, z1, x2, y2, z2, x3, y3, z3, x4, y4, z4, rfl, hx1, hy1, hz1, hx2, hy2, hz2, hx3, hy3, hz3, hx4, hy4, hz4⟩ := open_points4 (hval 0 41 v0 rfl rfl) h0
  obtain ⟨x, y, z, rfl, hx, hy, hz⟩ := open_point (hval 1 23 v1 rfl rfl) h1
  obtain ⟨n, rfl, hn⟩ := open_int (hval 2 3 v2 rfl rfl) h2
  simp only [List.append_nil] at hW'
  have call := (spLawMove.2 [.agg [.int x1 hx1, .int y1 hy1, .int z1 hz1, .int x2 hx2, .int y2 hy2, .int z2 hz2, .int x3 hx3, .int y3 hy3, .int z3 hz3, .int x4 hx4, .int y4 hy4, .int z4 hz4], .agg [.int x hx, .int y hy, .int z hz], .c (.int n hn)] none _ rfl).2 (fun _ h => by cases h) (fun _ => (0, 0)) W
  have call : Calls Tryd.prog 9 #[.agg #[.int .i64 x1, .int .i64 y1, .int .i64 z1, .int .i64 x2, .int .i64 y2, .int .i64 z2, .int .i64 x3, .int .i64 y3, .int .i64 z3, .int .i64 x4, .int .i64 y4, .int .i64 z4], .agg #[.int .i64 x, .int .i64 y, .int .i64 z], .int .i64 n] W fun e w' => e = .returned (.bool true) ∧ Below W.heap.size W w' := call
  refine call.mono fun e W' ⟨he, hb⟩ => ?_
  subst he
  have hlt : ∀ x ∈ (p0 ++ p1 ++ p2), x.block < W.heap.size := fun x hx => by simpa using hW'.lt x (by simpa using hx)
  refine ⟨_, rfl, _, _, _, [], (p0 ++ p1 ++ p2), [], hW', trodAll_mk1 (shut_bool Tryd.underlying4 _), ?_, rfl, hb.frame _, fun h => by cases h⟩
  exact trodAll_stays hb hAk (by intro t ht; have ht : t ∈ [41, 23, 3] := ht; simp only [List.mem_cons, List.not_mem_nil, or_false] at ht; rcases ht with rfl | rfl | rfl <;> exact ⟨by kernel_rfl, of_decide_eq_true (by kernel_rfl)⟩) hlt (fun x hx => by simpa using hlt x hx)
theorem quadricMoved_holds : Rows.QuadricMovedSaid :=
  OpenClaim.holds_of_wide 9 Tryd.f9 rfl rfl rfl rfl rfl rfl rfl ⟨rfl, rfl, rfl, rfl, rfl⟩ rfl rfl rfl rfl rfl (by kernel_rfl) Tryd.func9 (by kernel_rfl)
    (of_decide_eq_true (by kernel_rfl)) (by unfold Func.isWrapper; first | (rw [if_pos (by decide +kernel)]; kernel_rfl) | (rw [if_neg (by decide +kernel)]; exact ⟨rfl, rfl⟩))
    (fun os started H enc _ => quadricMoved_lifted os started H enc)
theorem quadricMoved_card : Rows.QuadricMovedCardSaid :=
  Claim7.holds_tied_plain_at .later [] [.data, .pinned] true (true, "1a7e82066a41c42720557c000f56b60f43fe59105432f8014a3fbabcae2c6f3e") false quadricMoved_holds (fun _ h => by cases h) (by kernel_rfl) (fun _ h => by cases h) quadricMoved_row_tie rfl ⟨rfl, rfl⟩ (by kernel_rfl) rfl
    (fun f fn hf hfn => by
      obtain rfl : f = 9 := Option.some.inj ((show Tryd.prog.funcNamed "lithophane/lithophanelaw10.QuadricMoved" = some 9 by kernel_rfl).symm.trans hf) |>.symm
      obtain rfl : fn = Tryd.f9 := (Option.some.inj (Tryd.func9.symm.trans hfn)).symm
      exact ⟨by kernel_rfl, fun j t ht => by
        rw [Tryd.params9] at ht
        have hm : t ∈ [41, 23, 3] := by simpa using Array.mem_of_getElem? ht
        have hall : ([41, 23, 3].all fun u => !Tryd.prog.wantsStandIn u) = true := by kernel_rfl
        exact (show Tryd.prog.wantsStandIn t = false by simpa using List.all_eq_true.1 hall t hm)⟩)
    (by kernel_rfl)
#print axioms quadricMoved_card
end Go.Proofs.YtapppahniablmaaDoor
