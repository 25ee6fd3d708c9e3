/- QuadricPositive: the row and its tied card. -/
import Derived.Test.YtapppahniablmaaDoorLws
import Derived.Test.YtapppahniablmaaDoorRws
import Derived.Test.YtapppahniablmaaDoorTie
import Derived.Test.YtapppahniablmaaDoorCards
namespace Go.Proofs.YtapppahniablmaaDoor
open Go.ChangeShapes Go.WideShapes Go.ChangeAt Go.RowKit
set_option maxRecDepth 100000

set_option maxHeartbeats 2000000 in
theorem quadricPositive_lifted (os : Os) (started : os.Started) (H : Type) (enc : TypeId × Value → H) :
    ReturnsInHanded {} Tryd.checked os 8 .any (fun w args => (Rows.quadricPositiveSpec.pre enc Tryd.prog Tryd.f8 Rows.quadricPositiveRow.domain false w args ∧ laidMetH Tryd.prog Rows.quadricPositiveRow.laid w) ∧ sizedMet enc Tryd.prog Tryd.f8 (OpenSpec.ofChange Rows.quadricPositiveSpec) false w args)
      (Rows.quadricPositiveSpec.post enc Tryd.prog Tryd.f8 false true false false) := by
  refine returnsInHanded_of_change_and (C := Tryd.checked) (X := fun w _ => laidMetH Tryd.prog Rows.quadricPositiveRow.laid w) (fun _ _ _ hh h => h.of_heap hh) own started (by kernel_rfl) Tryd.func8
    (ChangeSpec.witness_shaped (enc := enc) (C := Tryd.checked) (os := os) (X := fun w _ => laidMetH Tryd.prog Rows.quadricPositiveRow.laid w) false (World.laidAll Tryd.prog os Rows.quadricPositiveRow.laid) #[.int .u32 0, .slice none 0 0, .agg #[.int .i64 0, .int .i64 0, .int .i64 0]] 8 (World.laidAll_os _ _ _)
      (World.shaped_of_ZipB (by kernel_rfl) (by kernel_rfl)) (by kernel_rfl) (by kernel_rfl) (by kernel_rfl)
      (by rw [MakeChecks.laidMetH_plain _ _ _ (by kernel_rfl)]; exact laidMet_laidAll _ (by kernel_rfl) (by kernel_rfl))) ?_
  intro W base args ds gs before hval0 hW _ _ _ _
  have hval : ∀ (j : Nat) t v, Tryd.f8.params[j]? = some t → args[j]? = some v → Value.okWide Tryd.prog W .any base t v := hval0
  have hW' := hW
  obtain ⟨p, q, hA0, hV, rfl, _, _⟩ := hW
  have hA : DataW.TrodAll enc Tryd.prog W 0 (fun _ => true) true Tryd.f8.params.toList args.toList ds p := hA0
  rw [Tryd.params8] at hA hval
  have hAk := hA
  obtain ⟨v0, v1, v2, d0, d1, d2, p0, p1, p2, rfl, rfl, rfl, h0, h1, h2⟩ := trodAll_three hA
  obtain ⟨rfl, rfl⟩ := trodVars_none hV
  obtain ⟨b, rfl⟩ := open_u32 (hval 0 44 v0 rfl rfl) h0
  obtain ⟨v, tyv, Lv, av, rfl, hv, rv⟩ := open_heights (hval 1 45 v1 rfl rfl) h1
  obtain ⟨x, y, z, rfl, hx, hy, hz⟩ := open_point (hval 2 23 v2 rfl rfl) h2
  simp only [List.append_nil] at hW'
  have call := call_law (b := b) csLawPos ⟨x, y, z, hx, hy, hz⟩ hv W rv
  have call : Calls Tryd.prog 8 #[.int .u32 b, v.den (fun _ => av), .agg #[.int .i64 x, .int .i64 y, .int .i64 z]] W fun e w' => e = .returned (.bool true) ∧ Below W.heap.size W w' := call
  refine call.mono fun e W' ⟨he, hb⟩ => ?_
  subst he
  have hlt : ∀ x ∈ (p0 ++ p1 ++ p2), x.block < W.heap.size := fun x hx => by simpa using hW'.lt x (by simpa using hx)
  refine ⟨_, rfl, _, _, _, [], (p0 ++ p1 ++ p2), [], hW', trodAll_mk1 (shut_bool Tryd.underlying4 _), ?_, rfl, hb.frame _, fun h => by cases h⟩
  exact trodAll_stays hb hAk (by intro t ht; have ht : t ∈ [44, 45, 23] := ht; simp only [List.mem_cons, List.not_mem_nil, or_false] at ht; rcases ht with rfl | rfl | rfl <;> exact ⟨by kernel_rfl, of_decide_eq_true (by kernel_rfl)⟩) hlt (fun x hx => by simpa using hlt x hx)
theorem quadricPositive_holds : Rows.QuadricPositiveSaid :=
  OpenClaim.holds_of_wide 8 Tryd.f8 rfl rfl rfl rfl rfl rfl rfl ⟨rfl, rfl, rfl, rfl, rfl⟩ rfl rfl rfl rfl rfl (by kernel_rfl) Tryd.func8 (by kernel_rfl)
    (of_decide_eq_true (by kernel_rfl)) (by unfold Func.isWrapper; first | (rw [if_pos (by decide +kernel)]; kernel_rfl) | (rw [if_neg (by decide +kernel)]; exact ⟨rfl, rfl⟩))
    (fun os started H enc _ => quadricPositive_lifted os started H enc)
theorem quadricPositive_card : Rows.QuadricPositiveCardSaid :=
  Claim7.holds_tied_plain_at .later [] [.data, .pinned] true (true, "1a7e82066a41c42720557c000f56b60f43fe59105432f8014a3fbabcae2c6f3e") false quadricPositive_holds (fun _ h => by cases h) (by kernel_rfl) (fun _ h => by cases h) quadricPositive_row_tie rfl ⟨rfl, rfl⟩ (by kernel_rfl) rfl
    (fun f fn hf hfn => by
      obtain rfl : f = 8 := Option.some.inj ((show Tryd.prog.funcNamed "lithophane/lithophanelaw10.QuadricPositive" = some 8 by kernel_rfl).symm.trans hf) |>.symm
      obtain rfl : fn = Tryd.f8 := (Option.some.inj (Tryd.func8.symm.trans hfn)).symm
      exact ⟨by kernel_rfl, fun j t ht => by
        rw [Tryd.params8] at ht
        have hm : t ∈ [44, 45, 23] := by simpa using Array.mem_of_getElem? ht
        have hall : ([44, 45, 23].all fun u => !Tryd.prog.wantsStandIn u) = true := by kernel_rfl
        exact (show Tryd.prog.wantsStandIn t = false by simpa using List.all_eq_true.1 hall t hm)⟩)
    (by kernel_rfl)
#print axioms quadricPositive_card
end Go.Proofs.YtapppahniablmaaDoor
