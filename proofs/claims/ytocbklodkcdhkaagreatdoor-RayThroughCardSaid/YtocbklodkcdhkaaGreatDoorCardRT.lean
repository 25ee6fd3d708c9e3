/- RayThrough: the row and its tied card. -/
import Derived.Test.YtocbklodkcdhkaaGreatDoorFin
import Derived.Test.YtocbklodkcdhkaaGreatDoorRowT
import Derived.Test.YtocbklodkcdhkaaGreatDoorTie
import Derived.Test.YtocbklodkcdhkaaGreatDoorCards
namespace Go.Proofs.YtocbklodkcdhkaaGreatDoor
open Go.ChangeShapes Go.WideShapes Go.ChangeAt Go.RowKit
set_option maxRecDepth 100000

set_option maxHeartbeats 2000000 in
theorem rayThrough_lifted (os : Os) (started : os.Started) (H : Type) (enc : TypeId × Value → H) :
    ReturnsInHanded {} Tryz.checked os 3 .any (fun w args => (Rows.rayThroughSpec.pre enc Tryz.prog Tryz.f3 Rows.rayThroughRow.domain false w args ∧ laidMetH Tryz.prog Rows.rayThroughRow.laid w) ∧ sizedMet enc Tryz.prog Tryz.f3 (OpenSpec.ofChange Rows.rayThroughSpec) false w args)
      (Rows.rayThroughSpec.post enc Tryz.prog Tryz.f3 false true false false) := by
  refine returnsInHanded_of_change_and (C := Tryz.checked) (X := fun w _ => laidMetH Tryz.prog Rows.rayThroughRow.laid w) (fun _ _ _ hh h => h.of_heap hh) own started (by kernel_rfl) Tryz.func3
    (ChangeSpec.witness_shaped (enc := enc) (C := Tryz.checked) (os := os) (X := fun w _ => laidMetH Tryz.prog Rows.rayThroughRow.laid w) false (World.laidAll Tryz.prog os Rows.rayThroughRow.laid) #[.agg #[.int .i64 0, .int .i64 0, .int .i64 0, .int .i64 0, .int .i64 0, .int .i64 0, .int .i64 0], .int .u32 0, .agg #[.int .i64 0, .int .i64 0, .int .i64 0, .int .i64 0]] 8 (World.laidAll_os _ _ _)
      (World.shaped_of_ZipB (by kernel_rfl) (by kernel_rfl)) (by kernel_rfl) (by kernel_rfl) (by kernel_rfl)
      (by rw [MakeChecks.laidMetH_plain _ _ _ (by kernel_rfl)]; exact laidMet_laidAll _ (by kernel_rfl) (by kernel_rfl))) ?_
  intro W base args ds gs before hval0 hW _ _ _ _
  have hval : ∀ (j : Nat) t v, Tryz.f3.params[j]? = some t → args[j]? = some v → Value.okWide Tryz.prog W .any base t v := hval0
  have hW' := hW
  obtain ⟨p, q, hA0, hV, rfl, _, _⟩ := hW
  have hA : DataW.TrodAll enc Tryz.prog W 0 (fun _ => true) true Tryz.f3.params.toList args.toList ds p := hA0
  rw [Tryz.params3] at hA hval
  have hAk := hA
  obtain ⟨v0, v1, v2, d0, d1, d2, p0, p1, p2, rfl, rfl, rfl, h0, h1, h2⟩ := trodAll_three hA
  obtain ⟨rfl, rfl⟩ := trodVars_none hV
  obtain ⟨rx, ry, rz, rw, d0, d1, d2, rfl, hrx, hry, hrz, hrw, hd0, hd1, hd2⟩ := open_api_Ray (hval 0 24 v0 rfl rfl) h0
  obtain ⟨b, rfl, hb⟩ := open_u32 (hval 1 25 v1 rfl rfl) h1
  obtain ⟨e0, e1, e2, e3, rfl, he0, he1, he2, he3⟩ := open__4_int (hval 2 26 v2 rfl rfl) h2
  simp only [List.append_nil] at hW'
  have call := call_lawTh (b := b) csLawTh ⟨rx, ry, rz, rw, d0, d1, d2, hrx, hry, hrz, hrw, hd0, hd1, hd2⟩ ⟨e0, e1, e2, e3, he0, he1, he2, he3⟩ W
  have call : Calls Tryz.prog 3 #[.agg #[.int .i64 rx, .int .i64 ry, .int .i64 rz, .int .i64 rw, .int .i64 d0, .int .i64 d1, .int .i64 d2], .int .u32 b, .agg #[.int .i64 e0, .int .i64 e1, .int .i64 e2, .int .i64 e3]] W fun e w' => e = .returned (.bool true) ∧ Below W.heap.size W w' := call
  refine call.mono fun e W' ⟨he, hb⟩ => ?_
  subst he
  have hlt : ∀ x ∈ (p0 ++ p1 ++ p2), x.block < W.heap.size := fun x hx => by simpa using hW'.lt x (by simpa using hx)
  refine ⟨_, rfl, _, _, _, [], (p0 ++ p1 ++ p2), [], hW', trodAll_mk1 (shut_bool Tryz.underlying4 _), ?_, rfl, hb.frame _, fun h => by cases h⟩
  exact trodAll_stays hb hAk (by intro t ht; have ht : t ∈ [24, 25, 26] := ht; simp only [List.mem_cons, List.not_mem_nil, or_false] at ht; rcases ht with rfl | rfl | rfl <;> exact ⟨by kernel_rfl, of_decide_eq_true (by kernel_rfl)⟩) hlt (fun x hx => by simpa using hlt x hx)
theorem rayThrough_holds : Rows.RayThroughSaid :=
  OpenClaim.holds_of_wide 3 Tryz.f3 rfl rfl rfl rfl rfl rfl rfl ⟨rfl, rfl, rfl, rfl, rfl⟩ rfl rfl rfl rfl rfl (by kernel_rfl) Tryz.func3 (by kernel_rfl)
    (of_decide_eq_true (by kernel_rfl)) (by unfold Func.isWrapper; first | (rw [if_pos (by decide +kernel)]; kernel_rfl) | (rw [if_neg (by decide +kernel)]; exact ⟨rfl, rfl⟩))
    (fun os started H enc _ => rayThrough_lifted os started H enc)
theorem rayThrough_card : Rows.RayThroughCardSaid :=
  Claim7.holds_tied_plain_at .later [] [.data, .pinned] true (true, "c295ae3ea401394f27d47f1a725c8aa72f8cb68c2fa30181ce494b3fee9dea22") false rayThrough_holds (fun _ h => by cases h) (by kernel_rfl) (fun _ h => by cases h) rayThrough_row_tie rfl ⟨rfl, rfl⟩ (by kernel_rfl) rfl
    (fun f fn hf hfn => by
      obtain rfl : f = 3 := Option.some.inj ((show Tryz.prog.funcNamed "lithophane/lithophanelaw22.RayThrough" = some 3 by kernel_rfl).symm.trans hf) |>.symm
      obtain rfl : fn = Tryz.f3 := (Option.some.inj (Tryz.func3.symm.trans hfn)).symm
      exact ⟨by kernel_rfl, fun j t ht => by
        rw [Tryz.params3] at ht
        have hm : t ∈ [24, 25, 26] := by simpa using Array.mem_of_getElem? ht
        have hall : ([24, 25, 26].all fun u => !Tryz.prog.wantsStandIn u) = true := by kernel_rfl
        exact (show Tryz.prog.wantsStandIn t = false by simpa using List.all_eq_true.1 hall t hm)⟩)
    (by kernel_rfl)
#print axioms rayThrough_card
end Go.Proofs.YtocbklodkcdhkaaGreatDoor
