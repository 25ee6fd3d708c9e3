/- ViewFits: the row and its tied card. -/
import Derived.Test.YthmdmbpecgakkaaDoorVW7
import Derived.Test.YthmdmbpecgakkaaDoorRowV1
import Derived.Test.YthmdmbpecgakkaaDoorTie
import Derived.Test.YthmdmbpecgakkaaDoorCards
namespace Go.Proofs.YthmdmbpecgakkaaDoor
open Go.ChangeShapes Go.WideShapes Go.ChangeAt Go.RowKit
set_option maxRecDepth 100000

set_option maxHeartbeats 2000000 in
theorem viewFits_lifted (os : Os) (started : os.Started) (H : Type) (enc : TypeId × Value → H) :
  ReturnsInHanded {} Tryd.checked os 3 .any (fun w args => (Rows.viewFitsSpec.pre enc Tryd.prog Tryd.f3 Rows.viewFitsRow.domain false w args ∧ laidMetH Tryd.prog Rows.viewFitsRow.laid w) ∧ sizedMet enc Tryd.prog Tryd.f3 (OpenSpec.ofChange Rows.viewFitsSpec) false w args)
   (Rows.viewFitsSpec.post enc Tryd.prog Tryd.f3 false true false false) := by
 refine returnsInHanded_of_change_and (C := Tryd.checked) (X := fun w _ => laidMetH Tryd.prog Rows.viewFitsRow.laid w) (fun _ _ _ hh h => h.of_heap hh) own started (by kernel_rfl) Tryd.func3
  (ChangeSpec.witness_shaped (enc := enc) (C := Tryd.checked) (os := os) (X := fun w _ => laidMetH Tryd.prog Rows.viewFitsRow.laid w) false (World.laidAll Tryd.prog os Rows.viewFitsRow.laid) #[.agg #[.int .i64 0, .int .i64 0, .int .i64 0, .int .i64 0, .int .i64 0], .agg #[.int .i64 0, .int .i64 0, .int .i64 0, .int .i64 0, .int .i64 0, .int .i64 0], .int .i64 0] 8 (World.laidAll_os _ _ _)
   (World.shaped_of_ZipB (by kernel_rfl) (by kernel_rfl)) (by kernel_rfl) (by kernel_rfl) (by kernel_rfl)
   (by rw [MakeChecks.laidMetH_plain _ _ _ (by kernel_rfl)]; exact laidMet_laidAll _ (by kernel_rfl) (by kernel_rfl))) ?_
 intro W base args ds gs before hval0 hW _ _ _ _
 have hval : ∀ (j : Nat) t v, Tryd.f3.params[j]? = some t → args[j]? = some v → Value.okWide Tryd.prog W .any base t v := hval0
 have hW' := hW
 obtain ⟨p, q, hA0, hV, rfl, _, _⟩ := hW
 have hA : DataW.TrodAll enc Tryd.prog W 0 (fun _ => true) true Tryd.f3.params.toList args.toList ds p := hA0
 rw [Tryd.params3] at hA hval
 have hAk := hA
 obtain ⟨v0, v1, v2, d0, d1, d2, p0, p1, p2, rfl,rfl,rfl, h0, h1, h2⟩ := trodAll_three hA
 obtain ⟨rfl, rfl⟩ := trodVars_none hV
 obtain ⟨ex, ey, ez, f, p, rfl, hex, hey, hez, hf, hp⟩ := open_api_View (hval 0 25 v0 rfl rfl) h0
 obtain ⟨lx, ly, lz, hx, hy, hz, rfl, hlx, hly, hlz, hhx, hhy, hhz⟩ := open__2_api_Point (hval 1 26 v1 rfl rfl) h1
 obtain ⟨err, rfl, herr⟩ := open_int (hval 2 3 v2 rfl rfl) h2
 simp only [List.append_nil] at hW'
 have call := (spLFits.2 [.agg [.int ex hex, .int ey hey, .int ez hez, .int f hf, .int p hp], .agg [.int lx hlx, .int ly hly, .int lz hlz, .int hx hhx, .int hy hhy, .int hz hhz], .c (.int err herr)] none _ rfl).2 (fun _ h => by cases h) (fun _ => (0, 0)) W
 have call : Calls Tryd.prog 3 #[.agg #[.int .i64 ex, .int .i64 ey, .int .i64 ez, .int .i64 f, .int .i64 p], .agg #[.int .i64 lx, .int .i64 ly, .int .i64 lz, .int .i64 hx, .int .i64 hy, .int .i64 hz], .int .i64 err] W fun e w' => e = .returned (.bool true) ∧ Below W.heap.size W w' := call
 refine call.mono fun e W' ⟨he, hb⟩ => ?_
 subst he
 have hlt : ∀ x ∈ (p0 ++ p1 ++ p2), x.block < W.heap.size := fun x hx => by simpa using hW'.lt x (by simpa using hx)
 refine ⟨_, rfl, _, _, _, [], (p0 ++ p1 ++ p2), [], hW', trodAll_mk1 (shut_bool Tryd.underlying4 _), ?_, rfl, hb.frame _, fun h => by cases h⟩
 exact trodAll_stays hb hAk (by intro t ht; have ht : t ∈ [25, 26, 3] := ht; simp only [List.mem_cons, List.not_mem_nil, or_false] at ht; rcases ht with rfl | rfl | rfl <;> exact ⟨by kernel_rfl, of_decide_eq_true (by kernel_rfl)⟩) hlt (fun x hx => by simpa using hlt x hx)
theorem viewFits_holds : Rows.ViewFitsSaid :=
 OpenClaim.holds_of_wide 3 Tryd.f3 rfl rfl rfl rfl rfl rfl rfl ⟨rfl,rfl,rfl,rfl,rfl⟩ rfl rfl rfl rfl rfl (by kernel_rfl) Tryd.func3 (by kernel_rfl)
  (of_decide_eq_true (by kernel_rfl)) (by unfold Func.isWrapper; first | (rw [if_pos (by decide +kernel)]; kernel_rfl) | (rw [if_neg (by decide +kernel)]; exact ⟨rfl, rfl⟩))
  (fun os started H enc _ => viewFits_lifted os started H enc)
theorem viewFits_card : Rows.ViewFitsCardSaid :=
 Claim7.holds_tied_plain_at .later [] [.data, .pinned] true (true, "e641d3e620d2b511089d7a786f9b5fdadfd27b093520904a4c31a40b1fd51229") false viewFits_holds (fun _ h => by cases h) (by kernel_rfl) (fun _ h => by cases h) viewFits_row_tie rfl ⟨rfl, rfl⟩ (by kernel_rfl) rfl
  (fun f fn hf hfn => by
   obtain rfl : f = 3 := Option.some.inj ((show Tryd.prog.funcNamed "lithophane/lithophanelaw24.ViewFits" = some 3 by kernel_rfl).symm.trans hf) |>.symm
   obtain rfl : fn = Tryd.f3 := (Option.some.inj (Tryd.func3.symm.trans hfn)).symm
   exact ⟨by kernel_rfl, fun j t ht => by
    rw [Tryd.params3] at ht
    have hm : t ∈ [25, 26, 3] := by simpa using Array.mem_of_getElem? ht
    have hall : ([25, 26, 3].all fun u => !Tryd.prog.wantsStandIn u) = true := by kernel_rfl
    exact (show Tryd.prog.wantsStandIn t = false by simpa using List.all_eq_true.1 hall t hm)⟩)
  (by kernel_rfl)
#print axioms viewFits_card
end Go.Proofs.YthmdmbpecgakkaaDoor
