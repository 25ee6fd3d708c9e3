/- ViewMore: the row and its tied card. -/
import Derived.Test.YthmdmbpecgakkaaDoorVW9
import Derived.Test.YthmdmbpecgakkaaDoorRowV1
import Derived.Test.YthmdmbpecgakkaaDoorTie
import Derived.Test.YthmdmbpecgakkaaDoorCards
namespace Go.Proofs.YthmdmbpecgakkaaDoor
open Go.ChangeShapes Go.WideShapes Go.ChangeAt Go.RowKit
set_option maxRecDepth 100000

set_option maxHeartbeats 2000000 in
theorem viewMore_lifted (os : Os) (started : os.Started) (H : Type) (enc : TypeId × Value → H) :
  ReturnsInHanded {} Tryd.checked os 5 .any (fun w args => (Rows.viewMoreSpec.pre enc Tryd.prog Tryd.f5 Rows.viewMoreRow.domain false w args ∧ laidMetH Tryd.prog Rows.viewMoreRow.laid w) ∧ sizedMet enc Tryd.prog Tryd.f5 (OpenSpec.ofChange Rows.viewMoreSpec) false w args)
   (Rows.viewMoreSpec.post enc Tryd.prog Tryd.f5 false true false false) := by
 refine returnsInHanded_of_change_and (C := Tryd.checked) (X := fun w _ => laidMetH Tryd.prog Rows.viewMoreRow.laid w) (fun _ _ _ hh h => h.of_heap hh) own started (by kernel_rfl) Tryd.func5
  (ChangeSpec.witness_shaped (enc := enc) (C := Tryd.checked) (os := os) (X := fun w _ => laidMetH Tryd.prog Rows.viewMoreRow.laid w) false (World.laidAll Tryd.prog os Rows.viewMoreRow.laid) #[.agg #[.int .i64 0, .int .i64 0, .int .i64 0, .int .i64 0, .int .i64 0], .int .i64 0, .agg #[.int .u8 0, .int .u8 0, .int .u8 0, .int .u8 0]] 8 (World.laidAll_os _ _ _)
   (World.shaped_of_ZipB (by kernel_rfl) (by kernel_rfl)) (by kernel_rfl) (by kernel_rfl) (by kernel_rfl)
   (by rw [MakeChecks.laidMetH_plain _ _ _ (by kernel_rfl)]; exact laidMet_laidAll _ (by kernel_rfl) (by kernel_rfl))) ?_
 intro W base args ds gs before hval0 hW _ _ _ _
 have hval : ∀ (j : Nat) t v, Tryd.f5.params[j]? = some t → args[j]? = some v → Value.okWide Tryd.prog W .any base t v := hval0
 have hW' := hW
 obtain ⟨p, q, hA0, hV, rfl, _, _⟩ := hW
 have hA : DataW.TrodAll enc Tryd.prog W 0 (fun _ => true) true Tryd.f5.params.toList args.toList ds p := hA0
 rw [Tryd.params5] at hA hval
 have hAk := hA
 obtain ⟨v0, v1, v2, d0, d1, d2, p0, p1, p2, rfl,rfl,rfl, h0, h1, h2⟩ := trodAll_three hA
 obtain ⟨rfl, rfl⟩ := trodVars_none hV
 obtain ⟨q0, q1, q2, q3, q4, rfl, hq0, hq1, hq2, hq3, hq4⟩ := open__5_int (hval 0 33 v0 rfl rfl) h0
 obtain ⟨err, rfl, herr⟩ := open_int (hval 1 3 v1 rfl rfl) h1
 obtain ⟨a, b, c, d, rfl, ha, hb, hc, hd⟩ := open__4_uint8 (hval 2 34 v2 rfl rfl) h2
 simp only [List.append_nil] at hW'
 have call := (spLMore.2 [.agg [.int q0 hq0, .int q1 hq1, .int q2 hq2, .int q3 hq3, .int q4 hq4], .c (.int err herr), .agg [.val (.int .u8 a), .val (.int .u8 b), .val (.int .u8 c), .val (.int .u8 d)]] none _ (if_pos ⟨ha, hb, hc, hd⟩)).2 (fun _ h => by cases h) (fun _ => (0, 0)) W
 have call : Calls Tryd.prog 5 #[.agg #[.int .i64 q0, .int .i64 q1, .int .i64 q2, .int .i64 q3, .int .i64 q4], .int .i64 err, .agg #[.int .u8 a, .int .u8 b, .int .u8 c, .int .u8 d]] W fun e w' => e = .returned (.bool true) ∧ Below W.heap.size W w' := call
 refine call.mono fun e W' ⟨he, hb⟩ => ?_
 subst he
 have hlt : ∀ x ∈ (p0 ++ p1 ++ p2), x.block < W.heap.size := fun x hx => by simpa using hW'.lt x (by simpa using hx)
 refine ⟨_, rfl, _, _, _, [], (p0 ++ p1 ++ p2), [], hW', trodAll_mk1 (shut_bool Tryd.underlying4 _), ?_, rfl, hb.frame _, fun h => by cases h⟩
 exact trodAll_stays hb hAk (by intro t ht; have ht : t ∈ [33, 3, 34] := ht; simp only [List.mem_cons, List.not_mem_nil, or_false] at ht; rcases ht with rfl | rfl | rfl <;> exact ⟨by kernel_rfl, of_decide_eq_true (by kernel_rfl)⟩) hlt (fun x hx => by simpa using hlt x hx)
theorem viewMore_holds : Rows.ViewMoreSaid :=
 OpenClaim.holds_of_wide 5 Tryd.f5 rfl rfl rfl rfl rfl rfl rfl ⟨rfl,rfl,rfl,rfl,rfl⟩ rfl rfl rfl rfl rfl (by kernel_rfl) Tryd.func5 (by kernel_rfl)
  (of_decide_eq_true (by kernel_rfl)) (by unfold Func.isWrapper; first | (rw [if_pos (by decide +kernel)]; kernel_rfl) | (rw [if_neg (by decide +kernel)]; exact ⟨rfl, rfl⟩))
  (fun os started H enc _ => viewMore_lifted os started H enc)
theorem viewMore_card : Rows.ViewMoreCardSaid :=
 Claim7.holds_tied_plain_at .later [] [.data, .pinned] true (true, "e641d3e620d2b511089d7a786f9b5fdadfd27b093520904a4c31a40b1fd51229") false viewMore_holds (fun _ h => by cases h) (by kernel_rfl) (fun _ h => by cases h) viewMore_row_tie rfl ⟨rfl, rfl⟩ (by kernel_rfl) rfl
  (fun f fn hf hfn => by
   obtain rfl : f = 5 := Option.some.inj ((show Tryd.prog.funcNamed "lithophane/lithophanelaw24.ViewMore" = some 5 by kernel_rfl).symm.trans hf) |>.symm
   obtain rfl : fn = Tryd.f5 := (Option.some.inj (Tryd.func5.symm.trans hfn)).symm
   exact ⟨by kernel_rfl, fun j t ht => by
    rw [Tryd.params5] at ht
    have hm : t ∈ [33, 3, 34] := by simpa using Array.mem_of_getElem? ht
    have hall : ([33, 3, 34].all fun u => !Tryd.prog.wantsStandIn u) = true := by kernel_rfl
    exact (show Tryd.prog.wantsStandIn t = false by simpa using List.all_eq_true.1 hall t hm)⟩)
  (by kernel_rfl)
#print axioms viewMore_card
end Go.Proofs.YthmdmbpecgakkaaDoor
