/- law 05: HealMoved called. -/
import Derived.Test.YtdjpbccaglkafaaDoorHM
import Derived.Test.YtdjpbccaglkafaaDoorRowH5
namespace Go.Proofs.YtdjpbccaglkafaaDoor
open Go.RowKit
set_option maxRecDepth 100000

theorem call_lawM {f : FuncId} (hf : CSpX Tryd.prog f cLawM) {v : C} {ty : TypeId} {fam : List Ent} {L : List LN} {a : Nat × Nat} (hv : okRw [.c v] [⟨.t ty, true, lnsC L, 0⟩, ⟨.x fam, true, [], 3⟩] v ty fam L) {b0 b1 b2 s : Int} (hb0 : IR b0) (hb1 : IR b1) (hb2 : IR b2) (hs : IR s) (w : World)
    (hr : w.rangeAt a.1 a.2 (cellsL (fun _ => a) (lnsC L))) (hfm : ∀ e ∈ fam, FamAt w.heap.size w false e) :
    Calls Tryd.prog f #[(SV.c v).den (fun _ => a), .agg #[.int .i64 b0, .int .i64 b1, .int .i64 b2], .int .i64 s] w fun e w' => e = .returned (.bool true) ∧ Below w.heap.size w w' := by
  obtain ⟨-, -, hv, hin⟩ := hv
  obtain ⟨u, fam2, e1, h1, h2, h3⟩ : ∃ (u : C) (fam2 : List Ent), (∀ ρ : Rho, (SV.c v).den (fun _ => a) = (SV.c u).den ρ) ∧ okRf u fam2 L ∧ (∀ p ∈ L, p.In fam2) ∧ ∀ e ∈ fam2, FamAt w.heap.size w false e := by
    rcases hv with ⟨nl, cap, hl, rfl⟩ | ⟨x, c, rfl, rfl⟩
    · by_cases h0 : L = []
      · subst h0
        exact ⟨.val (.slice (nlA nl ⟨a.1, a.2 + 0, none⟩) 0 cap), fam, fun _ => rfl, .inr ⟨_, _, rfl, rfl⟩, hin, hfm⟩
      · have hlen : 0 < L.length := List.length_pos_iff.2 h0
        obtain rfl := hl.pos hlen
        have hc0 : w.cell? ⟨a.1, a.2 + 0, none⟩ = some (L[0]).val := hr 0 _ (by rw [cellsL_lns, List.getElem?_map, List.getElem?_eq_getElem hlen]; rfl)
        obtain ⟨x, hx, hx2⟩ := cell_row hc0
        have hfa : FamAt w.heap.size w false ⟨a, lnsC L, 0, 0⟩ := ⟨lnsC_pure L, ⟨x, hx, hx2⟩, fun h => (by cases h), by
          show w.rangeAt a.1 a.2 (cellsL (fun _ => (0, 0)) (lnsC L))
          rw [show cellsL (fun _ => (0, 0)) (lnsC L) = cellsL (fun _ => a) (lnsC L) from lnsC_pure L _ _]; exact hr, fun _ => (Array.getElem?_eq_some_iff.1 hx).1⟩
        refine ⟨.val (.slice (some ⟨a.1, a.2, none⟩) L.length cap), fam ++ [⟨a, lnsC L, 0, 0⟩], fun _ => rfl, .inl ⟨a.1, a.2, cap, hl, rfl, InF.last⟩, fun p hp => (hin p hp).imp id InF.left, fun e he => ?_⟩
        rcases List.mem_append.1 he with he | he
        · exact hfm e he
        · rw [List.mem_singleton.1 he]; exact hfa
    · exact ⟨.val (.slice x 0 c), fam, fun _ => rfl, .inr ⟨_, _, rfl, rfl⟩, hin, hfm⟩
  have e2 : #[(SV.c v).den (fun _ => a), .agg #[.int .i64 b0, .int .i64 b1, .int .i64 b2], .int .i64 s] = (([.c u, .agg [.int b0 hb0, .int b1 hb1, .int b2 hb2], .c (.int s hs)] : List SV).map (SV.den fun _ => a)).toArray := by
    rw [e1 fun _ => a]; rfl
  rw [e2]
  refine (hf.2 _ [⟨.x fam2, true, [], 3⟩] (fun u _ => u = .c (.val (.bool true))) ⟨⟨_, _, _, _, _, _, _, _, _, _, _, rfl, rfl, h1, h2⟩, rfl⟩ ⟨⟨rfl, rfl⟩, trivial⟩ ⟨fun _ _ => rfl, trivial⟩ (fun _ => a) w (fun i c hi => ?_) (fun i b o l e hi hb he => ?_) (fun i b o l hi hb => ?_)).mono ?_
  · rcases i with _ | i <;> simp [nthO] at hi
    subst hi; exact fun j v h => by simp [cellsL] at h
  · rcases i with _ | i <;> simp [nthO] at hi
    subst hi; cases hb; exact h3 e he
  · rcases i with _ | i <;> simp [nthO] at hi
    subst hi; cases hb; rfl
  · rintro e w' ⟨u, news, σ, rfl, _, hh, _, he⟩
    exact ⟨he σ (Agr.refl _ _), hh.bel.below⟩
end Go.Proofs.YtdjpbccaglkafaaDoor
