/- law 05: HealOrder. -/
import Derived.Test.YtdjpbccaglkafaaDoorHQ
import Derived.Test.YtdjpbccaglkafaaDoorHCp
import Derived.Test.YtdjpbccaglkafaaDoorSxThw
namespace Go.Proofs.YtdjpbccaglkafaaDoor
open Go.RowKit
set_option maxRecDepth 100000

def okR1 (b : Nat) (v : C) (L : List LN) : Prop := (∃ (nl : Bool) (cap : Nat) (hl : SliOk nl L.length cap), v = .sli nl b 0 L.length cap hl) ∨ ∃ a c, v = .val (.slice a 0 c) ∧ L = []
def okRR (args : List SV) (ros : List Blk) (v1 v2 : C) (t1 t2 : TypeId) (fam : List Ent) (L M : List LN) : Prop := args = [.c v1, .c v2] ∧ ros = [⟨.t t1, true, lnsC L, 0⟩, ⟨.t t2, true, lnsC M, 0⟩, ⟨.x fam, true, [], 3⟩] ∧ okR1 0 v1 L ∧ okR1 1 v2 M ∧ (∀ p ∈ L, p.In fam) ∧ ∀ p ∈ M, p.In fam
def cLawRR : NewC := fun args ros K => (∃ v1 v2 t1 t2 fam L M, okRR args ros v1 v2 t1 t2 fam L M) ∧ K (.c (.val (.bool true))) []
def hLO (x l : List (FuncId × NewC)) (E : Env) := hsm (hmrg (hLX x l E))
theorem hLO_ok {x l : List (FuncId × NewC)} (hx : AllX Tryd.prog x) (hl : AllC Tryd.prog l) {E : Env} (hE : EOk Tryd.prog E) : HOk Tryd.prog (hLO x l E) := hsm_ok (hmrg_ok (hLX_ok hx hl hE))
def envO : Env := { envL 0 with ord := fun id => Nat.beq id 3 }
theorem envO_ok : EOk Tryd.prog envO := ⟨(envL_ok 0).T, (envL_ok 0).D, (envL_ok 0).O, (envL_ok 0).R⟩
def oyE : OY := ⟨[], false, 0, by unfold SliOk; decide⟩
theorem OY.src (o : OY) : subC o.blk.cs 0 (o.l.length * 2) = some (pysC o.l) := by
  have h := subC_app [] (pysC o.l) []
  rw [pysC_size, List.append_nil, List.nil_append, Nat.mul_comm] at h
  exact h
theorem sameB (b : Blk) : b.ty = b.ty ∧ b.ro = b.ro ∧ b.tl = b.tl ∧ ∀ ρ, cellsL ρ b.cs = cellsL ρ b.cs := ⟨rfl, rfl, rfl, fun _ => rfl⟩
theorem app_tl {l : List PY} {x : Bool} (c2 : Nat) (k2 : SliOk x (0 + l.length) c2) : sizeC ([] ++ pysC l) + (c2 - (0 + l.length)) * 2 = c2 * 2 := by
  have := k2.1
  rw [List.nil_append, pysC_size]; omega
theorem ok_app {l m : List PY} {x y : Bool} {c : Nat} (h : SliOk ((false && x) && y) (0 + l.length + m.length) c) : SliOk false (l ++ m).length c := by
  rw [List.length_append]; rw [Nat.zero_add] at h; exact h
theorem app_sl {l m : List PY} {x y : Bool} {c b : Nat} {h : SliOk ((false && x) && y) (0 + l.length + m.length) c} (ρ : Rho) : (SV.c (.sli ((false && x) && y) b 0 (0 + l.length + m.length) c h)).den ρ = ((⟨l ++ m, false, c, ok_app h⟩ : OY).sl b).den ρ := by
  simp only [OY.sl, SV.den, C.den, C.cells, List.length_append, Nat.zero_add, Bool.false_and]
theorem app_blk {l m : List PY} {x y : Bool} {c : Nat} {h : SliOk ((false && x) && y) (0 + l.length + m.length) c} : (31 : TyX) = (⟨l ++ m, false, c, ok_app h⟩ : OY).blk.ty ∧ ((false && x) && y) = (⟨l ++ m, false, c, ok_app h⟩ : OY).blk.ro ∧ (c - (0 + l.length + m.length)) * 2 = (⟨l ++ m, false, c, ok_app h⟩ : OY).blk.tl ∧ ∀ ρ, cellsL ρ (([] ++ pysC l) ++ pysC m) = cellsL ρ (⟨l ++ m, false, c, ok_app h⟩ : OY).blk.cs := by
  refine ⟨rfl, rfl, ?_, fun ρ => ?_⟩
  · show _ = (c - (l ++ m).length) * 2
    rw [List.length_append, Nat.zero_add]
  · show _ = cellsL ρ (pysC (l ++ m))
    rw [pysC_append, List.nil_append]
theorem min_15 (n : Nat) : minI (n : Int) 15 = ((min n 15 : Nat) : Int) := by unfold minI; split <;> omega
set_option maxHeartbeats 16000000 in
theorem csOr : CSpX Tryd.prog 9 cLawRR := csp_ofX envO_ok mixed (hLO_ok plX_ok lawC_ok envO_ok) ⟨Tryd.func9, by kernel_rfl, by kernel_rfl⟩ fun args ros K hc => by
  obtain ⟨⟨v1, v2, t1, t2, fam, L, M, rfl, rfl, ⟨nl, cap, hl, rfl⟩ | ⟨a, c, rfl, rfl⟩, ⟨nm, cam, hm, rfl⟩ | ⟨b, d, rfl, rfl⟩, hinL, hinM⟩, hc⟩ := hc
  · refine ⟨fun ρ ρ' e => ?_, ?_⟩
    · have e0 := e 0 (Nat.zero_lt_succ _)
      have e1 := e 1 (Nat.succ_lt_succ (Nat.zero_lt_succ _))
      simp only [List.map, SV.den, C.den, C.cells, e0, e1]
    conv => whnf
    refine .inl ?_
    conv => whnf
    refine .inl ?_
    conv => whnf
    refine .inl ?_
    conv => whnf
    refine .inl ?_
    conv => whnf
    refine ⟨trivial, ⟨rfl, rfl, ?_⟩⟩
    conv => whnf
    conv =>
      arg 2
      tactic' =>
        apply eff_slice_hi (k := min L.length 15) (hi := ir_m (Nat.min_le_right _ _) (by decide)) (h2 := sliOk_le2 hl (Nat.min_le_left _ _)) (ho := ?how25) (hT := ?hTw25) (hx := ?hxw25) (hk := ?hkw25) (hlt := ?hltw25)
        case how25 => rfl
        case hTw25 => rfl
        case hxw25 => rfl
        case hkw25 => exact cint (min_15 _) _
        case hltw25 => exact Nat.le_trans (Nat.min_le_left _ _) hl.1
    conv => whnf
    refine .inl ?_
    conv => whnf
    refine .inl ?_
    conv => whnf
    refine .inl ?_
    conv => whnf
    refine .inl ?_
    conv => whnf
    refine ⟨2, ?_⟩
    conv => whnf
    refine ⟨.inr rfl, ⟨lnsC_pure L, trivial⟩, .inl ⟨_, _, _, _, _, L, _, rfl, rfl, Nat.min_le_left _ _, hinL, fun o1 f1 hI1 => ?_⟩⟩
    conv => whnf
    conv =>
      arg 2
      tactic' =>
        apply eff_slice_hi (k := min M.length 15) (hi := ir_m (Nat.min_le_right _ _) (by decide)) (h2 := sliOk_le2 hm (Nat.min_le_left _ _)) (ho := ?how26) (hT := ?hTw26) (hx := ?hxw26) (hk := ?hkw26) (hlt := ?hltw26)
        case how26 => rfl
        case hTw26 => rfl
        case hxw26 => rfl
        case hkw26 => exact cint (min_15 _) _
        case hltw26 => exact Nat.le_trans (Nat.min_le_left _ _) hm.1
    conv => whnf
    refine ⟨?_, trivial⟩
    conv => whnf
    refine ⟨?_, trivial⟩
    conv => whnf
    refine .inl ?_
    conv => whnf
    refine .inl ?_
    conv => whnf
    conv =>
      arg 2
      tactic' => exact OY.src o1
    conv => whnf
    refine ⟨allOne_pys _, ?_⟩
    conv => whnf
    refine ⟨⟨rfl, rfl, rfl, fun _ => rfl, by have := hI1.len; have := hI1.k2; omega⟩, fun c2 k2 => ?_⟩
    conv => whnf
    refine .inl ?_
    conv => whnf
    refine .inl ?_
    conv => whnf
    refine .inl ?_
    conv => whnf
    refine .inl ?_
    conv => whnf
    refine ⟨2, ?_⟩
    conv => whnf
    refine ⟨.inr rfl, ⟨lnsC_pure M, trivial⟩, .inl ⟨_, _, _, _, _, M, _, rfl, rfl, Nat.min_le_left _ _, hinM, fun o2 f2 hI2 => ?_⟩⟩
    conv => whnf
    refine .inl ?_
    conv => whnf
    refine .inl ?_
    conv => whnf
    conv =>
      arg 2
      tactic' => exact OY.src o2
    conv => whnf
    refine ⟨allOne_pys _, ?_⟩
    conv => whnf
    refine ⟨⟨rfl, rfl, by rw [List.nil_append, pysC_size]; omega, fun _ => app_tl c2 k2, by have := hI1.len; have := hI1.k2; have := hI2.len; have := hI2.k2; omega⟩, fun c3 k3 => ?_⟩
    conv => whnf
    refine .inl ?_
    conv => whnf
    refine .inl ?_
    conv => whnf
    refine .inl ?_
    conv => whnf
    refine .inl ?_
    conv => whnf
    refine ⟨4, ?_⟩
    conv => whnf
    refine ⟨.inl rfl, ⟨pysC_pure o1.l, trivial⟩, ⟨_, _, _, _, o1.l, _, rfl, rfl, ⟨by have := hI1.len; have := hI1.k2; omega, fun p hp => ⟨Nat.le_trans (hI1.ps p hp).1 (by decide), (hI1.ps p hp).2⟩⟩, fun t f ht hf => ?_⟩⟩
    conv => whnf
    obtain ⟨oB, hoB⟩ : ∃ oB : OY, oB = ⟨o1.l ++ o2.l, false, c3, ok_app k3⟩ := ⟨_, rfl⟩
    refine .inr ⟨[oB.sl 9], [_, _, _, _, _, _, _, _, _, oB.blk, _, _], ⟨fun ρ => by subst hoB; exact app_sl ρ, trivial⟩, ⟨sameB _, sameB _, sameB _, sameB _, sameB _, sameB _, sameB _, sameB _, sameB _, by subst hoB; exact app_blk (h := k3), sameB _, sameB _, trivial⟩, ?_⟩
    conv => whnf
    refine .inr ⟨4, 8, ?_⟩
    conv => whnf
    refine .inl ?_
    conv => whnf
    refine .inl ?_
    conv => whnf
    refine ⟨4, ?_⟩
    conv => whnf
    refine ⟨.inl rfl, ⟨pysC_pure oB.l, trivial⟩, ⟨_, _, _, _, oB.l, _, rfl, rfl, ⟨by subst hoB; show (o1.l ++ o2.l).length ≤ _; rw [List.length_append]; have := hI1.len; have := hI1.k2; have := hI2.len; have := hI2.k2; omega, fun p hp => by subst hoB; rcases List.mem_append.1 hp with hp | hp; exact ⟨Nat.le_trans (hI1.ps p hp).1 (by decide), (hI1.ps p hp).2.imp id InF.left⟩; exact ⟨Nat.le_trans (hI2.ps p hp).1 (by decide), (hI2.ps p hp).2.imp id InF.right⟩⟩, fun u g hu hg => ?_⟩⟩
    rw [show oB.l = o1.l ++ o2.l by rw [hoB]] at hu hg
    obtain ⟨⟨xs, hxs⟩, ⟨ys, hys⟩⟩ := heal_app o1.l o2.l
    rw [← ht] at hxs; rw [← hf] at hys; rw [hxs] at hu; rw [hys] at hg
    have hlu : t.l.length ≤ u.l.length := by rw [hu, List.length_append]; omega
    have hlg : f.l.length ≤ g.l.length := by rw [hg, List.length_append]; omega
    have htu : u.l.take t.l.length = t.l := by rw [hu]; exact List.take_left
    have hfg : g.l.take f.l.length = f.l := by rw [hg]; exact List.take_left
    conv => whnf
    refine bcase_intro (fun _ => ?_) (fun h => absurd h (by rw [decide_eq_true (by omega)]; decide))
    conv => whnf
    refine bcase_intro (fun _ => ?_) (fun h => absurd h (by rw [decide_eq_true (by omega)]; decide))
    conv => whnf
    conv =>
      arg 2
      tactic' =>
        apply eff_slice_hi (k := t.l.length) (hi := t.ok.ir) (h2 := sliOk_le2 u.ok (hlu)) (ho := ?how27) (hT := ?hTw27) (hx := ?hxw27) (hk := ?hkw27) (hlt := ?hltw27)
        case how27 => rfl
        case hTw27 => rfl
        case hxw27 => rfl
        case hkw27 => rfl
        case hltw27 => exact Nat.le_trans (hlu) u.ok.1
    conv => whnf
    refine .inl ?_
    conv => whnf
    refine .inl ?_
    conv => whnf
    refine .inl ?_
    conv => whnf
    refine .inl ?_
    conv => whnf
    refine ⟨⟨trsC_pure _, trsC_pure _, trivial⟩, ⟨_, _, _, _, _, _, _, _, _, _, u.l, t.l, true, rfl, rfl, hlu, Nat.le_refl _, (by rw [htu, List.take_length]; exact eqTs_iff.2 rfl), ?_⟩⟩
    conv => whnf
    conv =>
      arg 2
      tactic' =>
        apply eff_slice_hi (k := f.l.length) (hi := f.ok.ir) (h2 := sliOk_le2 g.ok (hlg)) (ho := ?how28) (hT := ?hTw28) (hx := ?hxw28) (hk := ?hkw28) (hlt := ?hltw28)
        case how28 => rfl
        case hTw28 => rfl
        case hxw28 => rfl
        case hkw28 => rfl
        case hltw28 => exact Nat.le_trans (hlg) g.ok.1
    conv => whnf
    refine .inl ?_
    conv => whnf
    refine .inl ?_
    conv => whnf
    refine .inl ?_
    conv => whnf
    refine .inl ?_
    conv => whnf
    refine ⟨⟨ftsC_pure _, ftsC_pure _, trivial⟩, ⟨_, _, _, _, _, _, _, _, _, _, g.l, f.l, true, rfl, rfl, hlg, Nat.le_refl _, (by rw [hfg, List.take_length]; exact eqFs_iff.2 rfl), ?_⟩⟩
    conv => whnf
    refine ⟨[0, 1, 2], [0, 1], fun _ => ?_⟩
    conv => whnf
    refine ⟨lnsC_pure L, lnsC_pure M, ?_⟩
    conv => whnf
    exact ⟨_, [], rfl, ⟨⟨rfl, rfl, rfl, fun _ => rfl⟩, ⟨rfl, rfl, rfl, fun _ => rfl⟩, ⟨rfl, rfl, rfl, fun _ => rfl⟩, trivial⟩, trivial, _, fun _ => rfl, hc⟩
  · refine ⟨fun ρ ρ' e => ?_, ?_⟩
    · have e0 := e 0 (Nat.zero_lt_succ _)
      simp only [List.map, SV.den, C.den, C.cells, e0]
    conv => whnf
    refine .inl ?_
    conv => whnf
    refine .inl ?_
    conv => whnf
    refine .inl ?_
    conv => whnf
    refine .inl ?_
    conv => whnf
    refine ⟨trivial, ⟨rfl, rfl, ?_⟩⟩
    conv => whnf
    conv =>
      arg 2
      tactic' =>
        apply eff_slice_hi (k := min L.length 15) (hi := ir_m (Nat.min_le_right _ _) (by decide)) (h2 := sliOk_le2 hl (Nat.min_le_left _ _)) (ho := ?how29) (hT := ?hTw29) (hx := ?hxw29) (hk := ?hkw29) (hlt := ?hltw29)
        case how29 => rfl
        case hTw29 => rfl
        case hxw29 => rfl
        case hkw29 => exact cint (min_15 _) _
        case hltw29 => exact Nat.le_trans (Nat.min_le_left _ _) hl.1
    conv => whnf
    refine .inl ?_
    conv => whnf
    refine .inl ?_
    conv => whnf
    refine .inl ?_
    conv => whnf
    refine .inl ?_
    conv => whnf
    refine ⟨2, ?_⟩
    conv => whnf
    refine ⟨.inr rfl, ⟨lnsC_pure L, trivial⟩, .inl ⟨_, _, _, _, _, L, _, rfl, rfl, Nat.min_le_left _ _, hinL, fun o1 f1 hI1 => ?_⟩⟩
    conv => whnf
    refine ⟨?_, trivial⟩
    conv => whnf
    refine ⟨?_, trivial⟩
    conv => whnf
    refine .inl ?_
    conv => whnf
    refine .inl ?_
    conv => whnf
    conv =>
      arg 2
      tactic' => exact OY.src o1
    conv => whnf
    refine ⟨allOne_pys _, ?_⟩
    conv => whnf
    refine ⟨⟨rfl, rfl, rfl, fun _ => rfl, by have := hI1.len; have := hI1.k2; omega⟩, fun c2 k2 => ?_⟩
    conv => whnf
    refine .inl ?_
    conv => whnf
    refine .inl ?_
    conv => whnf
    refine .inl ?_
    conv => whnf
    refine .inl ?_
    conv => whnf
    refine ⟨2, ?_⟩
    conv => whnf
    refine ⟨.inr rfl, trivial, .inr ⟨_, _, _, rfl, rfl, fun o2 f2 hI2 => ?_⟩⟩
    conv => whnf
    refine .inl ?_
    conv => whnf
    refine .inl ?_
    conv => whnf
    conv =>
      arg 2
      tactic' => exact OY.src o2
    conv => whnf
    refine ⟨allOne_pys _, ?_⟩
    conv => whnf
    refine ⟨⟨rfl, rfl, by rw [List.nil_append, pysC_size]; omega, fun _ => app_tl c2 k2, by have := hI1.len; have := hI1.k2; have := hI2.len; have := hI2.k2; omega⟩, fun c3 k3 => ?_⟩
    conv => whnf
    refine .inl ?_
    conv => whnf
    refine .inl ?_
    conv => whnf
    refine .inl ?_
    conv => whnf
    refine .inl ?_
    conv => whnf
    refine ⟨4, ?_⟩
    conv => whnf
    refine ⟨.inl rfl, ⟨pysC_pure o1.l, trivial⟩, ⟨_, _, _, _, o1.l, _, rfl, rfl, ⟨by have := hI1.len; have := hI1.k2; omega, fun p hp => ⟨Nat.le_trans (hI1.ps p hp).1 (by decide), (hI1.ps p hp).2⟩⟩, fun t f ht hf => ?_⟩⟩
    conv => whnf
    obtain ⟨oB, hoB⟩ : ∃ oB : OY, oB = ⟨o1.l ++ o2.l, false, c3, ok_app k3⟩ := ⟨_, rfl⟩
    refine .inr ⟨[oB.sl 9], [_, _, _, _, _, _, _, _, _, oB.blk, _, _], ⟨fun ρ => by subst hoB; exact app_sl ρ, trivial⟩, ⟨sameB _, sameB _, sameB _, sameB _, sameB _, sameB _, sameB _, sameB _, sameB _, by subst hoB; exact app_blk (h := k3), sameB _, sameB _, trivial⟩, ?_⟩
    conv => whnf
    refine .inr ⟨4, 8, ?_⟩
    conv => whnf
    refine .inl ?_
    conv => whnf
    refine .inl ?_
    conv => whnf
    refine ⟨4, ?_⟩
    conv => whnf
    refine ⟨.inl rfl, ⟨pysC_pure oB.l, trivial⟩, ⟨_, _, _, _, oB.l, _, rfl, rfl, ⟨by subst hoB; show (o1.l ++ o2.l).length ≤ _; rw [List.length_append]; have := hI1.len; have := hI1.k2; have := hI2.len; have := hI2.k2; omega, fun p hp => by subst hoB; rcases List.mem_append.1 hp with hp | hp; exact ⟨Nat.le_trans (hI1.ps p hp).1 (by decide), (hI1.ps p hp).2.imp id InF.left⟩; exact ⟨Nat.le_trans (hI2.ps p hp).1 (by decide), (hI2.ps p hp).2.imp id InF.right⟩⟩, fun u g hu hg => ?_⟩⟩
    rw [show oB.l = o1.l ++ o2.l by rw [hoB]] at hu hg
    obtain ⟨⟨xs, hxs⟩, ⟨ys, hys⟩⟩ := heal_app o1.l o2.l
    rw [← ht] at hxs; rw [← hf] at hys; rw [hxs] at hu; rw [hys] at hg
    have hlu : t.l.length ≤ u.l.length := by rw [hu, List.length_append]; omega
    have hlg : f.l.length ≤ g.l.length := by rw [hg, List.length_append]; omega
    have htu : u.l.take t.l.length = t.l := by rw [hu]; exact List.take_left
    have hfg : g.l.take f.l.length = f.l := by rw [hg]; exact List.take_left
    conv => whnf
    refine bcase_intro (fun _ => ?_) (fun h => absurd h (by rw [decide_eq_true (by omega)]; decide))
    conv => whnf
    refine bcase_intro (fun _ => ?_) (fun h => absurd h (by rw [decide_eq_true (by omega)]; decide))
    conv => whnf
    conv =>
      arg 2
      tactic' =>
        apply eff_slice_hi (k := t.l.length) (hi := t.ok.ir) (h2 := sliOk_le2 u.ok (hlu)) (ho := ?how30) (hT := ?hTw30) (hx := ?hxw30) (hk := ?hkw30) (hlt := ?hltw30)
        case how30 => rfl
        case hTw30 => rfl
        case hxw30 => rfl
        case hkw30 => rfl
        case hltw30 => exact Nat.le_trans (hlu) u.ok.1
    conv => whnf
    refine .inl ?_
    conv => whnf
    refine .inl ?_
    conv => whnf
    refine .inl ?_
    conv => whnf
    refine .inl ?_
    conv => whnf
    refine ⟨⟨trsC_pure _, trsC_pure _, trivial⟩, ⟨_, _, _, _, _, _, _, _, _, _, u.l, t.l, true, rfl, rfl, hlu, Nat.le_refl _, (by rw [htu, List.take_length]; exact eqTs_iff.2 rfl), ?_⟩⟩
    conv => whnf
    conv =>
      arg 2
      tactic' =>
        apply eff_slice_hi (k := f.l.length) (hi := f.ok.ir) (h2 := sliOk_le2 g.ok (hlg)) (ho := ?how31) (hT := ?hTw31) (hx := ?hxw31) (hk := ?hkw31) (hlt := ?hltw31)
        case how31 => rfl
        case hTw31 => rfl
        case hxw31 => rfl
        case hkw31 => rfl
        case hltw31 => exact Nat.le_trans (hlg) g.ok.1
    conv => whnf
    refine .inl ?_
    conv => whnf
    refine .inl ?_
    conv => whnf
    refine .inl ?_
    conv => whnf
    refine .inl ?_
    conv => whnf
    refine ⟨⟨ftsC_pure _, ftsC_pure _, trivial⟩, ⟨_, _, _, _, _, _, _, _, _, _, g.l, f.l, true, rfl, rfl, hlg, Nat.le_refl _, (by rw [hfg, List.take_length]; exact eqFs_iff.2 rfl), ?_⟩⟩
    conv => whnf
    refine ⟨[0, 1, 2], [0, 1], fun _ => ?_⟩
    conv => whnf
    refine ⟨lnsC_pure L, fun _ _ => rfl, ?_⟩
    conv => whnf
    exact ⟨_, [], rfl, ⟨⟨rfl, rfl, rfl, fun _ => rfl⟩, ⟨rfl, rfl, rfl, fun _ => rfl⟩, ⟨rfl, rfl, rfl, fun _ => rfl⟩, trivial⟩, trivial, _, fun _ => rfl, hc⟩
  · refine ⟨fun ρ ρ' e => ?_, ?_⟩
    · have e1 := e 1 (Nat.succ_lt_succ (Nat.zero_lt_succ _))
      simp only [List.map, SV.den, C.den, C.cells, e1]
    conv => whnf
    refine .inl ?_
    conv => whnf
    refine .inl ?_
    conv => whnf
    refine .inl ?_
    conv => whnf
    refine .inl ?_
    conv => whnf
    refine ⟨trivial, ⟨rfl, rfl, ?_⟩⟩
    conv => whnf
    refine .inl ?_
    conv => whnf
    refine .inl ?_
    conv => whnf
    refine .inl ?_
    conv => whnf
    refine .inl ?_
    conv => whnf
    refine ⟨2, ?_⟩
    conv => whnf
    refine ⟨.inr rfl, trivial, .inr ⟨_, _, _, rfl, rfl, fun o1 f1 hI1 => ?_⟩⟩
    conv => whnf
    conv =>
      arg 2
      tactic' =>
        apply eff_slice_hi (k := min M.length 15) (hi := ir_m (Nat.min_le_right _ _) (by decide)) (h2 := sliOk_le2 hm (Nat.min_le_left _ _)) (ho := ?how32) (hT := ?hTw32) (hx := ?hxw32) (hk := ?hkw32) (hlt := ?hltw32)
        case how32 => rfl
        case hTw32 => rfl
        case hxw32 => rfl
        case hkw32 => exact cint (min_15 _) _
        case hltw32 => exact Nat.le_trans (Nat.min_le_left _ _) hm.1
    conv => whnf
    refine ⟨?_, trivial⟩
    conv => whnf
    refine ⟨?_, trivial⟩
    conv => whnf
    refine .inl ?_
    conv => whnf
    refine .inl ?_
    conv => whnf
    conv =>
      arg 2
      tactic' => exact OY.src o1
    conv => whnf
    refine ⟨allOne_pys _, ?_⟩
    conv => whnf
    refine ⟨⟨rfl, rfl, rfl, fun _ => rfl, by have := hI1.len; have := hI1.k2; omega⟩, fun c2 k2 => ?_⟩
    conv => whnf
    refine .inl ?_
    conv => whnf
    refine .inl ?_
    conv => whnf
    refine .inl ?_
    conv => whnf
    refine .inl ?_
    conv => whnf
    refine ⟨2, ?_⟩
    conv => whnf
    refine ⟨.inr rfl, ⟨lnsC_pure M, trivial⟩, .inl ⟨_, _, _, _, _, M, _, rfl, rfl, Nat.min_le_left _ _, hinM, fun o2 f2 hI2 => ?_⟩⟩
    conv => whnf
    refine .inl ?_
    conv => whnf
    refine .inl ?_
    conv => whnf
    conv =>
      arg 2
      tactic' => exact OY.src o2
    conv => whnf
    refine ⟨allOne_pys _, ?_⟩
    conv => whnf
    refine ⟨⟨rfl, rfl, by rw [List.nil_append, pysC_size]; omega, fun _ => app_tl c2 k2, by have := hI1.len; have := hI1.k2; have := hI2.len; have := hI2.k2; omega⟩, fun c3 k3 => ?_⟩
    conv => whnf
    refine .inl ?_
    conv => whnf
    refine .inl ?_
    conv => whnf
    refine .inl ?_
    conv => whnf
    refine .inl ?_
    conv => whnf
    refine ⟨4, ?_⟩
    conv => whnf
    refine ⟨.inl rfl, ⟨pysC_pure o1.l, trivial⟩, ⟨_, _, _, _, o1.l, _, rfl, rfl, ⟨by have := hI1.len; have := hI1.k2; omega, fun p hp => ⟨Nat.le_trans (hI1.ps p hp).1 (by decide), (hI1.ps p hp).2⟩⟩, fun t f ht hf => ?_⟩⟩
    conv => whnf
    obtain ⟨oB, hoB⟩ : ∃ oB : OY, oB = ⟨o1.l ++ o2.l, false, c3, ok_app k3⟩ := ⟨_, rfl⟩
    refine .inr ⟨[oB.sl 9], [_, _, _, _, _, _, _, _, _, oB.blk, _, _], ⟨fun ρ => by subst hoB; exact app_sl ρ, trivial⟩, ⟨sameB _, sameB _, sameB _, sameB _, sameB _, sameB _, sameB _, sameB _, sameB _, by subst hoB; exact app_blk (h := k3), sameB _, sameB _, trivial⟩, ?_⟩
    conv => whnf
    refine .inr ⟨4, 8, ?_⟩
    conv => whnf
    refine .inl ?_
    conv => whnf
    refine .inl ?_
    conv => whnf
    refine ⟨4, ?_⟩
    conv => whnf
    refine ⟨.inl rfl, ⟨pysC_pure oB.l, trivial⟩, ⟨_, _, _, _, oB.l, _, rfl, rfl, ⟨by subst hoB; show (o1.l ++ o2.l).length ≤ _; rw [List.length_append]; have := hI1.len; have := hI1.k2; have := hI2.len; have := hI2.k2; omega, fun p hp => by subst hoB; rcases List.mem_append.1 hp with hp | hp; exact ⟨Nat.le_trans (hI1.ps p hp).1 (by decide), (hI1.ps p hp).2.imp id InF.left⟩; exact ⟨Nat.le_trans (hI2.ps p hp).1 (by decide), (hI2.ps p hp).2.imp id InF.right⟩⟩, fun u g hu hg => ?_⟩⟩
    rw [show oB.l = o1.l ++ o2.l by rw [hoB]] at hu hg
    obtain ⟨⟨xs, hxs⟩, ⟨ys, hys⟩⟩ := heal_app o1.l o2.l
    rw [← ht] at hxs; rw [← hf] at hys; rw [hxs] at hu; rw [hys] at hg
    have hlu : t.l.length ≤ u.l.length := by rw [hu, List.length_append]; omega
    have hlg : f.l.length ≤ g.l.length := by rw [hg, List.length_append]; omega
    have htu : u.l.take t.l.length = t.l := by rw [hu]; exact List.take_left
    have hfg : g.l.take f.l.length = f.l := by rw [hg]; exact List.take_left
    conv => whnf
    refine bcase_intro (fun _ => ?_) (fun h => absurd h (by rw [decide_eq_true (by omega)]; decide))
    conv => whnf
    refine bcase_intro (fun _ => ?_) (fun h => absurd h (by rw [decide_eq_true (by omega)]; decide))
    conv => whnf
    conv =>
      arg 2
      tactic' =>
        apply eff_slice_hi (k := t.l.length) (hi := t.ok.ir) (h2 := sliOk_le2 u.ok (hlu)) (ho := ?how33) (hT := ?hTw33) (hx := ?hxw33) (hk := ?hkw33) (hlt := ?hltw33)
        case how33 => rfl
        case hTw33 => rfl
        case hxw33 => rfl
        case hkw33 => rfl
        case hltw33 => exact Nat.le_trans (hlu) u.ok.1
    conv => whnf
    refine .inl ?_
    conv => whnf
    refine .inl ?_
    conv => whnf
    refine .inl ?_
    conv => whnf
    refine .inl ?_
    conv => whnf
    refine ⟨⟨trsC_pure _, trsC_pure _, trivial⟩, ⟨_, _, _, _, _, _, _, _, _, _, u.l, t.l, true, rfl, rfl, hlu, Nat.le_refl _, (by rw [htu, List.take_length]; exact eqTs_iff.2 rfl), ?_⟩⟩
    conv => whnf
    conv =>
      arg 2
      tactic' =>
        apply eff_slice_hi (k := f.l.length) (hi := f.ok.ir) (h2 := sliOk_le2 g.ok (hlg)) (ho := ?how34) (hT := ?hTw34) (hx := ?hxw34) (hk := ?hkw34) (hlt := ?hltw34)
        case how34 => rfl
        case hTw34 => rfl
        case hxw34 => rfl
        case hkw34 => rfl
        case hltw34 => exact Nat.le_trans (hlg) g.ok.1
    conv => whnf
    refine .inl ?_
    conv => whnf
    refine .inl ?_
    conv => whnf
    refine .inl ?_
    conv => whnf
    refine .inl ?_
    conv => whnf
    refine ⟨⟨ftsC_pure _, ftsC_pure _, trivial⟩, ⟨_, _, _, _, _, _, _, _, _, _, g.l, f.l, true, rfl, rfl, hlg, Nat.le_refl _, (by rw [hfg, List.take_length]; exact eqFs_iff.2 rfl), ?_⟩⟩
    conv => whnf
    refine ⟨[0, 1, 2], [0, 1], fun _ => ?_⟩
    conv => whnf
    refine ⟨fun _ _ => rfl, lnsC_pure M, ?_⟩
    conv => whnf
    exact ⟨_, [], rfl, ⟨⟨rfl, rfl, rfl, fun _ => rfl⟩, ⟨rfl, rfl, rfl, fun _ => rfl⟩, ⟨rfl, rfl, rfl, fun _ => rfl⟩, trivial⟩, trivial, _, fun _ => rfl, hc⟩
  · refine ⟨fun ρ ρ' e => rfl, ?_⟩
    conv => whnf
    refine .inl ?_
    conv => whnf
    refine .inl ?_
    conv => whnf
    refine .inl ?_
    conv => whnf
    refine .inl ?_
    conv => whnf
    refine ⟨trivial, ⟨rfl, rfl, ?_⟩⟩
    conv => whnf
    refine .inl ?_
    conv => whnf
    refine .inl ?_
    conv => whnf
    refine .inl ?_
    conv => whnf
    refine .inl ?_
    conv => whnf
    refine ⟨2, ?_⟩
    conv => whnf
    refine ⟨.inr rfl, trivial, .inr ⟨_, _, _, rfl, rfl, fun o1 f1 hI1 => ?_⟩⟩
    conv => whnf
    refine ⟨?_, trivial⟩
    conv => whnf
    refine ⟨?_, trivial⟩
    conv => whnf
    refine .inl ?_
    conv => whnf
    refine .inl ?_
    conv => whnf
    conv =>
      arg 2
      tactic' => exact OY.src o1
    conv => whnf
    refine ⟨allOne_pys _, ?_⟩
    conv => whnf
    refine ⟨⟨rfl, rfl, rfl, fun _ => rfl, by have := hI1.len; have := hI1.k2; omega⟩, fun c2 k2 => ?_⟩
    conv => whnf
    refine .inl ?_
    conv => whnf
    refine .inl ?_
    conv => whnf
    refine .inl ?_
    conv => whnf
    refine .inl ?_
    conv => whnf
    refine ⟨2, ?_⟩
    conv => whnf
    refine ⟨.inr rfl, trivial, .inr ⟨_, _, _, rfl, rfl, fun o2 f2 hI2 => ?_⟩⟩
    conv => whnf
    refine .inl ?_
    conv => whnf
    refine .inl ?_
    conv => whnf
    conv =>
      arg 2
      tactic' => exact OY.src o2
    conv => whnf
    refine ⟨allOne_pys _, ?_⟩
    conv => whnf
    refine ⟨⟨rfl, rfl, by rw [List.nil_append, pysC_size]; omega, fun _ => app_tl c2 k2, by have := hI1.len; have := hI1.k2; have := hI2.len; have := hI2.k2; omega⟩, fun c3 k3 => ?_⟩
    conv => whnf
    refine .inl ?_
    conv => whnf
    refine .inl ?_
    conv => whnf
    refine .inl ?_
    conv => whnf
    refine .inl ?_
    conv => whnf
    refine ⟨4, ?_⟩
    conv => whnf
    refine ⟨.inl rfl, ⟨pysC_pure o1.l, trivial⟩, ⟨_, _, _, _, o1.l, _, rfl, rfl, ⟨by have := hI1.len; have := hI1.k2; omega, fun p hp => ⟨Nat.le_trans (hI1.ps p hp).1 (by decide), (hI1.ps p hp).2⟩⟩, fun t f ht hf => ?_⟩⟩
    conv => whnf
    obtain ⟨oB, hoB⟩ : ∃ oB : OY, oB = ⟨o1.l ++ o2.l, false, c3, ok_app k3⟩ := ⟨_, rfl⟩
    refine .inr ⟨[oB.sl 9], [_, _, _, _, _, _, _, _, _, oB.blk, _, _], ⟨fun ρ => by subst hoB; exact app_sl ρ, trivial⟩, ⟨sameB _, sameB _, sameB _, sameB _, sameB _, sameB _, sameB _, sameB _, sameB _, by subst hoB; exact app_blk (h := k3), sameB _, sameB _, trivial⟩, ?_⟩
    conv => whnf
    refine .inr ⟨4, 8, ?_⟩
    conv => whnf
    refine .inl ?_
    conv => whnf
    refine .inl ?_
    conv => whnf
    refine ⟨4, ?_⟩
    conv => whnf
    refine ⟨.inl rfl, ⟨pysC_pure oB.l, trivial⟩, ⟨_, _, _, _, oB.l, _, rfl, rfl, ⟨by subst hoB; show (o1.l ++ o2.l).length ≤ _; rw [List.length_append]; have := hI1.len; have := hI1.k2; have := hI2.len; have := hI2.k2; omega, fun p hp => by subst hoB; rcases List.mem_append.1 hp with hp | hp; exact ⟨Nat.le_trans (hI1.ps p hp).1 (by decide), (hI1.ps p hp).2.imp id InF.left⟩; exact ⟨Nat.le_trans (hI2.ps p hp).1 (by decide), (hI2.ps p hp).2.imp id InF.right⟩⟩, fun u g hu hg => ?_⟩⟩
    rw [show oB.l = o1.l ++ o2.l by rw [hoB]] at hu hg
    obtain ⟨⟨xs, hxs⟩, ⟨ys, hys⟩⟩ := heal_app o1.l o2.l
    rw [← ht] at hxs; rw [← hf] at hys; rw [hxs] at hu; rw [hys] at hg
    have hlu : t.l.length ≤ u.l.length := by rw [hu, List.length_append]; omega
    have hlg : f.l.length ≤ g.l.length := by rw [hg, List.length_append]; omega
    have htu : u.l.take t.l.length = t.l := by rw [hu]; exact List.take_left
    have hfg : g.l.take f.l.length = f.l := by rw [hg]; exact List.take_left
    conv => whnf
    refine bcase_intro (fun _ => ?_) (fun h => absurd h (by rw [decide_eq_true (by omega)]; decide))
    conv => whnf
    refine bcase_intro (fun _ => ?_) (fun h => absurd h (by rw [decide_eq_true (by omega)]; decide))
    conv => whnf
    conv =>
      arg 2
      tactic' =>
        apply eff_slice_hi (k := t.l.length) (hi := t.ok.ir) (h2 := sliOk_le2 u.ok (hlu)) (ho := ?how35) (hT := ?hTw35) (hx := ?hxw35) (hk := ?hkw35) (hlt := ?hltw35)
        case how35 => rfl
        case hTw35 => rfl
        case hxw35 => rfl
        case hkw35 => rfl
        case hltw35 => exact Nat.le_trans (hlu) u.ok.1
    conv => whnf
    refine .inl ?_
    conv => whnf
    refine .inl ?_
    conv => whnf
    refine .inl ?_
    conv => whnf
    refine .inl ?_
    conv => whnf
    refine ⟨⟨trsC_pure _, trsC_pure _, trivial⟩, ⟨_, _, _, _, _, _, _, _, _, _, u.l, t.l, true, rfl, rfl, hlu, Nat.le_refl _, (by rw [htu, List.take_length]; exact eqTs_iff.2 rfl), ?_⟩⟩
    conv => whnf
    conv =>
      arg 2
      tactic' =>
        apply eff_slice_hi (k := f.l.length) (hi := f.ok.ir) (h2 := sliOk_le2 g.ok (hlg)) (ho := ?how36) (hT := ?hTw36) (hx := ?hxw36) (hk := ?hkw36) (hlt := ?hltw36)
        case how36 => rfl
        case hTw36 => rfl
        case hxw36 => rfl
        case hkw36 => rfl
        case hltw36 => exact Nat.le_trans (hlg) g.ok.1
    conv => whnf
    refine .inl ?_
    conv => whnf
    refine .inl ?_
    conv => whnf
    refine .inl ?_
    conv => whnf
    refine .inl ?_
    conv => whnf
    refine ⟨⟨ftsC_pure _, ftsC_pure _, trivial⟩, ⟨_, _, _, _, _, _, _, _, _, _, g.l, f.l, true, rfl, rfl, hlg, Nat.le_refl _, (by rw [hfg, List.take_length]; exact eqFs_iff.2 rfl), ?_⟩⟩
    conv => whnf
    refine ⟨[0, 1, 2], [0, 1], fun _ => ?_⟩
    conv => whnf
    refine ⟨fun _ _ => rfl, fun _ _ => rfl, ?_⟩
    conv => whnf
    exact ⟨_, [], rfl, ⟨⟨rfl, rfl, rfl, fun _ => rfl⟩, ⟨rfl, rfl, rfl, fun _ => rfl⟩, ⟨rfl, rfl, rfl, fun _ => rfl⟩, trivial⟩, trivial, _, fun _ => rfl, hc⟩
end Go.Proofs.YtdjpbccaglkafaaDoor
