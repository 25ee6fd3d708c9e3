/- law 05: polygons, corners, sanity. -/
import Derived.Test.YtdjpbccaglkafaaDoorH4
namespace Go.Proofs.YtdjpbccaglkafaaDoor
open Go.RowKit
set_option maxRecDepth 100000

/-- functions whose value is made of their arguments -/
def SpW (P : Program) (f : FuncId) (d : Dr) : Prop := Callable P f ∧ ∀ args hf p v, d args hf = some (p, v) → (∀ ρ ρ', args.map (SV.den ρ) = args.map (SV.den ρ') → v.den ρ = v.den ρ') ∧
  ((∀ q, p = some q → q) → ∀ ρ w, (∀ b blk, hf b = some blk → Holds ρ blk b w) → Calls P f (args.map (SV.den ρ)).toArray w fun e w' => e = .returned (v.den ρ) ∧ Below w.heap.size w w')
def AllW (l : List (FuncId × Dr)) : Prop := ∀ x ∈ l, SpW Tryd.prog x.1 x.2
theorem AllW.nil : AllW [] := fun x hx => by simp at hx
theorem AllW.cons {f : FuncId} {d : Dr} {l : List (FuncId × Dr)} (h : SpW Tryd.prog f d) (hl : AllW l) : AllW ((f, d) :: l) := fun x hx => by
  rcases List.mem_cons.1 hx with rfl | hx
  · exact h
  · exact hl x hx
theorem lkW_ok {l : List (FuncId × Dr)} (hl : AllW l) : ∀ {f : FuncId} {args : List SV} {hf} {r}, lkR l f args hf = some r → ∃ d, SpW Tryd.prog f d ∧ d args hf = some r := by
  intro f args hf r h
  induction l with
  | nil => simp [lkR] at h
  | cons x l ih =>
    obtain ⟨g, d⟩ := x
    unfold lkR at h
    split at h
    · rename_i e; rw [e]; exact ⟨d, hl (g, d) List.mem_cons_self, h⟩
    · exact ih (fun y hy => hl y (List.mem_cons_of_mem _ hy)) h
def envW (E : Env) (l : List (FuncId × Dr)) : Env := { E with D := fun f args hf => match E.D f args hf with | some x => some x | none => lkR l f args hf }
theorem envW_ok {E : Env} (hE : EOk Tryd.prog E) {l : List (FuncId × Dr)} (hl : AllW l) : EOk Tryd.prog (envW E l) := ⟨hE.T, fun f args hf p v h => by
  unfold envW at h
  simp only at h
  split at h
  · rename_i x hx
    cases h
    exact hE.D f args hf p v hx
  · obtain ⟨d, hd, he⟩ := lkW_ok hl h
    exact ⟨hd.1, hd.2 args hf p v he⟩, hE.O, hE.R⟩
/-- a polygon of a slice of the caller's -/
def dPoly : Dr
  | [.c (.int pl hp), .c (.sli nl b off len cap h)], _ => some (none, .agg [.sli nl b off len cap h, .int pl hp])
  | _, _ => none
theorem spPoly : SpW Tryd.prog 20 dPoly := by
  refine ⟨(⟨Tryd.func20, by kernel_rfl, by kernel_rfl⟩ : FnOk Tryd.prog 20 Tryd.f20).callable, fun args hf p v hd => ?_⟩
  unfold dPoly at hd
  split at hd
  · rename_i pl hpl nl b off len cap hl
    cases hd
    refine ⟨fun ρ ρ' e => ?_, fun _ ρ w _ => ?_⟩
    · simp only [List.map_cons, List.map_nil, SV.den, C.den, List.cons.injEq, and_true] at e
      have e2 := e.2
      simp only [C.cells, List.headD_cons] at e2
      simp only [SV.den, cellsL, List.flatMap_cons, List.flatMap_nil, C.cells]
      rw [e2]
    · obtain ⟨r, hr⟩ : ∃ r : Nat, r = (ρ b).1 := ⟨_, rfl⟩
      obtain ⟨o, ho⟩ : ∃ o : Nat, o = (ρ b).2 + off := ⟨_, rfl⟩
      have e1 : [SV.c (.int pl hpl), SV.c (.sli nl b off len cap hl)].map (SV.den ρ) = [SV.c (.int pl hpl), SV.c (.val (.slice (nlA nl ⟨r, o, none⟩) len cap))].map (SV.den ρ) := by
        simp only [List.map_cons, List.map_nil, SV.den, C.den, C.cells, hr, ho]
      have e2 : (SV.agg [.sli nl b off len cap hl, .int pl hpl]).den ρ = (SV.agg [.val (.slice (nlA nl ⟨r, o, none⟩) len cap), .int pl hpl]).den ρ := by
        simp only [SV.den, cellsL, List.flatMap_cons, List.flatMap_nil, C.cells, hr, ho]
      rw [e1, e2]
      refine pure_ok (envH_ok baseH_ok .nil 0) mixed noF_ok (n := 0) ⟨Tryd.func20, by kernel_rfl, by kernel_rfl⟩ (args := [SV.c (.int pl hpl), SV.c (.val (.slice (nlA nl ⟨r, o, none⟩) len cap))]) (fun _ _ => rfl) (fun _ _ => rfl) ?_ ρ w
      conv => whnf
      exact fun _ => rfl
  · cases hd
def dCorner : Dn
  | [.c (.int n hn)] => some (none, .agg [.int n hn, .int (IntKind.i64.wrap (n * n)) (IR.wrap _), .int 7 (by decide)])
  | _ => none
theorem spCorner : SpOk Tryd.prog 15 dCorner := sp_of2 (un := 20) (n := 0) ⟨Tryd.func15, by kernel_rfl, by kernel_rfl⟩ baseH_ok noF_ok fun args p v hd => by
  unfold dCorner at hd
  split at hd
  · rename_i n hn
    cases hd
    refine ⟨[.c (.int n hn)], fun _ => rfl, fun _ _ => rfl, fun _ _ => rfl, fun _ => ?_⟩
    conv => whnf
    exact fun _ => rfl
  · cases hd
theorem ir_emod {n m : Int} (hn : IR n) (hm : IR m) : IR (n % m) := by
  by_cases h : m = 0
  · subst h; rw [Int.emod_zero]; exact hn
  · have h1 := Int.emod_nonneg n h
    have h2 := Int.emod_lt n h
    unfold IR at *
    omega
theorem mod_eq {n m : Int} (hn : IR n) (h : 0 < m ∧ m ≤ 1000000) : (IntKind.i64.wrap (n.tmod m + m)).tmod m = n % m := by
  have h1 : -m < n.tmod m := Int.lt_tmod_of_pos n h.1
  have h2 : n.tmod m < m := Int.tmod_lt_of_pos n h.1
  rw [wrap_id (z := n.tmod m + m) (by unfold IR; omega), Int.tmod_eq_emod_of_nonneg (by omega), Int.add_emod_right]
  have _ := hn
  rw [Int.tmod_def, Int.sub_mul_emod_self_left]
def dMod : Dn
  | [.c (.int n hn), .c (.int m hm)] => some (some (0 < m ∧ m ≤ 1000000), .c (.int (n % m) (ir_emod hn hm)))
  | _ => none
theorem spMod : SpOk Tryd.prog 34 dMod := sp_of2 (un := 20) (n := 0) ⟨Tryd.func34, by kernel_rfl, by kernel_rfl⟩ baseH_ok noF_ok fun args p v hd => by
  unfold dMod at hd
  split at hd
  · rename_i n hn m hm
    cases hd
    refine ⟨[.c (.int n hn), .c (.int m hm)], fun _ => rfl, fun _ _ => rfl, fun _ _ => rfl, fun hpre => ?_⟩
    have hm0 : 0 < m ∧ m ≤ 1000000 := hpre _ rfl
    conv => whnf
    conv =>
      arg 2
      tactic' =>
        apply eff_rem (hi := hn.tmod m) (ho := ?how1) (hx := ?hxw1) (hy := ?hyw1) (hb0 := ?hb0w1) (hc := ?hcw1)
        case how1 => rfl
        case hxw1 => rfl
        case hyw1 => rfl
        case hb0w1 => exact (by omega)
        case hcw1 => rfl
    conv => whnf
    conv =>
      arg 2
      tactic' =>
        apply eff_rem (hi := ir_emod hn hm) (ho := ?how2) (hx := ?hxw2) (hy := ?hyw2) (hb0 := ?hb0w2) (hc := ?hcw2)
        case how2 => rfl
        case hxw2 => rfl
        case hyw2 => rfl
        case hb0w2 => exact (by omega)
        case hcw2 => exact mod_eq hn hm0
    conv => whnf
    exact fun _ => rfl
  · cases hd
def baseM : List (FuncId × Dn) := (34, dMod) :: baseH
theorem baseM_ok : AllOk baseM := .cons spMod <| baseH_ok
/-- a coordinate, scaled and moved -/
def mvW (s t x : Int) : Int := IntKind.i64.wrap (IntKind.i64.wrap (x * s) + t)
theorem ir_mvW (s t x : Int) : IR (mvW s t x) := IR.wrap _
def dMoved : Dn
  | [.agg [.int x _, .int y _, .int z _], .agg [.int t0 _, .int t1 _, .int t2 _], .c (.int s _)] =>
    some (none, .agg [.int (mvW s t0 x) (ir_mvW _ _ _), .int (mvW s t1 y) (ir_mvW _ _ _), .int (mvW s t2 z) (ir_mvW _ _ _)])
  | _ => none
theorem spMoved : SpOk Tryd.prog 24 dMoved := sp_of2 (un := 20) (n := 0) ⟨Tryd.func24, by kernel_rfl, by kernel_rfl⟩ baseH_ok noF_ok fun args p v hd => by
  unfold dMoved at hd
  split at hd
  · rename_i x hx y hy z hz t0 ht0 t1 ht1 t2 ht2 s hs
    cases hd
    refine ⟨[.agg [.int x hx, .int y hy, .int z hz], .agg [.int t0 ht0, .int t1 ht1, .int t2 ht2], .c (.int s hs)], fun _ => rfl, fun _ _ => rfl, fun _ _ => rfl, fun _ => ?_⟩
    conv => whnf
    exact fun _ => rfl
  · cases hd
/-- a coordinate of the corner at a place, after a turn -/
def tn (k : Int) (i : Nat) (a b c : Int) : Int :=
  if k = 0 then (match i with | 0 => a | 1 => b | _ => c)
  else if k = 1 then (match i with | 0 => b | 1 => c | _ => a)
  else if k = 2 then (match i with | 0 => c | 1 => a | _ => b)
  else if k = 3 then (match i with | 0 => b | 1 => a | _ => c)
  else if k = 4 then (match i with | 0 => c | 1 => b | _ => a)
  else (match i with | 0 => a | 1 => c | _ => b)
theorem ir_tn {a b c : Int} (ha : IR a) (hb : IR b) (hc : IR c) (k : Int) (i : Nat) : IR (tn k i a b c) := by
  unfold tn; (repeat' split) <;> assumption
theorem int_of {a b : Int} (h : a = b) (ha : IR a) : C.int a ha = C.int b (h ▸ ha) := by subst h; rfl
theorem md6 (n : Int) : n % 6 = 0 ∨ n % 6 = 1 ∨ n % 6 = 2 ∨ n % 6 = 3 ∨ n % 6 = 4 ∨ n % 6 = 5 := by omega
theorem agg9_e {a0 a1 a2 a3 a4 a5 a6 a7 a8 b0 b1 b2 b3 b4 b5 b6 b7 b8 : Int} {ha0 : IR a0} {ha1 : IR a1} {ha2 : IR a2} {ha3 : IR a3} {ha4 : IR a4} {ha5 : IR a5} {ha6 : IR a6} {ha7 : IR a7} {ha8 : IR a8} {hb0 : IR b0} {hb1 : IR b1} {hb2 : IR b2} {hb3 : IR b3} {hb4 : IR b4} {hb5 : IR b5} {hb6 : IR b6} {hb7 : IR b7} {hb8 : IR b8} (e0 : a0 = b0) (e1 : a1 = b1) (e2 : a2 = b2) (e3 : a3 = b3) (e4 : a4 = b4) (e5 : a5 = b5) (e6 : a6 = b6) (e7 : a7 = b7) (e8 : a8 = b8) (ρ : Rho) : (SV.agg [.int a0 ha0, .int a1 ha1, .int a2 ha2, .int a3 ha3, .int a4 ha4, .int a5 ha5, .int a6 ha6, .int a7 ha7, .int a8 ha8]).den ρ = (SV.agg [.int b0 hb0, .int b1 hb1, .int b2 hb2, .int b3 hb3, .int b4 hb4, .int b5 hb5, .int b6 hb6, .int b7 hb7, .int b8 hb8]).den ρ := by subst e0 e1 e2 e3 e4 e5 e6 e7 e8; rfl
def dTurned : Dn
  | [.agg [.int x1 hx1, .int y1 hy1, .int z1 hz1, .int x2 hx2, .int y2 hy2, .int z2 hz2, .int x3 hx3, .int y3 hy3, .int z3 hz3], .c (.int n _)] =>
    some (none, .agg [.int (tn (n % 6) 0 x1 x2 x3) (ir_tn hx1 hx2 hx3 _ _), .int (tn (n % 6) 0 y1 y2 y3) (ir_tn hy1 hy2 hy3 _ _), .int (tn (n % 6) 0 z1 z2 z3) (ir_tn hz1 hz2 hz3 _ _), .int (tn (n % 6) 1 x1 x2 x3) (ir_tn hx1 hx2 hx3 _ _), .int (tn (n % 6) 1 y1 y2 y3) (ir_tn hy1 hy2 hy3 _ _), .int (tn (n % 6) 1 z1 z2 z3) (ir_tn hz1 hz2 hz3 _ _), .int (tn (n % 6) 2 x1 x2 x3) (ir_tn hx1 hx2 hx3 _ _), .int (tn (n % 6) 2 y1 y2 y3) (ir_tn hy1 hy2 hy3 _ _), .int (tn (n % 6) 2 z1 z2 z3) (ir_tn hz1 hz2 hz3 _ _)])
  | _ => none
set_option maxHeartbeats 8000000 in
theorem spTurned : SpOk Tryd.prog 22 dTurned := sp_of2 (un := 20) (n := 0) ⟨Tryd.func22, by kernel_rfl, by kernel_rfl⟩ baseM_ok noF_ok fun args p v hd => by
  unfold dTurned at hd
  split at hd
  · rename_i x1 hx1 y1 hy1 z1 hz1 x2 hx2 y2 hy2 z2 hz2 x3 hx3 y3 hy3 z3 hz3 n hn
    cases hd
    refine ⟨[.agg [.int x1 hx1, .int y1 hy1, .int z1 hz1, .int x2 hx2, .int y2 hy2, .int z2 hz2, .int x3 hx3, .int y3 hy3, .int z3 hz3], .c (.int n hn)], fun _ => rfl, fun _ _ => rfl, fun _ _ => rfl, fun _ => ?_⟩
    conv => whnf
    refine ⟨by decide, ?_⟩
    rcases md6 n with h | h | h | h | h | h
    · rw [int_of h]
      conv => whnf
      exact fun ρ => agg9_e (by rw [h]; rfl) (by rw [h]; rfl) (by rw [h]; rfl) (by rw [h]; rfl) (by rw [h]; rfl) (by rw [h]; rfl) (by rw [h]; rfl) (by rw [h]; rfl) (by rw [h]; rfl) ρ
    · rw [int_of h]
      conv => whnf
      exact fun ρ => agg9_e (by rw [h]; rfl) (by rw [h]; rfl) (by rw [h]; rfl) (by rw [h]; rfl) (by rw [h]; rfl) (by rw [h]; rfl) (by rw [h]; rfl) (by rw [h]; rfl) (by rw [h]; rfl) ρ
    · rw [int_of h]
      conv => whnf
      exact fun ρ => agg9_e (by rw [h]; rfl) (by rw [h]; rfl) (by rw [h]; rfl) (by rw [h]; rfl) (by rw [h]; rfl) (by rw [h]; rfl) (by rw [h]; rfl) (by rw [h]; rfl) (by rw [h]; rfl) ρ
    · rw [int_of h]
      conv => whnf
      exact fun ρ => agg9_e (by rw [h]; rfl) (by rw [h]; rfl) (by rw [h]; rfl) (by rw [h]; rfl) (by rw [h]; rfl) (by rw [h]; rfl) (by rw [h]; rfl) (by rw [h]; rfl) (by rw [h]; rfl) ρ
    · rw [int_of h]
      conv => whnf
      exact fun ρ => agg9_e (by rw [h]; rfl) (by rw [h]; rfl) (by rw [h]; rfl) (by rw [h]; rfl) (by rw [h]; rfl) (by rw [h]; rfl) (by rw [h]; rfl) (by rw [h]; rfl) (by rw [h]; rfl) ρ
    · rw [int_of h]
      conv => whnf
      exact fun ρ => agg9_e (by rw [h]; rfl) (by rw [h]; rfl) (by rw [h]; rfl) (by rw [h]; rfl) (by rw [h]; rfl) (by rw [h]; rfl) (by rw [h]; rfl) (by rw [h]; rfl) (by rw [h]; rfl) ρ
  · cases hd
def dPoint : Dn
  | [.agg [.int x1 hx1, .int y1 hy1, .int z1 hz1]] => some (none, .agg [.int x1 hx1, .int y1 hy1, .int z1 hz1])
  | _ => none
theorem spPoint : SpOk Tryd.prog 23 dPoint := sp_of2 (un := 20) (n := 0) ⟨Tryd.func23, by kernel_rfl, by kernel_rfl⟩ baseH_ok noF_ok fun args p v hd => by
  unfold dPoint at hd
  split at hd
  · rename_i x1 hx1 y1 hy1 z1 hz1
    cases hd
    refine ⟨[.agg [.int x1 hx1, .int y1 hy1, .int z1 hz1]], fun _ => rfl, fun _ _ => rfl, fun _ _ => rfl, fun _ => ?_⟩
    conv => whnf
    exact fun _ => rfl
  · cases hd
def baseS : List (FuncId × Dn) := (15, dCorner) :: (24, dMoved) :: (22, dTurned) :: (23, dPoint) :: (19, dAl) :: baseM
theorem baseS_ok : AllOk baseS := .cons spCorner <| .cons spMoved <| .cons spTurned <| .cons spPoint <| .cons spAl <| baseM_ok
def polW : List (FuncId × Dr) := [(20, dPoly)]
theorem polW_ok : AllW polW := .cons spPoly .nil
/-- the laws' world: freezing ahead of appends -/
def envL (un : Nat) : Env := envW { envH un baseS [] with O := ofz (oClr tyT (oMap Tryd.prog tyT)) 4 } polW
theorem envL_ok (un : Nat) : EOk Tryd.prog (envL un) := envW_ok (E := { envH un baseS [] with O := ofz (oClr tyT (oMap Tryd.prog tyT)) 4 }) ⟨(envH_ok baseS_ok .nil un).T, (envH_ok baseS_ok .nil un).D, ofz_ok (envH_ok baseS_ok .nil un).O 4, (envH_ok baseS_ok .nil un).R⟩ polW_ok
def healX : List (FuncId × NewC) := [(16, cHeal)]
theorem healX_ok : AllX Tryd.prog healX := .cons csHeal .nil
def sfC : List (FuncId × NewC) := [(21, cSame), (17, cFaults)]
theorem sfC_ok : AllC Tryd.prog sfC := .cons csSame <| .cons csFaults .nil
/-- calls in the laws: an empty family, freezing, Heal; the others -/
def hL (l : List (FuncId × NewC)) (E : Env) := hfam0 (hfz (hnewX healX (mix l E noF 0)) 4)
theorem hL_ok {l : List (FuncId × NewC)} (hl : AllC Tryd.prog l) {E : Env} (hE : EOk Tryd.prog E) : HOk Tryd.prog (hL l E) := hfam0_ok (hfz_ok (hnewX_ok healX_ok (mix_ok hl hE mixed noF_ok 0)) 4)
def cSan : NewC := fun args ros K => args = [] ∧ ros = [] ∧ K (.c (.val (.bool true))) []
def pt (x y z : Int) (hx : IR x := by decide) (hy : IR y := by decide) (hz : IR z := by decide) : PT := ⟨x, y, z, hx, hy, hz⟩
theorem san0 (r1 : Nat) : healT [⟨false, r1, 0, 4, 4, by unfold SliOk; decide, [pt 0 0 0, pt 2 0 0, pt 2 2 0, pt 0 2 0], by decide, 1, by decide⟩] = ⟨[⟨pt 0 0 0, pt 2 0 0, pt 2 2 0⟩, ⟨pt 0 0 0, pt 2 2 0, pt 0 2 0⟩], []⟩ := by kernel_rfl
theorem san1 (r2 : Nat) (r3 : Nat) (r4 : Nat) : healT [⟨false, r2, 0, 5, 5, by unfold SliOk; decide, [pt 0 0 0, pt 0 0 0, pt 2 0 0, pt 2 2 0, pt 0 0 0], by decide, 1, by decide⟩, ⟨false, r3, 0, 3, 3, by unfold SliOk; decide, [pt 2 0 0, pt 2 2 0, pt 0 0 0], by decide, 2, by decide⟩, ⟨false, r4, 0, 3, 3, by unfold SliOk; decide, [pt 2 2 0, pt 2 0 0, pt 0 0 0], by decide, 3, by decide⟩] = ⟨[⟨pt 0 0 0, pt 2 0 0, pt 2 2 0⟩], [⟨2, 24, by decide, by decide⟩, ⟨3, 26, by decide, by decide⟩]⟩ := by kernel_rfl
theorem san2 (r5 : Nat) (r6 : Nat) : healT [⟨false, r5, 0, 3, 3, by unfold SliOk; decide, [pt 0 0 0, pt 1 0 0, pt 2 0 0], by decide, 4, by decide⟩, ⟨false, r6, 0, 2, 2, by unfold SliOk; decide, [pt 0 0 0, pt 2 0 0], by decide, 5, by decide⟩] = ⟨[], [⟨4, 25, by decide, by decide⟩, ⟨5, 25, by decide, by decide⟩]⟩ := by kernel_rfl
set_option maxHeartbeats 16000000 in
theorem csSan : CSp Tryd.prog 11 cSan := csp_of (envL_ok 0) mixed (hL_ok sfC_ok (envL_ok 0)) ⟨Tryd.func11, by kernel_rfl, by kernel_rfl⟩ fun args ros K hc => by
  obtain ⟨rfl, rfl, hc⟩ := hc
  refine ⟨fun ρ ρ' e => ?_, ?_⟩
  · rfl
  conv => whnf
  refine .inr ?_
  conv => whnf
  refine .inr ⟨7, 5, 6, ?_⟩
  conv => whnf
  refine ⟨⟨fun _ _ => rfl, rfl, rfl⟩, fun r1 => ?_⟩
  conv => whnf
  refine .inl ?_
  conv => whnf
  refine ⟨7, ?_⟩
  conv => whnf
  refine ⟨.inl rfl, ⟨fun _ _ => rfl, trivial⟩, ?_⟩
  refine ⟨_, _, _, _, [⟨false, r1, 0, 4, 4, by unfold SliOk; decide, [pt 0 0 0, pt 2 0 0, pt 2 2 0, pt 0 2 0], by decide, 1, by decide⟩], _, rfl, rfl, ⟨by simp, fun p hp => ?_⟩, fun o1 f1 ho1 hf1 => ?_⟩
  · simp only [List.mem_cons, List.not_mem_nil, or_false] at hp
    rcases hp with rfl <;> exact ⟨by simp, .inr (by first | exact ⟨_, .head _, rfl, rfl⟩ | exact ⟨_, .tail _ (.head _), rfl, rfl⟩ | exact ⟨_, .tail _ (.tail _ (.head _)), rfl, rfl⟩ | exact ⟨_, .tail _ (.tail _ (.tail _ (.head _))), rfl, rfl⟩ | exact ⟨_, .tail _ (.tail _ (.tail _ (.tail _ (.head _)))), rfl, rfl⟩ | exact ⟨_, .tail _ (.tail _ (.tail _ (.tail _ (.tail _ (.head _))))), rfl, rfl⟩)⟩
  rw [san0] at ho1 hf1
  obtain ⟨o1l, o1n, o1c, o1k⟩ := o1
  dsimp only at ho1
  subst ho1
  obtain ⟨f1l, f1n, f1c, f1k⟩ := f1
  dsimp only at hf1
  subst hf1
  conv => whnf
  refine .inl ?_
  conv => whnf
  refine .inr ⟨7, 10, 13, ?_⟩
  conv => whnf
  refine ⟨⟨fun _ _ => rfl, rfl, rfl⟩, fun r2 => ?_⟩
  conv => whnf
  refine .inr ⟨7, 11, 13, ?_⟩
  conv => whnf
  refine ⟨⟨fun _ _ => rfl, rfl, rfl⟩, fun r3 => ?_⟩
  conv => whnf
  refine .inr ⟨7, 12, 13, ?_⟩
  conv => whnf
  refine ⟨⟨fun _ _ => rfl, rfl, rfl⟩, fun r4 => ?_⟩
  conv => whnf
  refine .inl ?_
  conv => whnf
  refine ⟨7, ?_⟩
  conv => whnf
  refine ⟨.inl rfl, ⟨fun _ _ => rfl, trivial⟩, ?_⟩
  refine ⟨_, _, _, _, [⟨false, r2, 0, 5, 5, by unfold SliOk; decide, [pt 0 0 0, pt 0 0 0, pt 2 0 0, pt 2 2 0, pt 0 0 0], by decide, 1, by decide⟩, ⟨false, r3, 0, 3, 3, by unfold SliOk; decide, [pt 2 0 0, pt 2 2 0, pt 0 0 0], by decide, 2, by decide⟩, ⟨false, r4, 0, 3, 3, by unfold SliOk; decide, [pt 2 2 0, pt 2 0 0, pt 0 0 0], by decide, 3, by decide⟩], _, rfl, rfl, ⟨by simp, fun p hp => ?_⟩, fun o2 f2 ho2 hf2 => ?_⟩
  · simp only [List.mem_cons, List.not_mem_nil, or_false] at hp
    rcases hp with rfl | rfl | rfl <;> exact ⟨by simp, .inr (by first | exact ⟨_, .head _, rfl, rfl⟩ | exact ⟨_, .tail _ (.head _), rfl, rfl⟩ | exact ⟨_, .tail _ (.tail _ (.head _)), rfl, rfl⟩ | exact ⟨_, .tail _ (.tail _ (.tail _ (.head _))), rfl, rfl⟩ | exact ⟨_, .tail _ (.tail _ (.tail _ (.tail _ (.head _)))), rfl, rfl⟩ | exact ⟨_, .tail _ (.tail _ (.tail _ (.tail _ (.tail _ (.head _))))), rfl, rfl⟩)⟩
  rw [san1] at ho2 hf2
  obtain ⟨o2l, o2n, o2c, o2k⟩ := o2
  dsimp only at ho2
  subst ho2
  obtain ⟨f2l, f2n, f2c, f2k⟩ := f2
  dsimp only at hf2
  subst hf2
  conv => whnf
  refine .inl ?_
  conv => whnf
  refine .inr ⟨7, 16, 18, ?_⟩
  conv => whnf
  refine ⟨⟨fun _ _ => rfl, rfl, rfl⟩, fun r5 => ?_⟩
  conv => whnf
  refine .inr ⟨7, 17, 18, ?_⟩
  conv => whnf
  refine ⟨⟨fun _ _ => rfl, rfl, rfl⟩, fun r6 => ?_⟩
  conv => whnf
  refine .inl ?_
  conv => whnf
  refine ⟨7, ?_⟩
  conv => whnf
  refine ⟨.inl rfl, ⟨fun _ _ => rfl, trivial⟩, ?_⟩
  refine ⟨_, _, _, _, [⟨false, r5, 0, 3, 3, by unfold SliOk; decide, [pt 0 0 0, pt 1 0 0, pt 2 0 0], by decide, 4, by decide⟩, ⟨false, r6, 0, 2, 2, by unfold SliOk; decide, [pt 0 0 0, pt 2 0 0], by decide, 5, by decide⟩], _, rfl, rfl, ⟨by simp, fun p hp => ?_⟩, fun o3 f3 ho3 hf3 => ?_⟩
  · simp only [List.mem_cons, List.not_mem_nil, or_false] at hp
    rcases hp with rfl | rfl <;> exact ⟨by simp, .inr (by first | exact ⟨_, .head _, rfl, rfl⟩ | exact ⟨_, .tail _ (.head _), rfl, rfl⟩ | exact ⟨_, .tail _ (.tail _ (.head _)), rfl, rfl⟩ | exact ⟨_, .tail _ (.tail _ (.tail _ (.head _))), rfl, rfl⟩ | exact ⟨_, .tail _ (.tail _ (.tail _ (.tail _ (.head _)))), rfl, rfl⟩ | exact ⟨_, .tail _ (.tail _ (.tail _ (.tail _ (.tail _ (.head _))))), rfl, rfl⟩)⟩
  rw [san2] at ho3 hf3
  obtain ⟨o3l, o3n, o3c, o3k⟩ := o3
  dsimp only at ho3
  subst ho3
  obtain ⟨f3l, f3n, f3c, f3k⟩ := f3
  dsimp only at hf3
  subst hf3
  conv => whnf
  refine .inl ?_
  conv => whnf
  refine .inl ?_
  conv => whnf
  refine ⟨⟨trsC_pure _, fun _ _ => rfl, trivial⟩, ⟨_, _, _, _, _, _, _, _, _, _, [⟨pt 0 0 0, pt 2 0 0, pt 2 2 0⟩, ⟨pt 0 0 0, pt 2 2 0, pt 0 2 0⟩], [⟨pt 0 0 0, pt 2 0 0, pt 2 2 0⟩, ⟨pt 0 0 0, pt 2 2 0, pt 0 2 0⟩], true, rfl, rfl, Nat.le_refl _, Nat.le_refl _, (by kernel_rfl), ?_⟩⟩
  conv => whnf
  refine .inl ?_
  conv => whnf
  refine .inl ?_
  conv => whnf
  refine ⟨⟨trsC_pure _, fun _ _ => rfl, trivial⟩, ⟨_, _, _, _, _, _, _, _, _, _, [⟨pt 0 0 0, pt 2 0 0, pt 2 2 0⟩], [⟨pt 0 0 0, pt 2 0 0, pt 2 2 0⟩], true, rfl, rfl, Nat.le_refl _, Nat.le_refl _, (by kernel_rfl), ?_⟩⟩
  conv => whnf
  refine .inl ?_
  conv => whnf
  refine .inl ?_
  conv => whnf
  refine ⟨⟨ftsC_pure _, fun _ _ => rfl, trivial⟩, ⟨_, _, _, _, _, _, _, _, _, _, [⟨2, 24, by decide, by decide⟩, ⟨3, 26, by decide, by decide⟩], [⟨2, 24, by decide, by decide⟩, ⟨3, 26, by decide, by decide⟩], true, rfl, rfl, Nat.le_refl _, Nat.le_refl _, (by kernel_rfl), ?_⟩⟩
  conv => whnf
  refine .inl ?_
  conv => whnf
  refine .inl ?_
  conv => whnf
  refine ⟨⟨ftsC_pure _, fun _ _ => rfl, trivial⟩, ⟨_, _, _, _, _, _, _, _, _, _, [⟨4, 25, by decide, by decide⟩, ⟨5, 25, by decide, by decide⟩], [⟨4, 25, by decide, by decide⟩, ⟨5, 25, by decide, by decide⟩], true, rfl, rfl, Nat.le_refl _, Nat.le_refl _, (by kernel_rfl), ?_⟩⟩
  conv => whnf
  refine ⟨[], [], fun _ => ?_⟩
  conv => whnf
  exact ⟨_, [], rfl, trivial, trivial, _, fun _ => rfl, hc⟩
end Go.Proofs.YtdjpbccaglkafaaDoor
