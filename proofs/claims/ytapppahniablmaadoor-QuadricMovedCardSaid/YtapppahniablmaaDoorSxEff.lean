/- The reckoner: each operation's effect is what the model says. -/
import Derived.Laws.StructEq
import Derived.Test.YtapppahniablmaaDoorSxRun
namespace Go.Proofs.YtapppahniablmaaDoor
open Go.RowKit

theorem wid_cells_iff (ρ : Rho) {j k : Nat} {y z : Int} (hy : Sm j y) (hz : Sm k z) : (C.wid j y hy).cells ρ = (C.wid k z hz).cells ρ ↔ y = z := by
  simp only [C.cells, List.cons.injEq, and_true, Value.bool.injEq, Value.string.injEq]
  have := Can.inj (b := decide (y < 0)) (s := ⟨(mag y.natAbs).toArray⟩) (b' := decide (z < 0)) (s' := ⟨(mag z.natAbs).toArray⟩) (z := y) (z' := z) ⟨rfl, rfl⟩ ⟨rfl, rfl⟩
  exact this
theorem andO_spec {a : Bool} {l : List C} {r : Option Bool} {b : Bool} (h : andO a l r = some b) : (∃ c, r = some c ∧ l ≠ [] ∧ b = (a && c)) ∨ (l = [] ∧ (∃ c, r = some c) ∧ b = a) := by
  unfold andO at h
  split at h
  · cases h; exact .inr ⟨rfl, ⟨_, rfl⟩, rfl⟩
  · rename_i l' b' hl
    cases h
    exact .inl ⟨_, rfl, fun hn => hl hn, rfl⟩
  · cases h
/-- one step of a comparison -/
theorem eq_step {a : Bool} {l m : List C} {ks : List K} {kx : List K} {x y : List Value} {r : Bool} (ρ : Rho) (ha : a = true ↔ x = y) (hx : Fits kx x) (hy : Fits kx y)
    (ih : ∀ r, eqL ks l m = some r → Fits ks (cellsL ρ l) ∧ Fits ks (cellsL ρ m) ∧ (r = true ↔ cellsL ρ l = cellsL ρ m)) (h : andO a l (eqL ks l m) = some r) :
    Fits (kx ++ ks) (x ++ cellsL ρ l) ∧ Fits (kx ++ ks) (y ++ cellsL ρ m) ∧ (r = true ↔ x ++ cellsL ρ l = y ++ cellsL ρ m) := by
  have hlen : x.length = y.length := by rw [hx.length, hy.length]
  rcases andO_spec h with ⟨c, hc, -, rfl⟩ | ⟨rfl, ⟨c, hc⟩, rfl⟩
  · obtain ⟨f1, f2, hiff⟩ := ih c hc
    refine ⟨hx.append f1, hy.append f2, ?_⟩
    rw [Bool.and_eq_true, ha, hiff]
    constructor
    · rintro ⟨e1, e2⟩; rw [e1, e2]
    · intro e; exact List.append_inj e hlen
  · obtain ⟨f1, f2, hiff⟩ := ih c hc
    refine ⟨hx.append f1, hy.append f2, ?_⟩
    have hm : cellsL ρ m = [] := by
      have := f1.length
      rw [← f2.length] at this
      exact List.eq_nil_of_length_eq_zero this.symm
    rw [ha, hm]
    simp [cellsL]
theorem eqL_spec (ρ : Rho) : ∀ (ks : List K) (l m : List C) (r : Bool), eqL ks l m = some r → Fits ks (cellsL ρ l) ∧ Fits ks (cellsL ρ m) ∧ (r = true ↔ cellsL ρ l = cellsL ρ m) := by
  intro ks l m
  induction ks, l, m using eqL.induct with
  | case1 => intro r h; simp [eqL] at h; subst h; exact ⟨trivial, trivial, by simp⟩
  | case2 ks j y hy l k z hz m ih =>
    intro r h
    rw [eqL] at h
    exact eq_step (kx := [.b, .s]) (x := (C.wid j y hy).cells ρ) (y := (C.wid k z hz).cells ρ) ρ (by rw [wid_cells_iff]; simp) ⟨trivial, trivial, trivial⟩ ⟨trivial, trivial, trivial⟩ ih h
  | case3 ks j y hy l b s m ih =>
    intro r h
    rw [eqL] at h
    exact eq_step (kx := [.b, .s]) (x := (C.wid j y hy).cells ρ) (y := [.bool b, .string s]) ρ (by simp [C.cells]) ⟨trivial, trivial, trivial⟩ ⟨trivial, trivial, trivial⟩ ih h
  | case4 ks b s l k z hz m ih =>
    intro r h
    rw [eqL] at h
    exact eq_step (kx := [.b, .s]) (x := [.bool b, .string s]) (y := (C.wid k z hz).cells ρ) ρ (by simp [C.cells]) ⟨trivial, trivial, trivial⟩ ⟨trivial, trivial, trivial⟩ ih h
  | case5 ks a ha l b hb m ih =>
    intro r h
    rw [eqL] at h
    exact eq_step (kx := [.i .i64]) (x := [.int .i64 a]) (y := [.int .i64 b]) ρ (by simp) ⟨rfl, trivial⟩ ⟨rfl, trivial⟩ ih h
  | case6 ks k i a l j b m hc ih =>
    intro r h
    rw [eqL, if_pos hc] at h
    obtain ⟨rfl, rfl⟩ := hc
    exact eq_step (kx := [.i _]) (x := [.int _ a]) (y := [.int _ b]) ρ (by simp) ⟨rfl, trivial⟩ ⟨rfl, trivial⟩ ih h
  | case7 ks k i a l j b m hc =>
    intro r h
    rw [eqL, if_neg hc] at h
    cases h
  | case8 ks a l b m ih =>
    intro r h
    rw [eqL] at h
    · exact eq_step (kx := [.b]) (x := [.bool a]) (y := [.bool b]) ρ (by simp) ⟨trivial, trivial⟩ ⟨trivial, trivial⟩ ih h
    all_goals assumption
  | case9 ks a l b m ih =>
    intro r h
    rw [eqL] at h
    exact eq_step (kx := [.s]) (x := [.string a]) (y := [.string b]) ρ (by simp) ⟨trivial, trivial⟩ ⟨trivial, trivial⟩ ih h
  | case10 ks l m h1 h2 h3 h4 h5 h6 h7 h8 =>
    intro r h
    rw [eqL] at h
    · cases h
    all_goals assumption

def evr (ev : Operand → SV) (ρ : Rho) : Operand → Value := fun x => (ev x).den ρ
section
variable {P : Program} {T : TypeId → Option TI} (hT : TOk P T)
include hT
theorem sh_ok {t : TypeId} {ti : TI} (h : T t = some ti) : ShOk P t ti.sh := (hT t ti h).sh
omit hT in
theorem den_agg (ρ : Rho) (l : List C) : (SV.agg l).den ρ = .agg (cellsL ρ l).toArray := rfl
theorem run_eql_sx {t : TypeId} {ti : TI} (h : T t = some ti) {ks : List K} (hk : ti.eq = some ks) {ρ : Rho} {l m : List C} {r : Bool} (hr : eqL ks l m = some r) (w : World) :
    (Op.equal t (.agg (cellsL ρ l).toArray) (.agg (cellsL ρ m).toArray)).run P w = .ok r w := by
  obtain ⟨h1, h2, h3⟩ := (hT t ti h).eq ks hk
  obtain ⟨f1, f2, hiff⟩ := eqL_spec ρ ks l m r hr
  have hrow := (hT t ti h).row
  rw [h3] at hrow
  obtain ⟨r', hr', hiff'⟩ := eqK (P := P) 9 t ks h1 9991 w _ _ true hrow f1 f2
  have : r' = r := by
    rw [← hiff] at hiff'
    cases r <;> cases r' <;> simp_all
  subst this
  exact hr'
theorem binS_ok {op : BinOp} {t : TypeId} {x y : SV} {v : SV} (h : binS T op t x y = some (.val v)) (ρ : Rho) (w : World) (ox oy : Operand) :
    (do eqGuard op t ox oy (x.den ρ) (y.den ρ); binOp op t (x.den ρ) (y.den ρ) : Sem Value).run P w = .ok (v.den ρ) w := by
  unfold binS at h
  split at h
  · rename_i a ha b hb
    have e1 : (SV.c (C.int a ha)).den ρ = .int .i64 a := rfl
    have e2 : (SV.c (C.int b hb)).den ρ = .int .i64 b := rfl
    rw [e1, e2, eqGuard_at_int]
    split at h
    all_goals first | (simp only [iv, bv, Option.some.injEq, Eff.val.injEq] at h; subst h) | skip
    · simp [binOp, Op.intArith, SV.den, C.den, C.cells]
    · simp [binOp, Op.intArith, SV.den, C.den, C.cells]
    · simp [binOp, Op.intArith, SV.den, C.den, C.cells]
    · simp [binOp, Op.intCmp, SV.den, C.den, C.cells]; rfl
    · simp [binOp, Op.intCmp, SV.den, C.den, C.cells]; rfl
    · simp [binOp, Op.intCmp, SV.den, C.den, C.cells]
    · simp [binOp, Op.intCmp, SV.den, C.den, C.cells]
    · simp [binOp, Op.intCmp, SV.den, C.den, C.cells]
    · simp [binOp, Op.intCmp, SV.den, C.den, C.cells]
    · split at h
      · cases h
      · rename_i hb0
        simp only [iv, Option.some.injEq, Eff.val.injEq] at h; subst h
        simp [binOp, Op.intDiv, hb0, SV.den, C.den, C.cells]
    · split at h
      · cases h
      · rename_i hb0
        simp only [Option.some.injEq, Eff.val.injEq] at h; subst h
        simp [binOp, Op.intDiv, hb0, SV.den, C.den, C.cells]
    · cases h
  · rename_i l m
    split at h
    · rename_i ti sz ag z sh ks hti
      have he := (hT _ _ hti).eq ks rfl
      rw [den_agg, den_agg, Sem.run_bind, run_eqGuard_agg w op t ox oy _ _ he.2.1]
      split at h
      · rename_i b hb
        simp only [bv, Option.some.injEq, Eff.val.injEq] at h; subst h
        have := run_eql_sx hT hti rfl hb (ρ := ρ) w
        simp [binOp, this, SV.den, C.den, C.cells]
      · rename_i b hb
        simp only [bv, Option.some.injEq, Eff.val.injEq] at h; subst h
        have := run_eql_sx hT hti rfl hb (ρ := ρ) w
        simp [binOp, this, SV.den, C.den, C.cells]
      · cases h
    · cases h
  · rename_i a b
    have e1 : (SV.c (C.val (.bool a))).den ρ = .bool a := rfl
    have e2 : (SV.c (C.val (.bool b))).den ρ = .bool b := rfl
    rw [e1, e2, eqGuard_at_bool]
    split at h
    · rename_i hti
      have hu : P.underlying t = some .bool := sh_ok hT hti
      have hq : (Op.equal t (.bool a) (.bool b)).run P w = .ok (a == b) w := run_equalIn_bool w 9999 t a b hu
      split at h
      · simp only [bv, Option.some.injEq, Eff.val.injEq] at h; subst h
        simp [binOp, hq, SV.den, C.den, C.cells]
      · simp only [bv, Option.some.injEq, Eff.val.injEq] at h; subst h
        simp [binOp, hq, SV.den, C.den, C.cells]
      · cases h
    · cases h
  · rename_i a b
    have e1 : (SV.c (C.val (.string a))).den ρ = .string a := rfl
    have e2 : (SV.c (C.val (.string b))).den ρ = .string b := rfl
    rw [e1, e2, eqGuard_at_string]
    unfold pureO at h
    split at h
    · rename_i v' hv
      simp only [Option.some.injEq, Eff.val.injEq] at h; subst h
      rw [Sem.run_bind, Sem.run_pure, Result.andThen_ok, hv]
      rfl
    · cases h
  · rename_i k a j b
    have e1 : (SV.c (C.val (.int k a))).den ρ = .int k a := rfl
    have e2 : (SV.c (C.val (.int j b))).den ρ = .int j b := rfl
    rw [e1, e2, eqGuard_at_int]
    unfold pureO at h
    split at h
    · rename_i v' hv
      simp only [Option.some.injEq, Eff.val.injEq] at h; subst h
      rw [Sem.run_bind, Sem.run_pure, Result.andThen_ok, hv]
      rfl
    · cases h
  · cases h
omit hT in
theorem den_int (ρ : Rho) (n : Int) (h : IR n) : (SV.c (.int n h)).den ρ = .int .i64 n := rfl
omit hT in
theorem natOf_ok {v : SV} {i : Nat} (h : natOf v = some i) (ρ : Rho) : v.den ρ = .int .i64 i := by
  unfold natOf at h
  split at h
  · cases h; rfl
  · cases h
omit hT in
theorem ptrs_ok (ρ : Rho) : ∀ {l : List SV} {ps : List (Nat × Nat)}, ptrs l = some ps → l.map (SV.den ρ) = ps.map fun p => adr ρ p.1 p.2
  | [], ps, h => by simp [ptrs] at h; subst h; rfl
  | v :: l, ps, h => by
    cases v with
    | agg _ => simp [ptrs] at h
    | tup _ => simp [ptrs] at h
    | c x =>
      cases x <;> simp only [ptrs] at h <;> try (cases h; done)
      case ptr b o =>
        split at h
        · rename_i m hm
          cases h
          simp only [List.map_cons, ptrs_ok ρ hm]
          rfl
        · cases h
omit hT in
theorem fields_get {fd : Array Field} {fs : List (Nat × Nat × Bool)} (h : fd.toList.map (fun f => (f.offset, P.cellsOf f.type, rowO P f.type)) = fs.map (fun x => (x.1, x.2.1, some x.2.2))) {f o n : Nat} {a : Bool} (hf : nthO fs f = some (o, n, a)) :
    ∃ g, fd[f]? = some g ∧ g.offset = o ∧ P.cellsOf g.type = n ∧ rowO P g.type = some a := by
  have := congrArg (·[f]?) h
  rw [nthO_eq] at hf
  simp only [List.getElem?_map, hf, Option.map_some, Option.map_eq_some_iff] at this
  obtain ⟨g, hg, he⟩ := this
  simp only [Prod.mk.injEq] at he
  exact ⟨g, by simpa using hg, he.1, he.2.1, he.2.2⟩
omit hT in
theorem built_array {t e : TypeId} {n esz : Nat} {z : List C} {a : Bool} (ρ : Rho) (hu : P.underlying t = some (.array n e)) (he : P.cellsOf e = esz) (hr : rowO P e = some a)
    (hz : ((P.info? t).bind (·.zero)).map (·.cells) = some (cellsL ρ z).toArray) {parts : List (Nat × SV)} {cs : List C} (hf : fillC (fun i => some (i * esz, esz)) z parts = some cs) :
    P.built t (parts.map (partV ρ)) = some (cellsL ρ cs).toArray := by
  obtain ⟨i, hi⟩ := info_of_underlying hu
  obtain ⟨j, hj⟩ := info_of_rowO hr
  unfold Program.built
  simp only [hi, Option.bind_some] at hz
  cases hz0 : i.zero with
  | none => simp [hz0] at hz
  | some z0 =>
    simp only [hz0, Option.map_some, Option.some.injEq] at hz
    have hes : j.size = esz := by simpa [Program.cellsOf, hj] using he
    simp only [hi, hu, hz0, hj, hz, hes]
    exact fillC_spec _ ρ _ _ _ hf
omit hT in
theorem places_ok {fd : List Field} {fs : List (Nat × Nat × Bool)} (h : fd.map (fun f => (f.offset, P.cellsOf f.type, rowO P f.type)) = fs.map (fun x => (x.1, x.2.1, some x.2.2))) :
    fd.mapM (fun f => (P.info? f.type).map fun i => (f.offset, i.size)) = some (fs.map fun x => (x.1, x.2.1)) := by
  induction fd generalizing fs with
  | nil => cases fs with
    | nil => rfl
    | cons x fs => simp at h
  | cons f fd ih =>
    cases fs with
    | nil => simp at h
    | cons x fs =>
      simp only [List.map_cons, List.cons.injEq, Prod.mk.injEq] at h
      obtain ⟨⟨h1, h2, h3⟩, h4⟩ := h
      obtain ⟨i, hi⟩ := info_of_rowO h3
      have hs : i.size = x.2.1 := by simpa [Program.cellsOf, hi] using h2
      simp [List.mapM_cons, hi, ih h4, h1, hs]
omit hT in
theorem built_struct {t : TypeId} {fd : Array Field} {fs : List (Nat × Nat × Bool)} {z : List C} (ρ : Rho) (hu : P.underlying t = some (.struct fd))
    (h : fd.toList.map (fun f => (f.offset, P.cellsOf f.type, rowO P f.type)) = fs.map (fun x => (x.1, x.2.1, some x.2.2)))
    (hz : ((P.info? t).bind (·.zero)).map (·.cells) = some (cellsL ρ z).toArray) {parts : List (Nat × SV)} {cs : List C} (hf : fillC (fun i => match nthO fs i with | some (o, n, _) => some (o, n) | none => none) z parts = some cs) :
    P.built t (parts.map (partV ρ)) = some (cellsL ρ cs).toArray := by
  obtain ⟨i, hi⟩ := info_of_underlying hu
  unfold Program.built
  simp only [hi, Option.bind_some] at hz
  cases hz0 : i.zero with
  | none => simp [hz0] at hz
  | some z0 =>
    simp only [hz0, Option.map_some, Option.some.injEq] at hz
    simp only [hi, hu, hz0, hz, places_ok h]
    have e : (fun i => match nthO fs i with | some (o, n, _) => some (o, n) | none => none) = (fun x => (fs.map fun x => (x.1, x.2.1)).toArray[x]?) := by
      funext j
      rw [nthO_eq]
      simp only [List.getElem?_toArray, List.getElem?_map]
      cases fs[j]? <;> rfl
    rw [← e]
    exact fillC_spec _ ρ _ _ _ hf
omit hT in
theorem parts_map (ev : Operand → SV) (ρ : Rho) (ps : Array (Nat × Operand)) : (ps.map fun (i, x) => (i, evr ev ρ x)).toList = (ps.toList.map fun p => (p.1, ev p.2)).map (partV ρ) := by
  simp [partV, evr, Function.comp_def]
/-- an operation that yields a value -/
theorem eff_val {o : Oper} {ev : Operand → SV} {hp : Nat → Option Blk} {v : SV} (h : eff T o.op ev hp = some (.val v)) (ρ : Rho) (w : World) (hh : ∀ b blk, hp b = some blk → Holds ρ blk b w) :
    (execOp (evr ev ρ) o).run P w = .ok (.value (v.den ρ)) w := by
  obtain ⟨dst, op, ty, pos, after, guard⟩ := o
  simp only at h
  cases op <;> simp only [eff] at h <;> try (cases h; done)
  case move x => cases h; rfl
  case assign x => cases h; rfl
  case pick c a b =>
    split at h
    · rename_i t hc
      split at h
      · rename_i x y ha hb
        simp only [bv, Option.some.injEq, Eff.val.injEq] at h; subst h
        simp only [execOp, evr, hc, ha, hb]
        cases t <;> simp [SV.den, C.den, C.cells, asBool]
      · simp only [Option.some.injEq, Eff.val.injEq] at h; subst h
        have e : (SV.c (C.val (.bool t))).den ρ = .bool t := rfl
        simp only [execOp, evr, hc, e]
        cases t <;> simp [selB, asBool]
    · cases h
  case alloc t => split at h <;> cases h
  case box t x =>
    split at h
    · split at h <;> cases h
    · cases h
  case buildSlice t len parts =>
    split at h
    · split at h
      · split at h <;> cases h
      · cases h
    · cases h
  case load t x =>
    split at h
    · rename_i b off ti hx ht
      split at h
      · rename_i blk hb
        split at h
        · rename_i v' hv
          cases h
          have := run_load_sx hT ht (hh b blk hb) hv
          have e : (SV.c (C.ptr b off)).den ρ = adr ρ b off := rfl
          simp only [execOp, evr, hx, e, Sem.run_bind, this, Result.andThen_ok, Sem.run_pure]
        · cases h
      · cases h
    · cases h
  case store t x y =>
    split at h
    · split at h
      · split at h
        · split at h
          · cases h
          · split at h <;> cases h
        · cases h
      · cases h
    · cases h
  case build t parts =>
    split at h
    · rename_i size ag z fs eq ht
      obtain ⟨fd, hu, hm, -⟩ := sh_ok hT ht
      split at h
      · rename_i cs hf
        cases h
        have hb := built_struct ρ hu hm ((hT _ _ ht).zero ρ) hf
        rw [← parts_map] at hb
        simp only [execOp, Sem.run_bind, run_build w t _ _ hb, Result.andThen_ok, Sem.run_pure]
        rfl
      · cases h
    · rename_i size ag z n esz a eq ht
      obtain ⟨e, hu, he, hr, -⟩ := sh_ok hT ht
      split at h
      · rename_i cs hf
        cases h
        have hb := built_array ρ hu he hr ((hT _ _ ht).zero ρ) hf
        rw [← parts_map] at hb
        simp only [execOp, Sem.run_bind, run_build w t _ _ hb, Result.andThen_ok, Sem.run_pure]
        rfl
      · cases h
    · cases h
  case binOp op t x y yt =>
    have := binS_ok hT h ρ w x y
    simp only [execOp, evr]
    rw [Sem.run_bind, this]
    rfl
  case unOp op t x =>
    split at h
    · rename_i b hx
      simp only [bv, Option.some.injEq, Eff.val.injEq] at h; subst h
      simp only [execOp, evr, hx]; rfl
    · rename_i a ha hx
      simp only [iv, Option.some.injEq, Eff.val.injEq] at h; subst h
      simp only [execOp, evr, hx]; rfl
    · rename_i op k a hx
      unfold pureO at h
      split at h
      · rename_i v' hv
        cases h
        have e : (SV.c (C.val (.int k a))).den ρ = .int k a := rfl
        simp only [execOp, evr, hx, e, hv]; rfl
      · cases h
    · cases h
  case convert s d x =>
    split at h
    all_goals first
      | (cases h; done)
      | (rename_i hs ht hx
         have hu := sh_ok hT ht
         obtain ⟨ds, hds, -⟩ := under_ok hT hs
         simp only [iv, Option.some.injEq, Eff.val.injEq] at h
         subst h
         simp only [execOp, evr, hx]
         simp only [ShOk] at hu
         simp [convert, run_underlying hds w, run_underlying hu w, SV.den, C.den, C.cells, Conv.intToInt])
  case fieldAddr t x f =>
    split at h
    · rename_i sz ag z fs eq b off ht hx
      obtain ⟨fd, hu, hm, -⟩ := sh_ok hT ht
      split at h
      · rename_i o n a hf
        split at h
        · cases h
        · rename_i hn
          cases h
          obtain ⟨g, hg, rfl, rfl, hr⟩ := fields_get hm hf
          obtain ⟨i, hi⟩ := info_of_rowO hr
          have e : (SV.c (C.ptr b off)).den ρ = adr ρ b off := rfl
          have hs := run_sizeOf w hi
          simp only [execOp, evr, hx, e, Instr.fieldAt, Sem.run_bind, run_underlying hu w, Result.andThen_ok, hg, adr, Instr.sureAddr, Sem.run_pure, fieldPlace, hs]
          rw [if_neg hn]
          simp only [Sem.run_pure, Result.andThen_ok, Addr.add_mid]
          simp [SV.den, C.den, C.cells, adr, Nat.add_assoc]
      · cases h
    · cases h
  case field t x f =>
    split at h
    · rename_i sz ag z fs eq l ht hx
      obtain ⟨fd, hu, hm, h1⟩ := sh_ok hT ht
      split at h
      · rename_i o n a hf
        split at h
        · rename_i v' hv
          cases h
          have hmem : (o, n, a) ∈ fs := by rw [nthO_eq] at hf; exact List.mem_of_getElem? hf
          obtain ⟨g, hg, rfl, rfl, hr⟩ := fields_get hm hf
          have hp := run_part_sx hr (fun e => h1 _ hmem e) hv w (ρ := ρ)
          simp only [execOp, evr, hx, den_agg, Instr.field, Sem.run_bind, run_underlying hu w, Result.andThen_ok, hg, asAgg, Sem.run_pure, hp]
        · cases h
      · cases h
    · cases h
  case indexAddr t x i =>
    split at h
    · rename_i sz ag z n esz a eq b off j ht hx hi
      obtain ⟨e, hu, he, hr, -⟩ := sh_ok hT ht
      split at h
      · rename_i hlt
        cases h
        obtain ⟨ie, hie⟩ := info_of_rowO hr
        have hs := run_sizeOf w hie
        have hpx : (SV.c (C.ptr b off)).den ρ = adr ρ b off := rfl
        have hj : (0 : Int) ≤ (j : Int) ∧ (j : Int) < (n : Int) := ⟨by omega, by omega⟩
        simp only [execOp, evr, hx, natOf_ok hi ρ, hpx, Instr.indexAt, asIntOf, Sem.run_bind, Sem.run_pure, Result.andThen_ok, run_underlying hu w, adr, Instr.sureAddr]
        rw [if_pos hj]
        simp only [Sem.run_bind, hs, Result.andThen_ok, Sem.run_pure, Addr.add_mid, Int.toNat_natCast, he]
        simp [SV.den, C.den, C.cells, adr, Nat.add_assoc]
      · cases h
    · rename_i sz ag z e esz ez eq b off len cap hl j ht hx hi
      obtain ⟨hu, he, hie, -⟩ := sh_ok hT ht
      split at h
      · rename_i hlt
        cases h
        obtain ⟨ie, hie⟩ := Option.isSome_iff_exists.1 hie
        have hs := run_sizeOf w hie
        have hpx : (SV.c (C.sli b off len cap hl)).den ρ = .slice (some ⟨(ρ b).1, (ρ b).2 + off, none⟩) len cap := rfl
        have hj : (0 : Int) ≤ (j : Int) ∧ (j : Int) < (len : Int) := ⟨by omega, by omega⟩
        simp only [execOp, evr, hx, natOf_ok hi ρ, hpx, Instr.indexAt, asIntOf, Sem.run_bind, Sem.run_pure, Result.andThen_ok, run_underlying hu w]
        rw [if_pos hj]
        simp only [Sem.run_bind, hs, Result.andThen_ok, Sem.run_pure, Addr.add_mid, Int.toNat_natCast, he]
        simp [SV.den, C.den, C.cells, adr, Nat.add_assoc]
      · cases h
    · cases h
  case index t x i =>
    split at h
    · rename_i sz ag z n esz a eq l j ht hx hi
      obtain ⟨e, hu, he, hr, h1⟩ := sh_ok hT ht
      split at h
      · rename_i hlt
        split at h
        · rename_i v' hv
          cases h
          obtain ⟨ie, hie⟩ := info_of_rowO hr
          have hs := run_sizeOf w hie
          subst he
          have hp := run_part_sx hr h1 hv w (ρ := ρ)
          have hj : (0 : Int) ≤ (j : Int) ∧ (j : Int) < (n : Int) := ⟨by omega, by omega⟩
          simp only [execOp, evr, hx, natOf_ok hi ρ, den_agg, Instr.index, asIntOf, Sem.run_bind, Sem.run_pure, Result.andThen_ok, run_underlying hu w]
          rw [if_pos hj]
          simp only [Sem.run_bind, hs, Result.andThen_ok, Int.toNat_natCast, hp]
        · cases h
      · cases h
    · cases h
  case extract x i =>
    split at h
    · rename_i l hx
      split at h
      · rename_i t ht
        cases h
        rw [nthO_eq] at ht
        have e : (SV.tup l).den ρ = .tuple (l.map (T1.den ρ)).toArray := rfl
        have : (l.map (T1.den ρ)).toArray[i]? = some (t.den ρ) := by simp [ht]
        simp only [execOp, evr, hx, e, Instr.extract, this, Sem.run_bind, Sem.run_pure, Result.andThen_ok]
        cases t <;> rfl
      · cases h
    · cases h
  case makeFunc fn first captured =>
    split at h
    · rename_i f ps hf hp
      cases h
      have hc := ptrs_ok ρ hp
      have hfirst : first = #[] := Array.toList_eq_nil_iff.1 hf
      subst hfirst
      have : captured.map (evr ev ρ) = (ps.map fun p => adr ρ p.1 p.2).toArray := by
        apply Array.toList_inj.1
        rw [← hc]
        simp [evr, Function.comp_def]
      simp only [execOp, this, Instr.makeFunc, Sem.run_bind, Sem.run_pure, Result.andThen_ok, Array.map_empty]
      rfl
    · cases h
  case call c =>
    obtain ⟨ce, args, ts⟩ := c
    simp only at h
    split at h
    · rename_i x t ha htt
      split at h
      · rename_i sz ag z e esz ez eq b off len cap hl ht hx
        cases h
        obtain ⟨hu, -⟩ := sh_ok hT ht
        have ea : args = #[x] := Array.toList_inj.1 (by rw [ha])
        have et : ts = #[t] := Array.toList_inj.1 (by rw [htt])
        subst ea; subst et
        simp only [execOp, resolve, invoke, builtin, Builtin.len_]
        simp [evr, hx, run_underlying hu w, goInt, SV.den, C.den, C.cells]
      · rename_i sz ag z e esz ez eq av len cap ht hx
        split at h
        · cases h
          obtain ⟨hu, -⟩ := sh_ok hT ht
          have ea : args = #[x] := Array.toList_inj.1 (by rw [ha])
          have et : ts = #[t] := Array.toList_inj.1 (by rw [htt])
          subst ea; subst et
          simp only [execOp, resolve, invoke, builtin, Builtin.len_]
          simp [evr, hx, run_underlying hu w, goInt, SV.den, C.den, C.cells]
        · cases h
      · cases h
    · cases h
end
end Go.Proofs.YtapppahniablmaaDoor
