/- The reckoner is sound: blocks, calls, lists of operations, code. -/
import Derived.Test.YtapppahniablmaaDoorSxEff
namespace Go.Proofs.YtapppahniablmaaDoor
open Go.RowKit

def Eff.isVal : Option Eff → Prop
  | some (.val _) => True
  | none => True
  | _ => False
theorem pureO_val (s : Sem Value) : Eff.isVal (pureO s) := by unfold pureO; split <;> trivial
theorem binS_val (T : TypeId → Option TI) (op : BinOp) (t : TypeId) (x y : SV) : Eff.isVal (binS T op t x y) := by
  unfold binS
  (repeat' split) <;> first | trivial | exact pureO_val _
section
variable {P : Program} {T : TypeId → Option TI} (hT : TOk P T)
include hT
theorem eff_new {o : Oper} {ev : Operand → SV} {hp : Nat → Option Blk} {b : Blk} {f : Nat → SV} (h : eff T o.op ev hp = some (.new b f)) (ρ : Rho) (w : World) :
    ∃ val, (execOp (evr ev ρ) o).run P w = .ok (.value val) (w.alloc (.cells (cellsL ρ b.cs).toArray b.ty)) ∧ b.ro = false ∧ ∀ (ρ' : Rho) (n : Nat), ρ' n = (w.heap.size, 0) → (f n).den ρ' = val := by
  obtain ⟨dst, op, ty, pos, after, guard⟩ := o
  simp only at h
  cases op <;> simp only [eff] at h <;> try (cases h; done)
  case alloc t =>
    split at h
    · rename_i ti ht
      cases h
      refine ⟨.pointer (some ⟨w.heap.size, 0, none⟩), ?_, rfl, fun ρ' n hn => by simp [SV.den, C.den, C.cells, adr, hn]⟩
      simp only [execOp, Sem.run_bind, run_alloc_sx hT ht ρ, Result.andThen_ok, Sem.run_pure]
    · cases h
  case box t x =>
    split at h
    · rename_i l hl
      split at h
      · cases h
        refine ⟨.pointer (some ⟨w.heap.size, 0, none⟩), ?_, rfl, fun ρ' n hn => by simp [SV.den, C.den, C.cells, adr, hn]⟩
        simp only [execOp, evr, Sem.run_bind, run_box_sx hl ρ, Result.andThen_ok, Sem.run_pure]
      · cases h
    · cases h
  case buildSlice t len parts =>
    split at h
    · rename_i sz ag z e esz ez eq ht
      split at h
      · rename_i cs hf
        split at h
        · rename_i hl
          cases h
          refine ⟨.slice (some ⟨w.heap.size, 0, none⟩) len len, ?_, rfl, fun ρ' n hn => by simp [SV.den, C.den, C.cells, hn]⟩
          have hp := parts_map ev ρ parts
          simp only [execOp, Sem.run_bind, run_buildSlice_sx (sh_ok hT ht) hp hf hl.2 w, Result.andThen_ok, Sem.run_pure]
        · cases h
      · cases h
    · cases h
  case store t x y => (repeat' split at h) <;> cases h
  all_goals
    exfalso
    have hv : Eff.isVal (some (.new b f)) := by
      rw [← h]
      (repeat' split) <;> first | trivial | exact pureO_val _ | exact binS_val _ _ _ _ _
    exact hv
theorem eff_put {o : Oper} {ev : Operand → SV} {hp : Nat → Option Blk} {b : Nat} {cs : List C} (h : eff T o.op ev hp = some (.put b cs)) :
    ∃ blk off l, hp b = some blk ∧ blk.ro = false ∧ isStore o.op = true ∧ ∀ (ρ : Rho) (w : World), Holds ρ blk b w → (execOp (evr ev ρ) o).run P w = .ok .skip (w.setCells (ρ b).1 off (cellsL ρ l)) ∧
      (w.setCells (ρ b).1 off (cellsL ρ l)).heap[(ρ b).1]? = some (.cells (cellsL ρ cs).toArray blk.ty (0, 0)) := by
  obtain ⟨dst, op, ty, pos, after, guard⟩ := o
  simp only at h
  cases op <;> simp only [eff] at h <;> try (cases h; done)
  case store t x y =>
    split at h
    · rename_i b' off l ti hx hy ht
      split at h
      · rename_i hs
        split at h
        · rename_i blk hb
          split at h
          · cases h
          · rename_i hro
            have hro : blk.ro = false := by simpa using hro
            split at h
            · rename_i cs' hc
              cases h
              refine ⟨blk, off, l, hb, hro, rfl, fun ρ w hh => ?_⟩
              obtain ⟨h1, h2⟩ := run_store_sx hT ht hh hro hy hs.1 hs.2 hc
              have hpx : (SV.c (C.ptr b off)).den ρ = adr ρ b off := rfl
              refine ⟨?_, h2⟩
              simp only [execOp, evr, hx, hpx, Sem.run_bind, h1, Result.andThen_ok, Sem.run_pure]
            · cases h
        · cases h
      · cases h
    · cases h
  case alloc t => (repeat' split at h) <;> cases h
  case buildSlice t len parts => (repeat' split at h) <;> cases h
  case box t x => (repeat' split at h) <;> cases h
  all_goals
    exfalso
    have hv : Eff.isVal (some (.put b cs)) := by
      rw [← h]
      (repeat' split) <;> first | trivial | exact pureO_val _ | exact binS_val _ _ _ _ _
    exact hv
omit hT in
def Callable (P : Program) (f : FuncId) : Prop := ∃ fn, P.funcs[f]? = some fn ∧ fn.body.isNone = false ∧ (fn.name == "runtime.NumGoroutine") = false
omit hT in
theorem run_call_sx {o : Oper} {c : Call} (ho : o.op = .call c) {ev : Operand → SV} {f : FuncId} {args : List SV} (hc : callee ev c = some (f, args)) (hf : Callable P f) (ρ : Rho) (w : World) :
    (execOp (evr ev ρ) o).run P w = .ok (.enter f (args.map (SV.den ρ)).toArray) w := by
  obtain ⟨fn, h1, h2, h3⟩ := hf
  obtain ⟨ce, xs, ts⟩ := c
  unfold callee at hc
  split at hc
  · rename_i fo hce
    split at hc
    · rename_i g caps hg
      cases hc
      simp only at hce
      subst hce
      have e : (SV.c (C.fn f caps)).den ρ = .func (.func f) #[] (caps.map fun p => adr ρ p.1 p.2).toArray := rfl
      have ea : #[] ++ xs.map (evr ev ρ) ++ (caps.map fun p => adr ρ p.1 p.2).toArray = ((xs.toList.map ev ++ caps.map fun p => SV.c (.ptr p.1 p.2)).map (SV.den ρ)).toArray := by
        apply Array.toList_inj.1
        simp [evr, Function.comp_def, SV.den, C.den, C.cells]
      simp only [execOp, ho, resolve]
      have e2 : evr ev ρ fo = .func (.func f) #[] (caps.map fun p => adr ρ p.1 p.2).toArray := by simp only [evr, hg, e]
      rw [e2]
      simp only [Deferred.ofValue, Sem.run_bind, Sem.run_pure, Result.andThen_ok, invoke, ea, callFunc, run_program, h1, h2, h3]
      simp
    · cases hc
  · cases hc
end

/-- the blocks that are known, and where they lie -/
def Agr (hf : Nat → Option Blk) (ρ ρ0 : Rho) : Prop := ∀ i, (hf i).isSome = true → ρ i = ρ0 i
def upF (hf : Nat → Option Blk) (n : Nat) (b : Blk) : Nat → Option Blk := fun i => if i = n then some b else hf i
def upR (ρ : Rho) (n : Nat) (p : Nat × Nat) : Rho := fun i => if i = n then p else ρ i
/-- the world in which the walk began, and the blocks that lay there then -/
structure Base where
  w : World
  B : Nat → Prop
  ρ : Rho
structure HRel (N : Nat) (w0 : Base) (hf : Nat → Option Blk) (ρ0 : Rho) (w : World) : Prop where
  old : ∀ i b, hf i = some b → (ρ0 i).1 < w.heap.size
  own : ∀ i b, hf i = some b → b.ro = false → N ≤ (ρ0 i).1
  apart : ∀ i j b c, hf i = some b → b.ro = false → hf j = some c → j ≠ i → (ρ0 j).1 ≠ (ρ0 i).1
  holds : ∀ ρ, Agr hf ρ ρ0 → ∀ i b, hf i = some b → Holds ρ b i w
  bel : Below N w0.w w
  big : N ≤ w.heap.size
  ext : ∀ i, w0.B i → (hf i).isSome = true ∧ ρ0 i = w0.ρ i
theorem Holds.keep {ρ : Rho} {b : Blk} {i : Nat} {w w' : World} (h : Holds ρ b i w) (hk : w'.heap[(ρ i).1]? = w.heap[(ρ i).1]?) : Holds ρ b i w' :=
  ⟨fun j v hv => (World.cell?_of_block (w := w) (a := ⟨(ρ i).1, (ρ i).2 + j, none⟩) hk).trans (h.1 j v hv), fun hr => ⟨(h.2 hr).1, hk.trans (h.2 hr).2⟩⟩
theorem Agr.refl (hf : Nat → Option Blk) (ρ : Rho) : Agr hf ρ ρ := fun _ _ => rfl
theorem HRel.below {N : Nat} {w0 : Base} {hf : Nat → Option Blk} {ρ0 : Rho} {w w' : World} (h : HRel N w0 hf ρ0 w) (hb : Below w.heap.size w w') : HRel N w0 hf ρ0 w' where
  old i b hi := Nat.lt_of_lt_of_le (h.old i b hi) hb.size
  own := h.own
  apart := h.apart
  holds ρ hρ i b hi := (h.holds ρ hρ i b hi).keep (hb.block _ (by rw [hρ i (by rw [hi]; rfl)]; exact h.old i b hi))
  bel := h.bel.trans (hb.mono h.big)
  big := Nat.le_trans h.big hb.size
  ext := h.ext
theorem range_whole {w : World} {g : Nat} {cs : List Value} {t : TypeId} (h : w.heap[g]? = some (.cells cs.toArray t (0, 0))) : w.rangeAt g 0 cs := fun j v hv => by
  rw [Nat.zero_add, cell_of_row _ _ _ _ _ _ h]; simpa using hv
theorem HRel.new {N : Nat} {w0 : Base} {hf : Nat → Option Blk} {ρ0 : Rho} {w : World} (h : HRel N w0 hf ρ0 w) {n : Nat} (hn : hf n = none) {b : Blk} (hro : b.ro = false) {L : List Value}
    (hL : ∀ ρ, Agr hf ρ ρ0 → cellsL ρ b.cs = L) : HRel N w0 (upF hf n b) (upR ρ0 n (w.heap.size, 0)) (w.alloc (.cells L.toArray b.ty)) := by
  have hne : ∀ i c, hf i = some c → i ≠ n := fun i c hi e => by rw [e, hn] at hi; cases hi
  have hup : ∀ i c, upF hf n b i = some c → (i = n ∧ c = b) ∨ (i ≠ n ∧ hf i = some c) := fun i c hi => by
    unfold upF at hi
    split at hi
    · rename_i e; cases hi; exact .inl ⟨e, rfl⟩
    · rename_i e; exact .inr ⟨e, hi⟩
  have hr : ∀ i, i ≠ n → upR ρ0 n (w.heap.size, 0) i = ρ0 i := fun i e => if_neg e
  have hrn : upR ρ0 n (w.heap.size, 0) n = (w.heap.size, 0) := if_pos rfl
  refine ⟨fun i c hi => ?_, fun i c hi hc => ?_, fun i j c d hi hc hj hji => ?_, fun ρ hρ i c hi => ?_, h.bel.alloc h.big _, Nat.le_trans h.big (by simp), fun i hi => ?_⟩
  · rcases hup i c hi with ⟨rfl, rfl⟩ | ⟨e, hi⟩
    · rw [hrn]; simp
    · rw [hr i e]; have := h.old i c hi; simp; omega
  · rcases hup i c hi with ⟨rfl, rfl⟩ | ⟨e, hi⟩
    · rw [hrn]; exact h.big
    · rw [hr i e]; exact h.own i c hi hc
  · rcases hup i c hi with ⟨rfl, rfl⟩ | ⟨e, hi1⟩ <;> rcases hup j d hj with ⟨rfl, rfl⟩ | ⟨e', hj1⟩
    · exact absurd rfl hji
    · rw [hrn, hr j e']; have := h.old j d hj1; simp; omega
    · rw [hrn, hr i e]; have := h.old i c hi1; simp; omega
    · rw [hr i e, hr j e']; exact h.apart i j c d hi1 hc hj1 hji
  · have hρ' : Agr hf ρ ρ0 := fun k hk => by
      obtain ⟨c', hc'⟩ := Option.isSome_iff_exists.1 hk
      have := hρ k (by unfold upF; rw [if_neg (hne k c' hc')]; exact hk)
      rw [this, hr k (hne k c' hc')]
    rcases hup i c hi with ⟨rfl, rfl⟩ | ⟨e, hi⟩
    · have hi' : ρ i = (w.heap.size, 0) := by rw [hρ i (by unfold upF; rw [if_pos rfl]; rfl), hrn]
      unfold Holds
      rw [hi', hL ρ hρ']
      have hk := heap_alloc_new w (.cells L.toArray c.ty)
      exact ⟨range_whole hk, fun _ => ⟨rfl, hk⟩⟩
    · refine (h.holds ρ hρ' i c hi).keep (Below.heap_alloc _ _ _ ?_)
      rw [hρ' i (by rw [hi]; rfl)]; exact h.old i c hi
  · obtain ⟨h1, h2⟩ := h.ext i hi
    have hin : i ≠ n := fun e => by rw [e, hn] at h1; cases h1
    rw [hr i hin]
    refine ⟨?_, h2⟩
    unfold upF; rw [if_neg hin]; exact h1
theorem HRel.put {N : Nat} {w0 : Base} {hf : Nat → Option Blk} {ρ0 : Rho} {w : World} (h : HRel N w0 hf ρ0 w) {b off : Nat} {blk : Blk} {L M : List Value} {cs : List C} (hb : hf b = some blk) (hro : blk.ro = false)
    (hk : (w.setCells (ρ0 b).1 off M).heap[(ρ0 b).1]? = some (.cells L.toArray blk.ty (0, 0))) (hL : ∀ ρ, Agr hf ρ ρ0 → cellsL ρ cs = L) :
    HRel N w0 (upF hf b { ty := blk.ty, ro := blk.ro, cs := cs }) ρ0 (w.setCells (ρ0 b).1 off M) := by
  have hup : ∀ i c, upF hf b { ty := blk.ty, ro := blk.ro, cs := cs } i = some c → (i = b ∧ c = { ty := blk.ty, ro := blk.ro, cs := cs }) ∨ (i ≠ b ∧ hf i = some c) := fun i c hi => by
    unfold upF at hi
    split at hi
    · rename_i e; cases hi; exact .inl ⟨e, rfl⟩
    · rename_i e; exact .inr ⟨e, hi⟩
  have hN := h.own b blk hb hro
  have hsz := sx_setCells_size (g := (ρ0 b).1) M off w
  refine ⟨fun i c hi => ?_, fun i c hi hc => ?_, fun i j c d hi hc hj hji => ?_, fun ρ hρ i c hi => ?_, sx_setCells_below hN _ _ h.bel, by rw [hsz]; exact h.big, fun i hi => ?_⟩
  · rw [hsz]
    rcases hup i c hi with ⟨rfl, rfl⟩ | ⟨e, hi⟩
    · exact h.old i blk hb
    · exact h.old i c hi
  · rcases hup i c hi with ⟨rfl, rfl⟩ | ⟨e, hi⟩
    · exact hN
    · exact h.own i c hi hc
  · rcases hup i c hi with ⟨rfl, rfl⟩ | ⟨e, hi1⟩ <;> rcases hup j d hj with ⟨rfl, rfl⟩ | ⟨e', hj1⟩
    · exact absurd rfl hji
    · exact h.apart i j blk d hb hro hj1 hji
    · exact h.apart i j c blk hi1 hc hb hji
    · exact h.apart i j c d hi1 hc hj1 hji
  · have hρ' : Agr hf ρ ρ0 := fun k hk => hρ k (by unfold upF; split; rfl; exact hk)
    have hbb : ρ b = ρ0 b := hρ' b (by rw [hb]; rfl)
    rcases hup i c hi with ⟨rfl, rfl⟩ | ⟨e, hi⟩
    · unfold Holds
      have h0 := ((h.holds ρ hρ' i blk hb).2 hro).1
      rw [hbb] at h0 ⊢
      rw [hL ρ hρ', h0]
      exact ⟨range_whole hk, fun _ => ⟨rfl, hk⟩⟩
    · refine (h.holds ρ hρ' i c hi).keep (sx_setCells_other ?_ _ _ _)
      rw [hρ' i (by rw [hi]; rfl)]
      exact h.apart b i blk c hb hro hi e
  · obtain ⟨h1, h2⟩ := h.ext i hi
    refine ⟨?_, h2⟩
    unfold upF; split
    · rfl
    · exact h1

theorem den_ofConst (v : Value) (ρ : Rho) : (ofConst v).den ρ = v := by
  unfold ofConst
  split
  · split <;> rfl
  · rename_i cs
    have : cellsL ρ (cs.toList.map .val) = cs.toList := by
      induction cs.toList with
      | nil => rfl
      | cons x l ih => rw [List.map_cons, cellsL_cons, ih]; rfl
    rw [den_agg, this]
  · rfl
theorem den_uv (ρ : Rho) : uv.den ρ = undef := rfl
theorem nth_den (ρ : Rho) (tm : List SV) (t : Nat) : (nth uv tm t).den ρ = ((tm.map (SV.den ρ))[t]?).getD undef := by
  rw [nth_eq]
  simp only [List.getElem?_map]
  cases tm[t]? <;> rfl
theorem eval_ok {a : Act} {tm : List SV} {ρ : Rho} (h : a.tmps.toList = tm.map (SV.den ρ)) : a.eval = evr (evm tm) ρ := by
  funext x
  cases x with
  | tmp t =>
    simp only [Act.eval, evr, evm, nth_den, ← h]
    simp
  | const v => simp only [Act.eval, evr, evm, den_ofConst]
  | global g => rfl
  | func f => rfl
theorem put_ok {a : Act} {tm : List SV} {ρ : Rho} (h : a.tmps.toList = tm.map (SV.den ρ)) (d : Option Tmp) (v : SV) {u : Value} (hu : u = v.den ρ) :
    (a.put d u).tmps.toList = (match d with | some t => tm.set t v | none => tm).map (SV.den ρ) := by
  subst hu
  cases d with
  | none => exact h
  | some t => simp [Act.put, h]
theorem put_defers (a : Act) (d : Option Tmp) (u : Value) : (a.put d u).defers = a.defers := by cases d <;> rfl
end Go.Proofs.YtapppahniablmaaDoor
