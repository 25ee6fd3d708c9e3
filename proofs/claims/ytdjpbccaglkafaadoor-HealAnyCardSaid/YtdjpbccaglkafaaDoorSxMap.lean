/- Maps of the walk's own, by the reckoner: made, looked up, a new entry. -/
import Derived.Test.YtdjpbccaglkafaaDoorEno
import Derived.Maps.Keyed
namespace Go.Proofs.YtdjpbccaglkafaaDoor
open Go.RowKit

def BV.t1 : BV → T1
  | .c x => .c x.c
  | .agg l => .agg (l.map B1.c)
theorem b1_cellsL (ρ : Rho) : ∀ l : List B1, cellsL ρ (l.map B1.c) = l.flatMap B1.cells
  | [] => rfl
  | x :: l => by rw [List.map_cons, cellsL_cons, b1_cellsL ρ l, B1.c_cells, List.flatMap_cons]
theorem BV.t1_den (ρ : Rho) (v : BV) : v.t1.den ρ = v.den := by
  cases v with
  | c x => show (x.c.cells ρ).headD undef = x.cells.headD undef; rw [B1.c_cells]
  | agg l => show Value.agg (cellsL ρ (l.map B1.c)).toArray = .agg (l.flatMap B1.cells).toArray; rw [b1_cellsL]
def KeyOk (P : Program) (k : TypeId) (v : BV) : Prop := ∃ l, keyOf P k v.den = some l
theorem entsV_toList (es : List (BV × BV)) : (entsV es).toList = es.zipIdx.map fun p => { key := p.1.1.den, val := p.1.2.den, born := p.2 } := rfl
theorem entsV_mem {es : List (BV × BV)} {x : MapEntry} (h : x ∈ (entsV es).toList) : ∃ e ∈ es, x.key = e.1.den ∧ x.val = e.2.den := by
  rw [entsV_toList] at h
  obtain ⟨p, hp, rfl⟩ := List.mem_map.1 h
  exact ⟨p.1, (List.mem_zipIdx_iff_getElem?.1 hp |> List.mem_of_getElem?), rfl, rfl⟩
theorem entsV_of {es : List (BV × BV)} {e : BV × BV} (h : e ∈ es) : ∃ x ∈ (entsV es).toList, x.key = e.1.den ∧ x.val = e.2.den := by
  obtain ⟨i, hi⟩ := List.getElem?_of_mem h
  rw [entsV_toList]
  exact ⟨_, List.mem_map.2 ⟨(e, i), List.mem_zipIdx_iff_getElem?.2 hi, rfl⟩, rfl, rfl⟩
theorem entsV_push (es : List (BV × BV)) (k v : BV) : entsV (es ++ [(k, v)]) = (entsV es).push { key := k.den, val := v.den, born := es.length } := by
  apply Array.toList_inj.1
  rw [entsV_toList, Array.toList_push, entsV_toList, List.zipIdx_append, List.map_append]
  simp [List.zipIdx]
section
variable {N : Nat} {w0 : Base} {hf : Nat → Option Blk} {ρ0 : Rho} {w : World}
/-- a map is made -/
theorem HRel.newM (h : HRel N w0 hf ρ0 w) {n : Nat} (hn : hf n = none) {c : Blk} (hc : c.mapOf = some ([], 0)) : HRel N w0 (upF hf n c) (upR ρ0 n (w.heap.size, 0)) (w.alloc (.map #[] 0)) := by
  obtain ⟨nt, hce⟩ := map_spec hc
  have c1 : c.ro = true := by rw [hce]
  have c2 : c.cs = [] := by rw [hce]
  have hcv : c.void = true := by unfold Blk.void; rw [c1, c2]
  have hne : ∀ i d, hf i = some d → i ≠ n := fun i d hi e => by rw [e, hn] at hi; cases hi
  have hup : ∀ i d, upF hf n c i = some d → (i = n ∧ d = c) ∨ (i ≠ n ∧ hf i = some d) := fun i d hi => by
    unfold upF at hi
    split at hi
    · rename_i e; cases hi; exact .inl ⟨e, rfl⟩
    · rename_i e; exact .inr ⟨e, hi⟩
  have hr : ∀ i, i ≠ n → upR ρ0 n (w.heap.size, 0) i = ρ0 i := fun i e => if_neg e
  have hrn : upR ρ0 n (w.heap.size, 0) n = (w.heap.size, 0) := if_pos rfl
  have hb : Below w.heap.size w (w.alloc (.map #[] 0)) := (Below.refl _ _).alloc (Nat.le_refl _) _
  have hold := h.below hb
  refine ⟨fun i d hi hv => ?_, fun i d hi hd => ?_, fun i j d e hi hd hj he hji => ?_, fun ρ hρ i d hi => ?_, hold.bel, hold.big, fun i hi => ?_, fun i d e hi he => ?_, fun i j d e hi hj hd he hji => ?_, hold.fam.up (fun i d hi hm => ?_) fun j d hj hd => ?_⟩
  · rcases hup i d hi with ⟨rfl, rfl⟩ | ⟨e, hi⟩
    · rw [hcv] at hv; cases hv
    · rw [hr i e]; exact hold.old i d hi hv
  · rcases hup i d hi with ⟨rfl, rfl⟩ | ⟨e, hi⟩
    · rw [c1] at hd; cases hd
    · rw [hr i e]; exact hold.own i d hi hd
  · rcases hup i d hi with ⟨rfl, rfl⟩ | ⟨e1, hi1⟩
    · rw [c1] at hd; cases hd
    · rcases hup j e hj with ⟨rfl, rfl⟩ | ⟨e', hj1⟩
      · rw [hcv] at he; cases he
      · rw [hr i e1, hr j e']; exact hold.apart i j d e hi1 hd hj1 he hji
  · rcases hup i d hi with ⟨rfl, rfl⟩ | ⟨e, hi⟩
    · exact Holds.void hcv ρ i _
    · exact hold.holds ρ (fun k hk => by
        obtain ⟨c', hc'⟩ := Option.isSome_iff_exists.1 hk
        have := hρ k (by unfold upF; rw [if_neg (hne k c' hc')]; exact hk)
        rw [this, hr k (hne k c' hc')]) i d hi
  · obtain ⟨h1, h2⟩ := hold.ext i hi
    have hin : i ≠ n := fun e => by rw [e, hn] at h1; cases h1
    rw [hr i hin]
    refine ⟨?_, h2⟩
    unfold upF; rw [if_neg hin]; exact h1
  · rcases hup i d hi with ⟨rfl, rfl⟩ | ⟨e2, hi⟩
    · rw [hc] at he; cases he
      rw [hrn]
      exact ⟨h.big, heap_alloc_new w (.map #[] 0)⟩
    · rw [hr i e2]; exact hold.maps i d e hi he
  · have low : ∀ i d, hf i = some d → d.mapOf.isSome = true → (ρ0 i).1 < w.heap.size := fun i d hi hm => by
      obtain ⟨x, hx⟩ := Option.isSome_iff_exists.1 hm
      exact (Array.getElem?_eq_some_iff.1 (h.maps i d x hi hx).2).1
    rcases hup i d hi with ⟨rfl, rfl⟩ | ⟨e1, hi1⟩ <;> rcases hup j e hj with ⟨rfl, rfl⟩ | ⟨e', hj1⟩
    · exact absurd rfl hji
    · rw [hrn, hr j e']; have := low j e hj1 he; simp; omega
    · rw [hrn, hr i e1]; have := low i d hi1 hd; simp; omega
    · rw [hr i e1, hr j e']; exact h.mapA i j d e hi1 hj1 hd he hji
  · rcases hup i d hi with ⟨rfl, rfl⟩ | ⟨e1, hi1⟩
    · rw [fam_map (by rw [hc]; rfl)] at hm; cases hm
    · exact ⟨i, d, hi1, rfl⟩
  · rcases hup j d hj with ⟨rfl, rfl⟩ | ⟨e1, hj1⟩
    · rw [c1] at hd; cases hd
    · exact .inl ⟨j, d, hj1, hd, by rw [hr j e1]⟩
/-- a map turns -/
theorem HRel.setM (h : HRel N w0 hf ρ0 w) {b : Nat} {blk c : Blk} (hb : hf b = some blk) (hm : blk.mapOf.isSome = true) {x : List (BV × BV) × Nat} (hc : c.mapOf = some x) :
    HRel N w0 (upF hf b c) ρ0 (ChangeMaps.setBlock w (ρ0 b).1 (.map (entsV x.1) x.2)) := by
  obtain ⟨y, hy⟩ := Option.isSome_iff_exists.1 hm
  have hat := h.maps b blk y hb hy
  have hlt := (Array.getElem?_eq_some_iff.1 hat.2).1
  obtain ⟨nt, hce⟩ := map_spec hc
  have c1 : c.ro = true := by rw [hce]
  have c2 : c.cs = [] := by rw [hce]
  have hcv : c.void = true := by unfold Blk.void; rw [c1, c2]
  have hsz : (ChangeMaps.setBlock w (ρ0 b).1 (.map (entsV x.1) x.2)).heap.size = w.heap.size := by simp [ChangeMaps.setBlock]
  have hother : ∀ k, k ≠ (ρ0 b).1 → (ChangeMaps.setBlock w (ρ0 b).1 (.map (entsV x.1) x.2)).heap[k]? = w.heap[k]? := fun k hk => by
    simp only [ChangeMaps.setBlock]
    rw [Array.getElem?_setIfInBounds_ne (fun e => hk e.symm)]
  have hself : (ChangeMaps.setBlock w (ρ0 b).1 (.map (entsV x.1) x.2)).heap[(ρ0 b).1]? = some (.map (entsV x.1) x.2) := by
    simp only [ChangeMaps.setBlock]
    rw [Array.getElem?_setIfInBounds_self_of_lt hlt]
  have hup : ∀ i d, upF hf b c i = some d → (i = b ∧ d = c) ∨ (i ≠ b ∧ hf i = some d) := fun i d hi => by
    unfold upF at hi
    split at hi
    · rename_i e; cases hi; exact .inl ⟨e, rfl⟩
    · rename_i e; exact .inr ⟨e, hi⟩
  have hagr : ∀ ρ, Agr (upF hf b c) ρ ρ0 → Agr hf ρ ρ0 := fun ρ hρ i hi => hρ i (by unfold upF; split; rfl; exact hi)
  refine ⟨fun i d hi hv => ?_, fun i d hi hd => ?_, fun i j d e hi hd hj he hji => ?_, fun ρ hρ i d hi => ?_, ⟨?_, ?_⟩, by rw [hsz]; exact h.big, fun i hi => ?_, fun i d e hi he => ?_, fun i j d e hi hj hd he hji => ?_, (h.fam.keep fun _ _ _ _ _ _ _ _ hk _ => hother _ fun e2 => ?_).up (fun i d hi hm => ?_) fun j d hj hd => ?_⟩
  · rcases hup i d hi with ⟨rfl, rfl⟩ | ⟨e, hi⟩
    · rw [hcv] at hv; cases hv
    · rw [hsz]; exact h.old i d hi hv
  · rcases hup i d hi with ⟨rfl, rfl⟩ | ⟨e, hi⟩
    · rw [c1] at hd; cases hd
    · exact h.own i d hi hd
  · rcases hup i d hi with ⟨rfl, rfl⟩ | ⟨e1, hi1⟩
    · rw [c1] at hd; cases hd
    · rcases hup j e hj with ⟨rfl, rfl⟩ | ⟨e', hj1⟩
      · rw [hcv] at he; cases he
      · exact h.apart i j d e hi1 hd hj1 he hji
  · rcases hup i d hi with ⟨rfl, rfl⟩ | ⟨e, hi⟩
    · exact Holds.void hcv ρ i _
    · refine (void_or d).elim (fun hv => Holds.void hv ρ i _) fun hv => (h.holds ρ (hagr ρ hρ) i d hi).keep (hother _ fun e2 => ?_)
      have := (h.holds ρ (hagr ρ hρ) i d hi).isCells hv (o := .map (entsV y.1) y.2) (by rw [e2]; exact hat.2)
      cases this
  · exact h.bel.below.trans ⟨rfl, rfl, rfl, by rw [hsz]; exact Nat.le_refl _, fun k hk => hother k (by have := hat.1; omega)⟩
  · exact h.bel.oth.trans ⟨by rw [hsz]; exact Nat.le_refl _, fun k o hk ho => (hother k fun e2 => by rw [e2, hat.2] at hk; cases hk; cases ho).trans hk⟩
  · obtain ⟨h1, h2⟩ := h.ext i hi
    refine ⟨?_, h2⟩
    unfold upF; split
    · rfl
    · exact h1
  · rcases hup i d hi with ⟨rfl, rfl⟩ | ⟨e2, hi⟩
    · rw [hc] at he; cases he
      exact ⟨hat.1, hself⟩
    · have hm2 := h.maps i d e hi he
      exact ⟨hm2.1, (hother _ (h.mapA b i blk d hb hi hm (by rw [he]; rfl) e2)).trans hm2.2⟩
  · rcases hup i d hi with ⟨rfl, rfl⟩ | ⟨e1, hi1⟩ <;> rcases hup j e hj with ⟨rfl, rfl⟩ | ⟨e', hj1⟩
    · exact absurd rfl hji
    · exact h.mapA i j blk e hb hj1 hm he hji
    · exact h.mapA i j d blk hi1 hb hd hm hji
    · exact h.mapA i j d e hi1 hj1 hd he hji
  · obtain ⟨x', h1, h2⟩ := hk.row
    rw [e2, hat.2] at h1; cases h1; cases h2
  · rcases hup i d hi with ⟨rfl, rfl⟩ | ⟨e1, hi1⟩
    · rw [fam_map (by rw [hc]; rfl)] at hm; cases hm
    · exact ⟨i, d, hi1, rfl⟩
  · rcases hup j d hj with ⟨rfl, rfl⟩ | ⟨e1, hj1⟩
    · rw [c1] at hd; cases hd
    · exact .inl ⟨j, d, hj1, hd, rfl⟩
end
/-- operations on maps of the walk's own -/
def oMap (P : Program) (T : TypeId → Option TI) (o : Oper) (tm : List SV) (hp : List Blk) (K : List SV → List Blk → Prop) : Prop :=
  match o.op with
  | .makeMap t none => snocK hp ⟨.m t [] 0, true, [], 1⟩ fun hp' => lenK hp fun n => putK o.dst (.c (.mp n)) tm fun tm => K tm hp'
  | .lookup t m k true => (match evm tm m with
    | .c (.mp b) => (match nthO hp b with
      | some ⟨.m _ es _, true, [], 1⟩ => ∃ (kt et : TypeId) (kb z : BV), P.underlying t = some (.map kt et) ∧ Maps.Keyed P kt ∧ (∀ ρ, (evm tm k).den ρ = kb.den) ∧ KeyOk P kt kb ∧ (∀ e ∈ es, KeyOk P kt e.1) ∧ (∀ w, (zeroValue et).run P w = .ok z.den w) ∧
          ((∀ e ∈ es, e.1.den ≠ kb.den) → putK o.dst (.tup [z.t1, .c (.val (.bool false))]) tm fun tm => K tm hp) ∧
          ∀ e ∈ es, e.1.den = kb.den → putK o.dst (.tup [e.2.t1, .c (.val (.bool true))]) tm fun tm => K tm hp
      | _ => Bad o 51 (opEv o tm))
    | _ => Bad o 52 (opEv o tm))
  | .mapUpdate t m k v => (match evm tm m with
    | .c (.mp b) => (match nthO hp b with
      | some ⟨.m mt es cl, true, [], 1⟩ => ∃ (kt et : TypeId) (kb vb : BV), P.underlying t = some (.map kt et) ∧ Maps.Keyed P kt ∧ (∀ ρ, (evm tm k).den ρ = kb.den) ∧ (∀ ρ, (evm tm v).den ρ = vb.den) ∧ KeyOk P kt kb ∧ (∀ e ∈ es, KeyOk P kt e.1) ∧ cl = es.length ∧ (∀ e ∈ es, e.1.den ≠ kb.den) ∧
          updK hp b ⟨.m mt (es ++ [(kb, vb)]) (cl + 1), true, [], 1⟩ fun hp => putK o.dst uv tm fun tm => K tm hp
      | _ => Bad o 53 (opEv o tm))
    | _ => Bad o 54 (opEv o tm))
  | _ => oAll T o tm hp K
section
variable {P : Program} {T : TypeId → Option TI} (hT : TOk P T)
theorem wp_v_sx {o : Oper} {a : Act} {w : World} {next : Act → World → Prop} {Q : Exit → Act → World → Prop} {v : Value} {w' : World}
    (hr : (execOp a.eval o).run P w = .ok (.value v) w') (hn : next (a.put o.dst v) w') : o.wp P a w next Q := by
  unfold Oper.wp
  rw [hr]
  exact hn
theorem wp_u_sx {o : Oper} {a : Act} {w : World} {next : Act → World → Prop} {Q : Exit → Act → World → Prop} {w' : World}
    (hr : (execOp a.eval o).run P w = .ok .skip w') (hn : next (a.put o.dst undef) w') : o.wp P a w next Q := by
  unfold Oper.wp
  rw [hr]
  exact hn
include hT
theorem oMap_ok : OOk P (oMap P T) := by
  intro o tm hp K h N w0 a w next Q hr hn
  unfold oMap at h
  split at h
  · rename_i t hop
    obtain ⟨ρ0, hh, htm, hd⟩ := hr
    rw [snocK_eq, lenK_eq, putK_eq] at h
    have hnone : nthO hp hp.length = none := nthO_none hp
    have hsn : ∀ (b : Blk), nthO (hp ++ [b]) = upF (nthO hp) hp.length b := fun b => nthO_snoc' _ _
    refine wp_v_sx (v := .map (some w.heap.size)) (w' := w.alloc (.map #[] 0)) ?_ (hn _ _ _ _ h (RelS.put (ρ1 := upR ρ0 hp.length (w.heap.size, 0)) htm hd ?_ (fun j hj => ?_) o.dst fun ρ hρ => ?_))
    · simp only [execOp, hop, Option.map_none, Sem.run_bind, run_makeMap, Result.andThen_ok, Sem.run_pure]
    · rw [hsn]; exact hh.newM hnone rfl
    · rw [hsn]; exact up_agr hnone j hj
    · have hgn : ρ hp.length = (w.heap.size, 0) := by
        rw [hρ _ (by rw [hsn]; unfold upF; rw [if_pos rfl]; rfl)]; unfold upR; rw [if_pos rfl]
      simp [SV.den, C.den, C.cells, hgn]
  · rename_i t m k hop
    split at h
    · rename_i b hm
      split at h
      · rename_i mt es cl hb
        obtain ⟨kt, et, kb, z, hu, hK, hk, ⟨kl, hkl⟩, hes, hz, h1, h2⟩ := h
        obtain ⟨ρ0, hh, htm, hd⟩ := hr
        have hev0 : a.eval = evr (evm tm) ρ0 := eval_ok (htm ρ0 (Agr.refl _ _))
        have em : a.eval m = .map (some (ρ0 b).1) := by rw [hev0]; show (evm tm m).den ρ0 = _; rw [hm]; rfl
        have ek : a.eval k = kb.den := by rw [hev0]; exact hk ρ0
        have hat := hh.maps b _ (es, cl) hb rfl
        have hall : ∀ e ∈ (entsV es).toList, ∃ l, keyOf P kt e.key = some l := fun x hx => by
          obtain ⟨e, he, hk1, -⟩ := entsV_mem hx
          rw [hk1]; exact hes e he
        rcases hK.find w hkl (entsV es).toList hall with ⟨f1, f2⟩ | ⟨j, e0, f1, f2, f3⟩
        · have h1 := h1 fun e he hne => by
            obtain ⟨x, hx, hk1, -⟩ := entsV_of he
            exact f2 x hx (hk1.trans hne)
          rw [putK_eq] at h1
          refine wp_v_sx (v := .tuple #[z.den, .bool false]) (w' := w) ?_ (hn _ _ _ _ h1 (RelS.put (ρ1 := ρ0) htm hd hh (fun j hj => ⟨hj, rfl⟩) o.dst fun ρ hρ => ?_))
          · have hl : (Instr.lookup t (a.eval m) (a.eval k) true).run P w = .ok (.tuple #[z.den, .bool false]) w := by
              rw [em, ek]
              simp [Instr.lookup, run_underlying hu, MapKept.run_getObj_map hat.2, hK.check w _ hkl, f1, hz w, Result.andThen]
            simp only [execOp, hop, Sem.run_bind, hl, Result.andThen_ok, Sem.run_pure]
          · simp only [SV.den, List.map_cons, List.map_nil, BV.t1_den]; rfl
        · obtain ⟨e, he, hk1, hv1⟩ := entsV_mem (List.mem_of_getElem? f2)
          have h2 := h2 e he (hk1.symm.trans f3)
          rw [putK_eq] at h2
          refine wp_v_sx (v := .tuple #[e0.val, .bool true]) (w' := w) ?_ (hn _ _ _ _ h2 (RelS.put (ρ1 := ρ0) htm hd hh (fun j hj => ⟨hj, rfl⟩) o.dst fun ρ hρ => ?_))
          · have hl : (Instr.lookup t (a.eval m) (a.eval k) true).run P w = .ok (.tuple #[e0.val, .bool true]) w := by
              rw [em, ek]
              simp [Instr.lookup, run_underlying hu, MapKept.run_getObj_map hat.2, hK.check w _ hkl, f1, Result.andThen]
            simp only [execOp, hop, Sem.run_bind, hl, Result.andThen_ok, Sem.run_pure]
          · rw [hv1]; simp only [SV.den, List.map_cons, List.map_nil, BV.t1_den]; rfl
      · cases h
    · cases h
  · rename_i t m k v hop
    split at h
    · rename_i b hm
      split at h
      · rename_i mt es cl hb
        obtain ⟨kt, et, kb, vb, hu, hK, hk, hv, ⟨kl, hkl⟩, hes, hcl, hne, h⟩ := h
        obtain ⟨ρ0, hh, htm, hd⟩ := hr
        have hev0 : a.eval = evr (evm tm) ρ0 := eval_ok (htm ρ0 (Agr.refl _ _))
        have em : a.eval m = .map (some (ρ0 b).1) := by rw [hev0]; show (evm tm m).den ρ0 = _; rw [hm]; rfl
        have ek : a.eval k = kb.den := by rw [hev0]; exact hk ρ0
        have ev : a.eval v = vb.den := by rw [hev0]; exact hv ρ0
        have hat := hh.maps b _ (es, cl) hb rfl
        have hall : ∀ e ∈ (entsV es).toList, ∃ l, keyOf P kt e.key = some l := fun x hx => by
          obtain ⟨e, he, hk1, -⟩ := entsV_mem hx
          rw [hk1]; exact hes e he
        simp only [updK_eq, putK_eq] at h
        rcases hK.find w hkl (entsV es).toList hall with ⟨f1, -⟩ | ⟨j, e0, -, f2, f3⟩
        · refine wp_u_sx (w' := ChangeMaps.setBlock w (ρ0 b).1 (.map (entsV (es ++ [(kb, vb)])) (cl + 1))) ?_ (hn _ _ _ _ h (RelS.put (ρ1 := ρ0) htm hd ?_ (fun j hj => ?_) o.dst fun ρ hρ => rfl))
          · have hl : (Instr.mapUpdate t (a.eval m) (a.eval k) (a.eval v)).run P w = .ok () (ChangeMaps.setBlock w (ρ0 b).1 (.map (entsV (es ++ [(kb, vb)])) (cl + 1))) := by
              rw [em, ek, ev, entsV_push, ← hcl]
              simp [Instr.mapUpdate, run_underlying hu, MapKept.run_getObj_map hat.2, hK.check w false hkl, f1, MapKept.run_setObj_map _ hat.2, Result.andThen, ChangeMaps.setBlock]
            simp only [execOp, hop, Sem.run_bind, hl, Result.andThen_ok, Sem.run_pure]
          · rw [nthO_set _ _ _ _ hb]
            exact hh.setM (c := ⟨.m mt (es ++ [(kb, vb)]) (cl + 1), true, [], 1⟩) (x := (es ++ [(kb, vb)], cl + 1)) hb rfl rfl
          · rw [nthO_set _ _ _ _ hb]; unfold upF; split
            · exact ⟨rfl, rfl⟩
            · exact ⟨hj, rfl⟩
        · obtain ⟨e, he, hk1, -⟩ := entsV_mem (List.mem_of_getElem? f2)
          exact absurd (hk1.symm.trans f3) (hne e he)
      · cases h
    · cases h
  · exact oAll_ok hT o tm hp K h hr hn
end
end Go.Proofs.YtdjpbccaglkafaaDoor
