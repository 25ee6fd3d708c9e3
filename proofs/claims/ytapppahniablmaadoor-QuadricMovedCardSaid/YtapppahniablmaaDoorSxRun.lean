/- The reckoner: what one operation does. -/
import Derived.Test.YtapppahniablmaaDoorSx
namespace Go.Proofs.YtapppahniablmaaDoor
open Go.RowKit

section lists
variable {α : Type}
theorem nth_eq (d : α) : ∀ (l : List α) (n : Nat), nth d l n = (l[n]?).getD d
  | [], _ => by simp [nth]
  | _ :: _, 0 => by simp [nth]
  | _ :: l, n + 1 => by simp [nth, nth_eq d l n]
theorem nthO_eq : ∀ (l : List α) (n : Nat), nthO l n = l[n]?
  | [], _ => by simp [nthO]
  | _ :: _, 0 => by simp [nthO]
  | _ :: l, n + 1 => by simp [nthO, nthO_eq l n]
theorem updK_eq : ∀ (l : List α) (n : Nat) (v : α) (K : List α → Prop), updK l n v K = K (l.set n v)
  | [], _, _, _ => by simp [updK]
  | _ :: _, 0, _, _ => by simp [updK]
  | _ :: l, n + 1, v, K => by simp [updK, updK_eq l n v]
theorem snocK_eq : ∀ (l : List α) (v : α) (K : List α → Prop), snocK l v K = K (l ++ [v])
  | [], _, _ => rfl
  | _ :: l, v, K => by simp [snocK, snocK_eq l v]
end lists
theorem C.force_eq (x : C) (K : C → Prop) : x.force K = K x := by cases x <;> rfl
theorem forceL_eq : ∀ (l : List C) (K : List C → Prop), forceL l K = K l
  | [], _ => rfl
  | x :: l, K => by simp only [forceL, C.force_eq, forceL_eq l]
theorem T1.force_eq (x : T1) (K : T1 → Prop) : x.force K = K x := by cases x <;> simp only [T1.force, C.force_eq, forceL_eq]
theorem forceT_eq : ∀ (l : List T1) (K : List T1 → Prop), forceT l K = K l
  | [], _ => rfl
  | x :: l, K => by simp only [forceT, T1.force_eq, forceT_eq l]
theorem SV.force_eq (x : SV) (K : SV → Prop) : x.force K = K x := by cases x <;> simp only [SV.force, C.force_eq, forceL_eq, forceT_eq]
theorem padK_eq : ∀ (n : Nat) (K : List SV → Prop), padK n K = K (List.replicate n uv)
  | 0, _ => rfl
  | n + 1, K => by simp only [padK, padK_eq n, List.replicate_succ]
theorem appK_eq : ∀ (l m : List SV) (K : List SV → Prop), appK l m K = K (l ++ m)
  | [], _, _ => rfl
  | _ :: l, m, K => by simp only [appK, appK_eq l m, List.cons_append]
theorem putK_eq (d : Option Tmp) (v : SV) (tm : List SV) (K : List SV → Prop) : putK d v tm K = K (match d with | some t => tm.set t v | none => tm) := by
  cases d <;> simp [putK, updK_eq]
theorem bcase_of {b : Bool} {X Y : Prop} (h : bcase b X Y) : (b = true → X) ∧ (b = false → Y) := by
  cases b
  · exact ⟨(fun h => nomatch h), (fun _ => h)⟩
  · exact ⟨(fun _ => h), (fun h => nomatch h)⟩
theorem bcase_intro {b : Bool} {X Y : Prop} (hx : b = true → X) (hy : b = false → Y) : bcase b X Y := by
  cases b
  · exact hy rfl
  · exact hx rfl

section cells
variable (ρ : Rho)
theorem C.cells_length (x : C) : (x.cells ρ).length = x.n := by cases x <;> rfl
theorem sizeC_eq : ∀ l : List C, sizeC l = (cellsL ρ l).length
  | [] => rfl
  | x :: l => by simp [sizeC, cellsL, C.cells_length ρ x, sizeC_eq l]
theorem cellsL_cons (x : C) (l : List C) : cellsL ρ (x :: l) = x.cells ρ ++ cellsL ρ l := rfl
theorem cellsL_append (a b : List C) : cellsL ρ (a ++ b) = cellsL ρ a ++ cellsL ρ b := by simp [cellsL]
theorem sizeC_append (a b : List C) : sizeC (a ++ b) = sizeC a + sizeC b := by
  rw [sizeC_eq (fun _ => (0, 0)), sizeC_eq (fun _ => (0, 0)), sizeC_eq (fun _ => (0, 0)), cellsL_append, List.length_append]
theorem cells_one {x : C} (h : x.n = 1) : x.cells ρ = [x.den ρ] := by cases x <;> simp_all [C.n, C.cells, C.den]
theorem one_of {x : C} (h : x.one = true) : ∀ v ∈ x.cells ρ, v.oneCell' = true := by
  cases x <;> intro v hv <;> simp [C.cells, adr] at hv <;> (try (rcases hv with rfl | rfl)) <;> (try subst hv) <;> first | rfl | exact h
theorem allOne_of : ∀ {l : List C}, allOne l = true → ∀ v ∈ cellsL ρ l, v.oneCell' = true
  | [], _, v, hv => by simp [cellsL] at hv
  | x :: l, h, v, hv => by
    simp only [allOne, Bool.and_eq_true] at h
    rw [cellsL_cons, List.mem_append] at hv
    rcases hv with hv | hv
    · exact one_of ρ h.1 v hv
    · exact allOne_of h.2 v hv
end cells
theorem takeC_spec : ∀ (n : Nat) (l a b : List C), takeC n l = some (a, b) → l = a ++ b ∧ sizeC a = n
  | 0, l, a, b, h => by cases l <;> (simp [takeC] at h; obtain ⟨rfl, rfl⟩ := h; exact ⟨rfl, rfl⟩)
  | n + 1, [], a, b, h => by simp [takeC] at h
  | n + 1, x :: l, a, b, h => by
    unfold takeC at h
    split at h
    · rename_i hx
      split at h
      · rename_i a' b' hr
        cases h
        obtain ⟨rfl, hs⟩ := takeC_spec _ l _ _ hr
        exact ⟨rfl, by simp [sizeC, hs]; omega⟩
      · cases h
    · cases h
theorem subC_spec {cs : List C} {off n : Nat} {m : List C} (h : subC cs off n = some m) : ∃ a b, cs = a ++ (m ++ b) ∧ sizeC a = off ∧ sizeC m = n := by
  unfold subC at h
  split at h
  · rename_i a r h1
    split at h
    · rename_i m' b h2
      cases h
      obtain ⟨rfl, e1⟩ := takeC_spec _ _ _ _ h1
      obtain ⟨rfl, e2⟩ := takeC_spec _ _ _ _ h2
      exact ⟨_, _, rfl, e1, e2⟩
    · cases h
  · cases h
theorem spliceC_spec {cs : List C} {off : Nat} {new cs' : List C} (h : spliceC cs off new = some cs') : ∃ a m b, cs = a ++ (m ++ b) ∧ cs' = a ++ (new ++ b) ∧ sizeC a = off ∧ sizeC m = sizeC new := by
  unfold spliceC at h
  split at h
  · rename_i a r h1
    split at h
    · rename_i m b h2
      cases h
      obtain ⟨rfl, e1⟩ := takeC_spec _ _ _ _ h1
      obtain ⟨rfl, e2⟩ := takeC_spec _ _ _ _ h2
      exact ⟨_, _, _, rfl, rfl, e1, e2⟩
    · cases h
  · cases h
/-- cells written over cells -/
theorem wrapV_spec {a : Bool} {m : List C} {v : SV} (h : wrapV a m = some v) : (a = true ∧ v = .agg m) ∨ (a = false ∧ ∃ x, m = [x] ∧ x.n = 1 ∧ v = .c x) := by
  unfold wrapV at h
  split at h
  · cases h; exact .inl ⟨rfl, rfl⟩
  · split at h
    · rename_i hx; cases h; exact .inr ⟨rfl, _, rfl, hx, rfl⟩
    · cases h
  · cases h
theorem foldl_splice : ∀ (new m a b : List Value) (off : Nat), a.length = off → m.length = new.length →
    (new.toArray.zipIdx.foldl (fun cs (c, j) => cs.setIfInBounds (off + j) c) (a ++ (m ++ b)).toArray) = (a ++ (new ++ b)).toArray := by
  have key : ∀ (new m a b : List Value) (off k : Nat), a.length = off + k → m.length = new.length →
      ((new.zipIdx k).foldl (fun (cs : Array Value) (p : Value × Nat) => cs.setIfInBounds (off + p.2) p.1) (a ++ (m ++ b)).toArray) = (a ++ (new ++ b)).toArray := by
    intro new
    induction new with
    | nil => intro m a b off k ha hm; have : m = [] := List.eq_nil_of_length_eq_zero hm; subst this; rfl
    | cons x new ih =>
      intro m a b off k ha hm
      cases m with
      | nil => simp at hm
      | cons y m =>
        have hset : (a ++ (y :: m ++ b)).toArray.setIfInBounds (off + k) x = ((a ++ [x]) ++ (m ++ b)).toArray := by
          rw [List.setIfInBounds_toArray, ← ha]
          simp
        rw [List.zipIdx_cons, List.foldl_cons]
        show List.foldl _ ((a ++ (y :: m ++ b)).toArray.setIfInBounds (off + k) x) _ = _
        rw [hset, ih m (a ++ [x]) b off (k + 1) (by simp; omega) (by simpa using hm)]
        simp
  intro new m a b off ha hm
  have := key new m a b off 0 (by omega) hm
  rw [← Array.foldl_toList]
  simpa using this
def partV (ρ : Rho) (p : Nat × SV) : Nat × Value := (p.1, p.2.den ρ)
theorem ch_cells {v : SV} {l : List C} (h : v.ch = some l) (ρ : Rho) : (v.den ρ).cells = (cellsL ρ l).toArray := by
  cases v with
  | c x =>
    simp only [SV.ch] at h
    split at h
    · rename_i h1 h2
      cases h
      have e := cells_one ρ h1
      have o := one_of ρ h2 (x.den ρ) (by rw [e]; simp)
      simp only [SV.den, cellsL, List.flatMap_cons, List.flatMap_nil, e, List.append_nil]
      cases hx : x.den ρ <;> simp_all [Value.cells, Value.oneCell']
    · cases h
  | agg l' => cases h; rfl
  | tup _ => cases h
theorem fillC_spec (place : Nat → Option (Nat × Nat)) (ρ : Rho) : ∀ (parts : List (Nat × SV)) (cs cs' : List C), fillC place cs parts = some cs' →
    Instr.fill place (cellsL ρ cs).toArray (parts.map (partV ρ)) = some (cellsL ρ cs').toArray
  | [], cs, cs', h => by simp [fillC] at h; subst h; rfl
  | (i, v) :: rest, cs, cs', h => by
    unfold fillC at h
    split at h
    · rename_i off n l hp hl
      split at h
      · rename_i hs
        split at h
        · rename_i cs1 h1
          obtain ⟨a, m, b, rfl, rfl, e1, e2⟩ := spliceC_spec h1
          have ih := fillC_spec place ρ rest _ _ h
          have hc := ch_cells hl ρ
          have hn : (cellsL ρ l).length = n := by rw [← sizeC_eq]; exact hs
          simp only [List.map_cons, partV, Instr.fill, hp, hc]
          rw [if_neg]
          · rw [cellsL_append, cellsL_append] at ih ⊢
            rw [foldl_splice _ _ _ _ off (by rw [← sizeC_eq]; exact e1) (by rw [← sizeC_eq, ← sizeC_eq]; exact e2)]
            exact ih
          · rw [cellsL_append, cellsL_append]
            simp only [List.size_toArray, List.length_append, hn]
            have q1 : (cellsL ρ a).length = off := by rw [← sizeC_eq]; exact e1
            have q2 : (cellsL ρ m).length = n := by rw [← sizeC_eq, e2]; exact hs
            simp
            omega
        · cases h
      · cases h
    · cases h

/-- the table tells the truth -/
def ShOk (P : Program) (t : TypeId) : Sh → Prop
  | .other => True
  | .struct fs => ∃ fd, P.underlying t = some (.struct fd) ∧ fd.toList.map (fun f => (f.offset, P.cellsOf f.type, rowO P f.type)) = fs.map (fun x => (x.1, x.2.1, some x.2.2)) ∧ ∀ x ∈ fs, x.2.2 = false → x.2.1 = 1
  | .array n esz a => ∃ e, P.underlying t = some (.array n e) ∧ P.cellsOf e = esz ∧ rowO P e = some a ∧ (a = false → esz = 1)
  | .slice e esz ez => P.underlying t = some (.slice e) ∧ P.cellsOf e = esz ∧ (P.info? e).isSome = true ∧ 0 < esz ∧ ∀ ρ, ((P.info? e).bind (·.zero)).map (·.cells) = some (cellsL ρ ez).toArray ∧ (cellsL ρ ez).length = esz
  | .int k => P.underlying t = some (.int k)
  | .bool => P.underlying t = some .bool
  | .string => P.underlying t = some .string
structure TIOk (P : Program) (t : TypeId) (ti : TI) : Prop where
  size : P.cellsOf t = ti.size
  row : rowO P t = some ti.agg
  zero : ∀ ρ, ((P.info? t).bind (·.zero)).map (·.cells) = some (cellsL ρ ti.zero).toArray
  sh : ShOk P t ti.sh
  eq : ∀ ks, ti.eq = some ks → kindsOf P 9 t = some ks ∧ P.eqGuardType P.depth t = false ∧ ti.agg = true
def TOk (P : Program) (T : TypeId → Option TI) : Prop := ∀ t ti, T t = some ti → TIOk P t ti

/-- a block holds what is said of it -/
def Holds (ρ : Rho) (blk : Blk) (i : Nat) (w : World) : Prop :=
  w.rangeAt (ρ i).1 (ρ i).2 (cellsL ρ blk.cs) ∧ (blk.ro = false → (ρ i).2 = 0 ∧ w.heap[(ρ i).1]? = some (.cells (cellsL ρ blk.cs).toArray blk.ty (0, 0)))
theorem range_sub {w : World} {g o : Nat} {a m b : List Value} (h : w.rangeAt g o (a ++ (m ++ b))) : w.rangeAt g (o + a.length) m := fun j v hv => by
  have hj := (List.getElem?_eq_some_iff.1 hv).1
  have := h (a.length + j) v (by rw [List.getElem?_append_right (by omega), Nat.add_sub_cancel_left, List.getElem?_append_left hj]; exact hv)
  rw [← Nat.add_assoc] at this
  exact this

section
variable {P : Program}
theorem run_new_sx (w : World) (t : TypeId) (cs : Array Value) : (newRow t cs).run P w = .ok ⟨w.heap.size, 0, none⟩ (w.alloc (.cells cs t)) := rfl
theorem run_box_sx {t : TypeId} {v : SV} {l : List C} (hl : v.ch = some l) (ρ : Rho) (w : World) :
    (Instr.box t (v.den ρ)).run P w = .ok (.pointer (some ⟨w.heap.size, 0, none⟩)) (w.alloc (.cells (cellsL ρ l).toArray t)) := by
  simp only [Instr.box, newVar, ch_cells hl, run_new_sx, Sem.run_bind, Result.andThen_ok, Sem.run_pure]
theorem sx_setCells_block {W : World} {g : Nat} {t : TypeId} : ∀ (vs : List Value) (o : Nat) (pre mid rest : List Value), pre.length = o → mid.length = vs.length →
    W.heap[g]? = some (.cells (pre ++ (mid ++ rest)).toArray t (0, 0)) → (W.setCells g o vs).heap[g]? = some (.cells (pre ++ (vs ++ rest)).toArray t (0, 0)) := by
  intro vs
  induction vs generalizing W with
  | nil => intro o pre mid rest _ hr h; have : mid = [] := List.eq_nil_of_length_eq_zero hr; subst this; exact h
  | cons v vs ih =>
    intro o pre mid rest hp hr h
    cases mid with
    | nil => simp at hr
    | cons r mid =>
      have h1 := heap_setCell_same W g o _ t v h
      have h2 : (pre ++ (r :: mid ++ rest)).toArray.setIfInBounds o v = (pre ++ [v] ++ (mid ++ rest)).toArray := by
        subst hp
        simp
      rw [h2] at h1
      have := ih (W := W.setCell ⟨g, o, none⟩ v) (o + 1) (pre ++ [v]) mid rest (by simp [hp]) (by simpa using hr) h1
      rw [World.setCells]
      simpa using this
theorem sx_setCells_other {g k : Nat} (hk : k ≠ g) : ∀ (vs : List Value) (o : Nat) (W : World), (W.setCells g o vs).heap[k]? = W.heap[k]?
  | [], _, _ => rfl
  | v :: vs, o, W => by rw [World.setCells, sx_setCells_other hk vs, heap_setCell_other _ _ _ _ hk]
theorem sx_setCells_size {g : Nat} : ∀ (vs : List Value) (o : Nat) (W : World), (W.setCells g o vs).heap.size = W.heap.size
  | [], _, _ => rfl
  | v :: vs, o, W => by rw [World.setCells, sx_setCells_size vs]; simp [World.setCell]
theorem sx_setCells_below {B g : Nat} {w : World} (hg : B ≤ g) : ∀ (vs : List Value) (o : Nat) {W : World}, Below B w W → Below B w (W.setCells g o vs)
  | [], _, _, h => h
  | v :: vs, o, _, h => by rw [World.setCells]; exact sx_setCells_below hg vs (o + 1) (h.setCell (p := ⟨g, o, none⟩) hg v)
theorem cellsL_split (ρ : Rho) : ∀ l : List C, cellsL ρ (splitC l) = cellsL ρ l
  | [] => rfl
  | x :: l => by
    have ih := cellsL_split ρ l
    cases x <;> simp [splitC, cellsL, C.cells] at ih ⊢ <;> exact ih
theorem partC_spec (ρ : Rho) {a : Bool} {cs : List C} {off n : Nat} {v : SV} (h : partC a cs off n = some v) : ∃ cs' m, cellsL ρ cs' = cellsL ρ cs ∧ subC cs' off n = some m ∧ wrapV a m = some v := by
  unfold partC at h
  split at h
  · rename_i m hm; exact ⟨cs, m, rfl, hm, h⟩
  · split at h
    · rename_i m hm; exact ⟨splitC cs, m, cellsL_split ρ cs, hm, h⟩
    · cases h
theorem run_part_sx {e : TypeId} {a : Bool} (hr : rowO P e = some a) (h1 : a = false → P.cellsOf e = 1) {ρ : Rho} {cs : List C} {off : Nat} {v : SV} (hv : partC a cs off (P.cellsOf e) = some v) (w : World) :
    (part e (cellsL ρ cs).toArray off).run P w = .ok (v.den ρ) w := by
  obtain ⟨cs', m, hcc, hm, hv⟩ := partC_spec ρ hv
  rw [← hcc]
  · obtain ⟨x, r, e1, h2, h3⟩ := subC_spec hm
    have l1 : (cellsL ρ x).length = off := by rw [← sizeC_eq]; exact h2
    have l2 : (cellsL ρ m).length = P.cellsOf e := by rw [← sizeC_eq]; exact h3
    have hcs : cellsL ρ cs' = cellsL ρ x ++ (cellsL ρ m ++ cellsL ρ r) := by rw [e1, cellsL_append, cellsL_append]
    rw [run_partO hr w (cellsL ρ cs') off (by rw [hcs]; simp; omega) h1]
    have : List.take (P.cellsOf e) (List.drop off (cellsL ρ cs')) = cellsL ρ m := by
      rw [hcs, ← l1, List.drop_left, ← l2, List.take_left]
    rw [this]
    rcases wrapV_spec hv with ⟨rfl, rfl⟩ | ⟨rfl, y, rfl, hy, rfl⟩
    · rfl
    · simp [mkV, cellsL, cells_one ρ hy, SV.den]
end
section
variable {P : Program} {T : TypeId → Option TI} (hT : TOk P T)
include hT
theorem info_ok {t : TypeId} {ti : TI} (h : T t = some ti) : ∃ i, P.info? t = some i := info_of_rowO (hT t ti h).row
theorem under_ok {t : TypeId} {ti : TI} (h : T t = some ti) : ∃ d, P.underlying t = some d ∧ d.isRow = ti.agg := by
  have := (hT t ti h).row
  unfold rowO at this
  cases hu : P.underlying t with
  | none => simp [hu] at this
  | some d => exact ⟨d, rfl, by simpa [hu] using this⟩
theorem size_ok {t : TypeId} {ti : TI} (h : T t = some ti) : (P.info? t).map (·.size) = some ti.size := by
  obtain ⟨i, hi⟩ := info_ok hT h
  have := (hT t ti h).size
  unfold Program.cellsOf at this
  rw [hi] at this ⊢
  simpa using this
theorem run_load_sx {t : TypeId} {ti : TI} (h : T t = some ti) {ρ : Rho} {b off : Nat} {blk : Blk} {w : World} (hb : Holds ρ blk b w) {v : SV} (hv : partC ti.agg blk.cs off ti.size = some v) :
    (Instr.loadAt t (adr ρ b off)).run P w = .ok (v.den ρ) w := by
  obtain ⟨cs', m, hcc, hm, hv⟩ := partC_spec ρ hv
  · obtain ⟨a, r, e, h1, h2⟩ := subC_spec hm
    have hr := hb.1
    rw [← hcc, e, cellsL_append, cellsL_append] at hr
    have hr := range_sub hr
    rw [← sizeC_eq, h1] at hr
    obtain ⟨d, hd, hrow⟩ := under_ok hT h
    rcases wrapV_spec hv with ⟨hg, rfl⟩ | ⟨hg, x, rfl, hx, rfl⟩
    · rw [hg] at hrow
      exact run_loadAt_mid w _ _ t (cellsL ρ m) d hr hd hrow (by rw [size_ok hT h, ← h2, sizeC_eq ρ])
    · have hc := hr 0 (x.den ρ) (by simp [cellsL, cells_one ρ hx])
      have hagg : (isAgg t).run P w = .ok false w := run_isAggO (by rw [← hg]; exact (hT t ti h).row) w
      simp only [Nat.add_zero] at hc
      simp [Instr.loadAt, adr, Instr.sureAddr, loadVar, hagg, hc, SV.den]
theorem run_alloc_sx {t : TypeId} {ti : TI} (h : T t = some ti) (ρ : Rho) (w : World) (u : Value) :
    (Instr.alloc t true u).run P w = .ok (.pointer (some ⟨w.heap.size, 0, none⟩)) (w.alloc (.cells (cellsL ρ ti.zero).toArray t)) := by
  have hz := (hT t ti h).zero ρ
  obtain ⟨i, hi⟩ := info_ok hT h
  cases hz0 : i.zero with
  | none => simp [hi, hz0] at hz
  | some z =>
    simp only [hi, Option.bind_some, hz0, Option.map_some, Option.some.injEq] at hz
    simp only [Instr.alloc, Sem.run_bind, zeroValue, run_typeInfo w hi, Result.andThen_ok, hz0, Sem.run_pure]
    simp only [newVar, hz, run_new_sx, Result.andThen_ok]
theorem run_store_sx {t : TypeId} {ti : TI} (h : T t = some ti) {ρ : Rho} {b off : Nat} {blk : Blk} {w : World} (hb : Holds ρ blk b w) (hro : blk.ro = false) {v : SV} {l cs' : List C} (hl : v.ch = some l)
    (hs : sizeC l = ti.size) (h1 : allOne l = true) (hc : spliceC blk.cs off l = some cs') :
    (Instr.storeAt t (adr ρ b off) (v.den ρ)).run P w = .ok () (w.setCells (ρ b).1 off (cellsL ρ l)) ∧ (w.setCells (ρ b).1 off (cellsL ρ l)).heap[(ρ b).1]? = some (.cells (cellsL ρ cs').toArray blk.ty (0, 0)) := by
  obtain ⟨a, m, r, e1, e2, e3, e4⟩ := spliceC_spec hc
  obtain ⟨h0, hk⟩ := hb.2 hro
  rw [e1, cellsL_append, cellsL_append] at hk
  have la : (cellsL ρ a).length = off := by rw [← sizeC_eq]; exact e3
  have lm : (cellsL ρ m).length = (cellsL ρ l).length := by rw [← sizeC_eq, ← sizeC_eq]; exact e4
  have hblk := sx_setCells_block (cellsL ρ l) off _ _ _ la lm hk
  refine ⟨?_, by rw [e2, cellsL_append, cellsL_append]; exact hblk⟩
  have hcells := ch_cells hl ρ
  have hone := allOne_of ρ h1
  have hthere : ∀ j, j < (cellsL ρ l).length → (w.cell? ⟨(ρ b).1, off + j, none⟩).isSome = true ∧ w.frozen? ⟨(ρ b).1, off + j, none⟩ = false := fun j hj => by
    refine ⟨?_, frozen_of_row _ _ _ _ _ hk⟩
    rw [cell_of_row _ _ _ _ _ _ hk]
    have : off + j < (cellsL ρ a ++ (cellsL ρ m ++ cellsL ρ r)).toArray.size := by simp; omega
    rw [Array.getElem?_eq_getElem this]
    rfl
  have hst := run_storeCells_cells (P := P) (ρ b).1 off (cellsL ρ l) 0 w (fun j hj => by simpa using (hthere j hj).1) (fun j hj => by simpa using (hthere j hj).2) hone
  obtain ⟨i, hi⟩ := info_ok hT h
  have hsz := size_ok hT h
  simp only [hi, Option.map_some, Option.some.injEq] at hsz
  simp only [Nat.add_zero] at hst
  have e5 : (v.den ρ).cells.size = i.size := by rw [hcells, hsz, ← hs, sizeC_eq ρ]; simp
  have e6 : (v.den ρ).cells.toList = cellsL ρ l := by rw [hcells]
  simp only [Instr.storeAt, adr, h0, Nat.zero_add, Instr.sureAddr, Sem.run_bind, Sem.run_pure, Result.andThen_ok, storeVar, sizeOf, run_typeInfo w hi]
  rw [if_neg (by rw [e5]; simp), e6]
  exact hst
end
theorem cellsL_repC (ρ : Rho) (l : List C) : ∀ n i, i < n * (cellsL ρ l).length → (cellsL ρ (repC n l))[i]? = (cellsL ρ l)[i % (cellsL ρ l).length]?
  | 0, i, h => by omega
  | n + 1, i, h => by
    rw [repC, cellsL_append]
    by_cases hi : i < (cellsL ρ l).length
    · rw [List.getElem?_append_left hi, Nat.mod_eq_of_lt hi]
    · rw [List.getElem?_append_right (by omega), cellsL_repC ρ l n _ (by rw [Nat.succ_mul] at h; omega), Nat.mod_eq_sub_mod (by omega : i ≥ _)]
theorem cellsL_repC_length (ρ : Rho) (l : List C) : ∀ n, (cellsL ρ (repC n l)).length = n * (cellsL ρ l).length
  | 0 => by simp [repC, cellsL]
  | n + 1 => by rw [repC, cellsL_append, List.length_append, cellsL_repC_length ρ l n, Nat.succ_mul]; omega
theorem run_buildSlice_sx {P : Program} {t e : TypeId} {esz : Nat} {ez : List C} (h : ShOk P t (.slice e esz ez)) {len : Nat} {parts : Array (Nat × Value)} {ps : List (Nat × SV)} {cs : List C} {ρ : Rho} (hp : parts.toList = ps.map (partV ρ))
    (hf : fillC (fun i => some (i * esz, esz)) (repC len ez) ps = some cs) (hl : len * esz ≤ 16777216) (w : World) :
    (Instr.buildSlice t len parts).run P w = .ok (.slice (some ⟨w.heap.size, 0, none⟩) len len) (w.alloc (.cells (cellsL ρ cs).toArray e)) := by
  obtain ⟨hu, hc, hi, h0, hz⟩ := h
  obtain ⟨i, hi⟩ := Option.isSome_iff_exists.1 hi
  have hs := run_sizeOf w hi
  obtain ⟨hz, hzl⟩ := hz ρ
  cases hz0 : i.zero with
  | none => simp [hi, hz0] at hz
  | some z =>
    simp only [hi, Option.bind_some, hz0, Option.map_some, Option.some.injEq] at hz
    have hzv : (zeroValue e).run P w = .ok z w := by simp [zeroValue, run_typeInfo w hi, hz0]
    have hfill := fillC_spec _ ρ _ _ _ hf
    rw [← hp] at hfill
    have hrep : (cellsL ρ (repC len ez)).toArray = (Array.range (len * esz)).map (fun x => z.cells[x % z.cells.size]!) := by
      apply Array.ext_getElem?
      intro j
      rw [List.getElem?_toArray, Array.getElem?_map, Array.getElem?_range]
      have hzs : z.cells.size = esz := by rw [hz]; simpa using hzl
      by_cases hj : j < len * esz
      · rw [if_pos hj, cellsL_repC ρ ez len j (by rw [hzl]; exact hj), hzl]
        have hm : j % esz < (cellsL ρ ez).length := by rw [hzl]; exact Nat.mod_lt _ h0
        rw [List.getElem?_eq_getElem hm]
        simp only [Option.map_some, hzs]
        have : j % esz < z.cells.size := by rw [hzs]; exact Nat.mod_lt _ h0
        rw [getElem!_pos z.cells (j % esz) this]
        simp only [hz, List.getElem_toArray]
      · rw [if_neg hj, List.getElem?_eq_none (by rw [cellsL_repC_length, hzl]; omega)]; rfl
    have h24 : (2:Nat)^24 = 16777216 := by decide
    have hle : ¬ len * esz > 2 ^ 24 := by omega
    unfold Instr.buildSlice
    simp only [Sem.run_bind, run_underlying hu w, Result.andThen_ok, hs, hc]
    rw [if_neg hle]
    rw [hrep] at hfill
    by_cases h00 : len * esz = 0
    · have : len = 0 := by rcases Nat.mul_eq_zero.1 h00 with h | h; exact h; omega
      subst this
      simp only [Nat.zero_mul, if_true, Sem.run_bind, Sem.run_pure, Result.andThen_ok] at hfill ⊢
      have e0 : (Array.range 0).map (fun x => (#[] : Array Value)[x % (#[] : Array Value).size]!) = (Array.range 0).map (fun x => z.cells[x % z.cells.size]!) := by simp
      rw [e0, hfill]
      simp only [Sem.run_bind, run_new_sx, Result.andThen_ok, Sem.run_pure]
    · rw [if_neg h00]
      simp only [Sem.run_bind, hzv, Result.andThen_ok, Sem.run_pure, hfill, run_new_sx]
end Go.Proofs.YtapppahniablmaaDoor
