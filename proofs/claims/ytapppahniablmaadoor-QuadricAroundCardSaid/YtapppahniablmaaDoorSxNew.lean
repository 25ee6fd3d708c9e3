/- The reckoner: contracts of functions that look into slices of their caller's and hand back slices of their own. -/
import Derived.Test.YtapppahniablmaaDoorEng
namespace Go.Proofs.YtapppahniablmaaDoor
open Go.RowKit

/-- what is asked of a call, and what comes back: the arguments (slices numbered anew), the blocks that they look into, what is said of the value and the blocks made -/
abbrev NewC := List SV → List Blk → (SV → List Blk → Prop) → Prop
def pureAll : List Blk → Prop
  | [] => True
  | b :: l => PureL b.cs ∧ pureAll l
/-- a block made: its own, or nothing -/
def NewB (b : Blk) : Prop := PureL b.cs ∧ (b.ro = false ∨ b.void = true)
def newAll : List Blk → Prop
  | [] => True
  | b :: l => NewB b ∧ newAll l
def roAll : List Blk → Prop
  | [] => True
  | b :: l => b.ro = true ∧ roAll l
theorem pureAll_get : ∀ {l : List Blk} (_ : pureAll l) {i : Nat} {b : Blk}, nthO l i = some b → PureL b.cs
  | [], _, i, b, h => by simp [nthO] at h
  | x :: l, hp, 0, b, h => by simp [nthO] at h; subst h; exact hp.1
  | x :: l, hp, i + 1, b, h => pureAll_get hp.2 (by simpa [nthO] using h)
theorem newAll_get : ∀ {l : List Blk} (_ : newAll l) {i : Nat} {b : Blk}, nthO l i = some b → NewB b
  | [], _, i, b, h => by simp [nthO] at h
  | x :: l, hp, 0, b, h => by simp [nthO] at h; subst h; exact hp.1
  | x :: l, hp, i + 1, b, h => newAll_get hp.2 (by simpa [nthO] using h)
theorem roAll_get : ∀ {l : List Blk} (_ : roAll l) {i : Nat} {b : Blk}, nthO l i = some b → b.ro = true
  | [], _, i, b, h => by simp [nthO] at h
  | x :: l, hp, 0, b, h => by simp [nthO] at h; subst h; exact hp.1
  | x :: l, hp, i + 1, b, h => roAll_get hp.2 (by simpa [nthO] using h)
def CSp (P : Program) (f : FuncId) (c : NewC) : Prop := Callable P f ∧ ∀ args ros K, c args ros K → roAll ros → pureAll ros → ∀ ρ w, (∀ i b, nthO ros i = some b → w.rangeAt (ρ i).1 (ρ i).2 (cellsL ρ b.cs)) →
  Calls P f (args.map (SV.den ρ)).toArray w fun e w' => ∃ v news σ, K v news ∧ newAll news ∧ HRel w.heap.size ⟨w, fun _ => False, ρ⟩ (nthO (ros ++ news)) σ w' ∧ (∀ i, i < ros.length → σ i = ρ i) ∧ ∀ ρ', Agr (nthO (ros ++ news)) ρ' σ → e = .returned (v.den ρ')

/-! the caller's side -/
/-- slices and pointers numbered anew -/
def argK (hp : List Blk) : Nat → List SV → (List SV → List Blk → List Nat → Prop) → Prop
  | _, [], K => K [] [] []
  | k, .c (.sli nl b off len cap h) :: l, K => (match nthO hp b with
    | some ⟨ty, _, cs, _⟩ => argK hp (k + 1) l fun l ros bs => K (.c (.sli nl k off len cap h) :: l) (⟨ty, true, cs, 0⟩ :: ros) (b :: bs)
    | none => False)
  | k, .c (.ptr b off) :: l, K => (match nthO hp b with
    | some ⟨ty, _, cs, _⟩ => argK hp (k + 1) l fun l ros bs => K (.c (.ptr k off) :: l) (⟨ty, true, cs, 0⟩ :: ros) (b :: bs)
    | none => False)
  | k, .c (.val v) :: l, K => argK hp k l fun l ros bs => K (.c (.val v) :: l) ros bs
  | k, .c (.int n h) :: l, K => argK hp k l fun l ros bs => K (.c (.int n h) :: l) ros bs
  | k, .agg x :: l, K => PureL x ∧ argK hp k l fun l ros bs => K (.agg x :: l) ros bs
  | _, _, _ => False
/-- a number among the call's blocks, in the caller's numbering -/
def mvN (bs : List Nat) (n i : Nat) : Nat := match nthO bs i with | some b => b | none => n + (i - bs.length)
def C.mv (bs : List Nat) (n : Nat) : C → C
  | .ptr b off => .ptr (mvN bs n b) off
  | .sli nl b off len cap h => .sli nl (mvN bs n b) off len cap h
  | .fn f caps => .fn f (caps.map fun p => (mvN bs n p.1, p.2))
  | x => x
def T1.mv (bs : List Nat) (n : Nat) : T1 → T1
  | .c x => .c (x.mv bs n)
  | .agg l => .agg (l.map (C.mv bs n))
def SV.mv (bs : List Nat) (n : Nat) : SV → SV
  | .c x => .c (x.mv bs n)
  | .agg l => .agg (l.map (C.mv bs n))
  | .tup l => .tup (l.map (T1.mv bs n))
def appB : List Blk → List Blk → (List Blk → Prop) → Prop
  | [], l, K => K l
  | x :: m, l, K => appB m l fun l => K (x :: l)
theorem appB_eq : ∀ (l m : List Blk) (K : List Blk → Prop), appB l m K = K (l ++ m)
  | [], _, _ => rfl
  | _ :: l, m, K => by simp only [appB, appB_eq l m, List.cons_append]
def lkC : List (FuncId × NewC) → FuncId → Option NewC
  | [], _ => none
  | (g, c) :: l, f => if f = g then some c else lkC l f
def hnew (l : List (FuncId × NewC)) (H : FuncId → List SV → List Blk → (SV → List Blk → Prop) → Prop) (f : FuncId) (args : List SV) (hp : List Blk) (K : SV → List Blk → Prop) : Prop :=
  match lkC l f with
  | some c => argK hp 0 args fun args' ros bs => pureAll ros ∧ c args' ros fun v news => lenK hp fun n => appB hp news fun hp' => K (v.mv bs n) hp'
  | none => H f args hp K
def AllC (P : Program) (l : List (FuncId × NewC)) : Prop := ∀ x ∈ l, CSp P x.1 x.2
theorem AllC.nil {P : Program} : AllC P [] := fun x hx => by simp at hx
theorem AllC.cons {P : Program} {f : FuncId} {c : NewC} {l : List (FuncId × NewC)} (h : CSp P f c) (hl : AllC P l) : AllC P ((f, c) :: l) := fun x hx => by
  rcases List.mem_cons.1 hx with rfl | hx
  · exact h
  · exact hl x hx
theorem lkC_mem : ∀ {l : List (FuncId × NewC)} {f : FuncId} {c : NewC}, lkC l f = some c → (f, c) ∈ l
  | [], _, _, h => by simp [lkC] at h
  | (g, d) :: l, f, c, h => by
    unfold lkC at h
    split at h
    · rename_i e; cases h; subst e; exact List.mem_cons_self
    · exact List.mem_cons_of_mem _ (lkC_mem h)
theorem mv_cells {bs : List Nat} {n : Nat} (ρ : Rho) (x : C) : (x.mv bs n).cells ρ = x.cells (fun i => ρ (mvN bs n i)) := by
  cases x <;> simp [C.mv, C.cells, adr, Function.comp_def]
theorem mv_cellsL {bs : List Nat} {n : Nat} (ρ : Rho) : ∀ l : List C, cellsL ρ (l.map (C.mv bs n)) = cellsL (fun i => ρ (mvN bs n i)) l
  | [] => rfl
  | x :: l => by rw [List.map_cons, cellsL_cons, cellsL_cons, mv_cells, mv_cellsL ρ l]
theorem mv_t1 {bs : List Nat} {n : Nat} (ρ : Rho) (x : T1) : (x.mv bs n).den ρ = x.den (fun i => ρ (mvN bs n i)) := by
  cases x with
  | c x => simp only [T1.mv, T1.den, C.den, mv_cells]
  | agg l => simp only [T1.mv, T1.den, mv_cellsL]
theorem mv_den {bs : List Nat} {n : Nat} (ρ : Rho) (x : SV) : (x.mv bs n).den ρ = x.den (fun i => ρ (mvN bs n i)) := by
  cases x with
  | c x => simp only [SV.mv, SV.den, C.den, mv_cells]
  | agg l => simp only [SV.mv, SV.den, mv_cellsL]
  | tup l => simp only [SV.mv, SV.den, List.map_map]; congr 2; apply List.map_congr_left; intro a _; exact mv_t1 ρ a
/-- what the arguments come to -/
def ArgOut (hp : List Blk) (k : Nat) (l : List SV) (K : List SV → List Blk → List Nat → Prop) : Prop := ∃ l' ros bs, K l' ros bs ∧ ros.length = bs.length ∧ roAll ros ∧
    (∀ (i b : Nat), bs[i]? = some b → ∃ c d, nthO hp b = some c ∧ nthO ros i = some d ∧ d.cs = c.cs) ∧ ∀ ρ ρ' : Rho, (∀ (i b : Nat), bs[i]? = some b → ρ' (k + i) = ρ b) → l.map (SV.den ρ) = l'.map (SV.den ρ')
theorem argK_spec {hp : List Blk} : ∀ {l : List SV} {k : Nat} {K : List SV → List Blk → List Nat → Prop}, argK hp k l K → ArgOut hp k l K
  | [], k, K, h => ⟨[], [], [], h, rfl, trivial, fun i b h => by simp at h, fun _ _ _ => rfl⟩
  | x :: l, k, K, h => by
    have one : ∀ (y : SV) (ty : TypeId) (cs : List C) (b : Nat) (c : Blk), nthO hp b = some c → c.cs = cs → (∀ ρ ρ' : Rho, ρ' k = ρ b → x.den ρ = y.den ρ') → argK hp (k + 1) l (fun l ros bs => K (y :: l) (⟨ty, true, cs, 0⟩ :: ros) (b :: bs)) → ArgOut hp k (x :: l) K := fun y ty cs b c hb hc hd h => by
      obtain ⟨l', ros, bs, hK, hlen, hro, hbs, hden⟩ := argK_spec h
      refine ⟨y :: l', ⟨ty, true, cs, 0⟩ :: ros, b :: bs, hK, by simp [hlen], ⟨rfl, hro⟩, fun i b' hi => ?_, fun ρ ρ' h => ?_⟩
      · cases i with
        | zero => simp at hi; subst hi; exact ⟨c, _, hb, rfl, hc.symm⟩
        | succ i => exact hbs i b' (by simpa using hi)
      · rw [List.map_cons, List.map_cons, hden ρ ρ' (fun i b' hi => by have := h (i + 1) b' (by simpa using hi); rw [show k + 1 + i = k + (i + 1) by omega]; exact this), hd ρ ρ' (by have := h 0 b rfl; simpa using this)]
    have plain : ∀ (y : SV), (∀ ρ ρ' : Rho, x.den ρ = y.den ρ') → argK hp k l (fun l ros bs => K (y :: l) ros bs) → ArgOut hp k (x :: l) K := fun y hd h => by
      obtain ⟨l', ros, bs, hK, hlen, hro, hbs, hden⟩ := argK_spec h
      exact ⟨y :: l', ros, bs, hK, hlen, hro, hbs, fun ρ ρ' h => by rw [List.map_cons, List.map_cons, hden ρ ρ' h, hd ρ ρ']⟩
    unfold argK at h
    split at h
    · rename_i heq; cases heq
    · rename_i heq
      cases heq
      split at h
      · rename_i ty ro cs tl hb
        exact one _ ty cs _ _ hb rfl (fun ρ ρ' e => by simp only [SV.den, C.den, C.cells, e]) h
      · exact h.elim
    · rename_i heq
      cases heq
      split at h
      · rename_i ty ro cs tl hb
        exact one _ ty cs _ _ hb rfl (fun ρ ρ' e => by simp only [SV.den, C.den, C.cells, adr, e]) h
      · exact h.elim
    · rename_i heq; cases heq; exact plain _ (fun _ _ => rfl) h
    · rename_i heq; cases heq; exact plain _ (fun _ _ => rfl) h
    · rename_i heq; cases heq; exact plain _ (fun ρ ρ' => by simp only [SV.den]; rw [show cellsL ρ _ = cellsL ρ' _ from h.1 ρ ρ']) h.2
    · exact h.elim
theorem nthO_append (l m : List Blk) (i : Nat) : nthO (l ++ m) i = if i < l.length then nthO l i else nthO m (i - l.length) := by
  rw [nthO_eq, nthO_eq, nthO_eq]
  split
  · rename_i h; rw [List.getElem?_append_left h]
  · rename_i h; rw [List.getElem?_append_right (by omega)]
/-- the blocks made stand behind the caller's -/
theorem HRel.join {N : Nat} {w0 : Base} {hp : List Blk} {ρ0 : Rho} {w w' : World} (h : HRel N w0 (nthO hp) ρ0 w) {ros news : List Blk} {ρ σ : Rho} (hc : HRel w.heap.size ⟨w, fun _ => False, ρ⟩ (nthO (ros ++ news)) σ w') (hn : newAll news) :
    HRel N w0 (nthO (hp ++ news)) (fun i => if i < hp.length then ρ0 i else σ (i - hp.length + ros.length)) w' := by
  have hb := hc.bel
  have hold := h.below hb
  have hnew : ∀ {i : Nat} {b : Blk}, ¬ i < hp.length → nthO (hp ++ news) i = some b → nthO (ros ++ news) (i - hp.length + ros.length) = some b ∧ nthO news (i - hp.length) = some b := fun {i b} hi hb => by
    rw [nthO_append, if_neg hi] at hb
    refine ⟨?_, hb⟩
    rw [nthO_append, if_neg (by omega), Nat.add_sub_cancel]; exact hb
  have hlow : ∀ {i : Nat} {b : Blk}, i < hp.length → nthO (hp ++ news) i = some b → nthO hp i = some b := fun {i b} hi hb => by rw [nthO_append, if_pos hi] at hb; exact hb
  have hown : ∀ {i : Nat} {b : Blk}, nthO news i = some b → b.void = false → b.ro = false := fun hi hv => by
    rcases (newAll_get hn hi).2 with h | h
    · exact h
    · rw [h] at hv; cases hv
  refine ⟨fun i b hi hv => ?_, fun i b hi hro => ?_, fun i j b c hi hro hj hv hne => ?_, fun ρ1 hρ1 i b hi => ?_, hold.bel, hold.big, fun i hi => ?_⟩
  · show (if i < hp.length then ρ0 i else _).1 < _
    split
    · rename_i hlt; exact hold.old i b (hlow hlt hi) hv
    · rename_i hlt; exact hc.old _ b (hnew hlt hi).1 hv
  · show N ≤ (if i < hp.length then ρ0 i else _).1
    split
    · rename_i hlt; exact hold.own i b (hlow hlt hi) hro
    · rename_i hlt; exact Nat.le_trans h.big (hc.own _ b (hnew hlt hi).1 hro)
  · show (if j < hp.length then ρ0 j else _).1 ≠ (if i < hp.length then ρ0 i else _).1
    by_cases hil : i < hp.length <;> by_cases hjl : j < hp.length
    · rw [if_pos hil, if_pos hjl]; exact h.apart i j b c (hlow hil hi) hro (hlow hjl hj) hv hne
    · rw [if_pos hil, if_neg hjl]
      have h1 := h.old i b (hlow hil hi) (own_live hro)
      have h2 := hc.own _ c (hnew hjl hj).1 (hown (hnew hjl hj).2 hv)
      omega
    · rw [if_neg hil, if_pos hjl]
      have h1 := h.old j c (hlow hjl hj) hv
      have h2 := hc.own _ b (hnew hil hi).1 hro
      omega
    · rw [if_neg hil, if_neg hjl]
      exact hc.apart _ _ b c (hnew hil hi).1 hro (hnew hjl hj).1 hv (by omega)
  · by_cases hil : i < hp.length
    · refine hold.holds ρ1 (fun k hk => ?_) i b (hlow hil hi)
      have hkl : k < hp.length := by
        obtain ⟨x, hx⟩ := Option.isSome_iff_exists.1 hk
        rw [nthO_eq] at hx; exact (List.getElem?_eq_some_iff.1 hx).1
      have := hρ1 k (by rw [nthO_append, if_pos hkl]; exact hk)
      rw [this]; exact if_pos hkl
    · have h1 := (hnew hil hi).1
      have h2 := hc.holds (fun k => if k < ros.length then σ k else ρ1 (k - ros.length + hp.length)) (fun k hk => by
        show (if k < ros.length then σ k else ρ1 (k - ros.length + hp.length)) = σ k
        split
        · rfl
        · rename_i hkr
          have hx : (nthO (hp ++ news) (k - ros.length + hp.length)).isSome = true := by
            rw [nthO_append, if_neg (by omega), Nat.add_sub_cancel]
            rw [nthO_append, if_neg hkr] at hk
            exact hk
          rw [hρ1 _ hx]
          show (if k - ros.length + hp.length < hp.length then _ else σ (k - ros.length + hp.length - hp.length + ros.length)) = σ k
          rw [if_neg (by omega)]
          congr 1; omega) _ b h1
      have hp1 : PureL b.cs := (newAll_get hn (hnew hil hi).2).1
      have hp2 : ∀ ρ ρ' : Rho, cellsL ρ b.cs = cellsL ρ' b.cs := hp1
      unfold Holds at h2 ⊢
      have e : (if i - hp.length + ros.length < ros.length then σ (i - hp.length + ros.length) else ρ1 (i - hp.length + ros.length - ros.length + hp.length)) = ρ1 i := by
        rw [if_neg (by omega)]; congr 1; omega
      simp only [e] at h2
      rw [hp2 _ ρ1] at h2
      exact h2
  · have := h.ext i hi
    have hl : i < hp.length := by
      obtain ⟨x, hx⟩ := Option.isSome_iff_exists.1 this.1
      rw [nthO_eq] at hx; exact (List.getElem?_eq_some_iff.1 hx).1
    refine ⟨by rw [nthO_append, if_pos hl]; exact this.1, ?_⟩
    show (if i < hp.length then ρ0 i else _) = _
    rw [if_pos hl]; exact this.2
theorem hnew_ok {P : Program} {l : List (FuncId × NewC)} (hl : AllC P l) {H : FuncId → List SV → List Blk → (SV → List Blk → Prop) → Prop} (hH : HOk P H) : HOk P (hnew l H) := by
  intro f args hp K h
  unfold hnew at h
  split at h
  · rename_i c hc
    have hsp := hl _ (lkC_mem hc)
    refine ⟨hsp.1, fun N w0 ρ0 w hh _ => ?_⟩
    obtain ⟨l', ros, bs, hK, hlen, hro, hbs, hden⟩ := argK_spec h
    obtain ⟨hpure, hK⟩ := hK
    let ρ : Rho := fun i => ρ0 (bs[i]?.getD 0)
    have hρ : ∀ (i b : Nat), bs[i]? = some b → ρ i = ρ0 b := fun i b hi => by show ρ0 (bs[i]?.getD 0) = ρ0 b; rw [hi]; rfl
    have hargs : args.map (SV.den ρ0) = l'.map (SV.den ρ) := hden ρ0 ρ (fun i b hi => by rw [Nat.zero_add]; exact hρ i b hi)
    rw [hargs]
    refine (hsp.2 l' ros _ hK hro hpure ρ w (fun i d hd => ?_)).mono ?_
    · have hi : i < ros.length := by rw [nthO_eq] at hd; exact (List.getElem?_eq_some_iff.1 hd).1
      obtain ⟨b, hb⟩ : ∃ b, bs[i]? = some b := ⟨_, List.getElem?_eq_getElem (by omega)⟩
      obtain ⟨c', d', h1, h2, h3⟩ := hbs i b hb
      rw [hd] at h2; cases h2
      have := (hh.holds ρ0 (Agr.refl _ _) b c' h1).1
      have hp2 : cellsL ρ d.cs = cellsL ρ0 d.cs := (pureAll_get hpure hd) ρ ρ0
      rw [hρ i b hb, hp2, h3]
      exact this
    · rintro e w' ⟨v, news, σ, hK, hn, hc, hσ, he⟩
      rw [lenK_eq, appB_eq] at hK
      refine ⟨_, _, _, hK, hh.join hc hn, fun i hi => ?_, fun ρ1 hρ1 => ?_⟩
      · have hil : i < hp.length := by
          obtain ⟨x, hx⟩ := Option.isSome_iff_exists.1 hi
          rw [nthO_eq] at hx; exact (List.getElem?_eq_some_iff.1 hx).1
        exact ⟨by rw [nthO_append, if_pos hil]; exact hi, if_pos hil⟩
      · rw [mv_den]
        refine he _ (fun k hk => ?_)
        have hkl : k < (ros ++ news).length := by
          obtain ⟨x, hx⟩ := Option.isSome_iff_exists.1 hk
          rw [nthO_eq] at hx; exact (List.getElem?_eq_some_iff.1 hx).1
        show ρ1 (mvN bs hp.length k) = σ k
        unfold mvN
        by_cases hkr : k < ros.length
        · have hkb : k < bs.length := by omega
          obtain ⟨b, hb⟩ : ∃ b, bs[k]? = some b := ⟨_, List.getElem?_eq_getElem hkb⟩
          rw [nthO_eq, hb]
          obtain ⟨c', d', h1, -⟩ := hbs k b hb
          have hbl : b < hp.length := by rw [nthO_eq] at h1; exact (List.getElem?_eq_some_iff.1 h1).1
          rw [hσ k hkr, hρ k b hb]
          have := hρ1 b (by rw [nthO_append, if_pos hbl, h1]; rfl)
          rw [this]; exact if_pos hbl
        · rw [nthO_eq, List.getElem?_eq_none (by omega)]
          have hx : (nthO (hp ++ news) (hp.length + (k - bs.length))).isSome = true := by
            rw [nthO_append, if_neg (by omega)]
            rw [nthO_append, if_neg hkr] at hk
            rw [show hp.length + (k - bs.length) - hp.length = k - ros.length by omega]; exact hk
          have := hρ1 _ hx
          show ρ1 (hp.length + (k - bs.length)) = σ k
          rw [this]
          show (if hp.length + (k - bs.length) < hp.length then _ else σ (hp.length + (k - bs.length) - hp.length + ros.length)) = σ k
          rw [if_neg (by omega)]
          congr 1; omega
  · exact hH f args hp K h

/-! the function's own side: what a walk shows -/
def SameV (x y : SV) : Prop := ∀ ρ, x.den ρ = y.den ρ
def outK (ros : List Blk) (K : SV → List Blk → Prop) (v : SV) (hp : List Blk) : Prop :=
  ∃ sel pf : List Nat, ∀ vs, endK ros.length sel [0] pf vs [v] hp fun tm hp2 => ∃ v2 news, tm = [v2] ∧ SameHp hp2 (ros ++ news) ∧ newAll news ∧ ∃ v3, SameV v2 v3 ∧ K v3 news
theorem csp_of {P : Program} {E : Env} (hE : EOk P E) (hm : P.follows .mixedOrders = true) {H : FuncId → List SV → List Blk → (SV → List Blk → Prop) → Prop} (hH : HOk P H) {f : FuncId} {fn : Func} (hf : FnOk P f fn) {c : NewC}
    (h : ∀ args ros K, c args ros K → (∀ ρ ρ', (∀ i, i < ros.length → ρ i = ρ' i) → args.map (SV.den ρ) = args.map (SV.den ρ')) ∧ vcF E H fn args ros (outK ros K)) : CSp P f c := by
  refine ⟨hf.callable, fun args ros K hc hro hpure ρ w hr => ?_⟩
  obtain ⟨hargs, hwalk⟩ := h args ros K hc
  have hlen : ∀ {i : Nat}, (nthO ros i).isSome = true ↔ i < ros.length := fun {i} => by
    rw [nthO_eq]
    constructor
    · intro h; obtain ⟨x, hx⟩ := Option.isSome_iff_exists.1 h; exact (List.getElem?_eq_some_iff.1 hx).1
    · intro h; rw [List.getElem?_eq_getElem h]; rfl
  have hh : HRel w.heap.size ⟨w, fun i => (nthO ros i).isSome = true, ρ⟩ (nthO ros) ρ w := by
    refine ⟨fun i b hi hv => ?_, fun i b hi ho => ?_, fun i j b c hi ho => ?_, fun ρ' hρ i b hi => ?_, Below.refl _ _, Nat.le_refl _, fun i h => ⟨h, rfl⟩⟩
    · have h0 : 0 < sizeC b.cs := by
        cases hc : b.cs with
        | nil =>
          unfold Blk.void at hv
          rw [hc, roAll_get hro hi] at hv
          cases hv
        | cons x l => cases x <;> simp [sizeC, C.n] <;> omega
      rw [sizeC_eq ρ] at h0
      exact block_lt_of_cell (hr i b hi 0 _ (List.getElem?_eq_getElem h0))
    · rw [roAll_get hro hi] at ho; cases ho
    · rw [roAll_get hro hi] at ho; cases ho
    · refine ⟨?_, fun ho => by rw [roAll_get hro hi] at ho; cases ho⟩
      have hp2 : cellsL ρ' b.cs = cellsL ρ b.cs := (pureAll_get hpure hi) ρ' ρ
      rw [hρ i (by rw [hi]; rfl), hp2]
      exact hr i b hi
  refine (fn_ok hE hm hH hf hwalk w.heap.size _ ρ w hh (fun ρ' hρ => hargs ρ' ρ fun i hi => hρ i (hlen.2 hi))).mono ?_
  rintro e w' ⟨v, hp', ρ1, ⟨sel, pf, hout⟩, hh', -, he⟩
  have he0 := he ρ1 (Agr.refl _ _)
  have hrel : RelS w.heap.size ⟨w, fun i => (nthO ros i).isSome = true, ρ⟩ [v] hp' { tmps := #[v.den ρ1], defers := [] } w' := ⟨ρ1, hh', fun ρ' hρ' => by
    have := he ρ' hρ'
    rw [he0] at this
    have : v.den ρ1 = v.den ρ' := by simpa using this
    simp [this], rfl⟩
  obtain ⟨tm2, hp2, ⟨v2, news, rfl, hsame, hn, v3, hv3, hK⟩, hr2⟩ := endK_ok (n0 := ros.length) (fun i hi => hlen.1 hi) hrel (hout _)
  have hr3 := hr2.same (tm2 := [v3]) ⟨hv3, trivial⟩ hsame
  obtain ⟨σ, hh3, ht3, -⟩ := hr3
  refine ⟨v3, news, σ, hK, hn, ⟨hh3.old, hh3.own, hh3.apart, hh3.holds, hh3.bel, hh3.big, fun i hi => hi.elim⟩, fun i hi => ?_, fun ρ' hρ' => ?_⟩
  · exact (hh3.ext i (hlen.2 hi)).2
  · have := ht3 ρ' hρ'
    simp only [List.map_cons, List.map_nil, List.cons.injEq, and_true] at this
    rw [he0, this]
end Go.Proofs.YtapppahniablmaaDoor
