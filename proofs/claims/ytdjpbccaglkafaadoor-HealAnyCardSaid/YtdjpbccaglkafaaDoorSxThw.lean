/- The reckoner: pieces of families that are written, or become blocks of one's own again; addresses in words. -/
import Derived.Test.YtdjpbccaglkafaaDoorSxFam2
namespace Go.Proofs.YtdjpbccaglkafaaDoor
open Go.RowKit

/-- the same blocks in other words -/
theorem HRel.same {N : Nat} {w0 : Base} {hp hp2 : List Blk} {ρ0 : Rho} {w : World} (hh : HRel N w0 (nthO hp) ρ0 w) (e2 : SameHp hp hp2) : HRel N w0 (nthO hp2) ρ0 w ∧ ∀ i, (nthO hp2 i).isSome = (nthO hp i).isSome := by
  have hagr : ∀ ρ, Agr (nthO hp2) ρ ρ0 → Agr (nthO hp) ρ ρ0 := fun ρ hρ i hi => by
    obtain ⟨b, hb⟩ := Option.isSome_iff_exists.1 hi
    obtain ⟨c, hc⟩ := e2.some' i b hb
    exact hρ i (by rw [hc]; rfl)
  have hvoid : ∀ i b c, nthO hp i = some b → nthO hp2 i = some c → b.ro = c.ro → (∀ ρ, cellsL ρ b.cs = cellsL ρ c.cs) → c.void = false → b.void = false := fun i b c _ _ h2 h3 hv => by
    rcases void_or b with h | h
    · obtain ⟨h4, h5⟩ := void_spec h
      have h6 := h3 ρ0
      rw [h5] at h6
      have h7 : sizeC c.cs = 0 := by rw [sizeC_eq ρ0, ← h6]; rfl
      have h8 : c.cs = [] := by
        cases hc : c.cs with
        | nil => rfl
        | cons x l => rw [hc] at h7; cases x <;> simp [sizeC, C.n] at h7
      unfold Blk.void at hv
      rw [h8, ← h2, h4] at hv
      cases hv
    · exact h
  refine ⟨⟨fun i c hc hv => ?_, fun i c hc ho => ?_, fun i j c d hc ho hd hdv => ?_, fun ρ hρ i c hc => ?_, hh.bel, hh.big, fun i hi => ?_, fun i c e hc he => ?_, fun i j c d hc hd' h1 h2 hji => ?_, hh.fam.up (fun i c hc hm => ?_) fun j c hc ho => ?_⟩, fun i => ?_⟩
  · obtain ⟨b, hb, -, h2, -, h3, -⟩ := e2.get i c hc; exact hh.old i b hb (hvoid i b c hb hc h2 h3 hv)
  · obtain ⟨b, hb, -, h2, -⟩ := e2.get i c hc; exact hh.own i b hb (h2.trans ho)
  · obtain ⟨b, hb, -, h2, -⟩ := e2.get i c hc
    obtain ⟨b', hb', -, h2', -, h3', -⟩ := e2.get j d hd
    exact hh.apart i j b b' hb (h2.trans ho) hb' (hvoid j b' d hb' hd h2' h3' hdv)
  · obtain ⟨b, hb, h1, h2, h5, h3, -⟩ := e2.get i c hc
    have := hh.holds ρ (hagr ρ hρ) i b hb
    unfold Holds at this ⊢
    rw [← h3 ρ, ← h1, ← h2, ← h5]
    exact this
  · have := hh.ext i hi
    refine ⟨?_, this.2⟩
    obtain ⟨b, hb⟩ := Option.isSome_iff_exists.1 this.1
    obtain ⟨c, hc⟩ := e2.some' i b hb
    rw [hc]; rfl
  · obtain ⟨b, hb, -, -, -, -, h6⟩ := e2.get i c hc
    exact hh.maps i b e hb (h6.trans he)
  · obtain ⟨b, hb, -, -, -, -, h6⟩ := e2.get i c hc
    obtain ⟨b', hb', -, -, -, -, h6'⟩ := e2.get j d hd'
    exact hh.mapA i j b b' hb hb' (by rw [h6]; exact h1) (by rw [h6']; exact h2) hji
  · obtain ⟨b, hb, h1, h2, h5, -⟩ := e2.get i c hc
    exact ⟨i, b, hb, by unfold Blk.famOf; rw [h1, h2, h5]⟩
  · obtain ⟨b, hb, -, h2, -⟩ := e2.get j c hc
    exact .inl ⟨j, b, hb, h2.trans ho, rfl⟩
  · cases h1 : nthO hp i with
    | none =>
      cases h2 : nthO hp2 i with
      | none => rfl
      | some c => obtain ⟨b, hb, -⟩ := e2.get i c h2; rw [h1] at hb; cases hb
    | some b => obtain ⟨c, hc⟩ := e2.some' i b h1; rw [hc]; rfl
/-- ahead of a call the state is put in other words -/
def hsm (H : FuncId → List SV → List Blk → (SV → List Blk → Prop) → Prop) (f : FuncId) (args : List SV) (hp : List Blk) (K : SV → List Blk → Prop) : Prop :=
  H f args hp K ∨ ∃ args' hp', SameTm args args' ∧ SameHp hp hp' ∧ H f args' hp' K
theorem hsm_ok {P : Program} {H : FuncId → List SV → List Blk → (SV → List Blk → Prop) → Prop} (hH : HOk P H) : HOk P (hsm H) := fun f args hp K h => by
  rcases h with h | ⟨args', hp', e1, e2, h⟩
  · exact hH f args hp K h
  · refine ⟨(hH f args' hp' K h).1, fun N w0 ρ0 w hh hargs => ?_⟩
    obtain ⟨h2, hs⟩ := hh.same e2
    have e0 : args.map (SV.den ρ0) = args'.map (SV.den ρ0) := e1.den ρ0
    rw [e0]
    refine ((hH f args' hp' K h).2 N w0 ρ0 w h2 fun ρ hρ => ?_).mono ?_
    · rw [← e1.den ρ, ← e1.den ρ0]; exact hargs ρ fun i hi => hρ i (by rw [hs i]; exact hi)
    · rintro e w' ⟨v, hp2, ρ1, k1, k2, k3, k4⟩
      exact ⟨v, hp2, ρ1, k1, k2, fun i hi => k3 i (by rw [hs i]; exact hi), k4⟩
/-- nothing that is only read is known any more -/
def noRo : List Blk → Prop
  | [] => True
  | b :: l => (b.ro = false ∨ b.void = true) ∧ noRo l
theorem noRo_get : ∀ {l : List Blk} (_ : noRo l) {i : Nat} {b : Blk}, nthO l i = some b → b.ro = false ∨ b.void = true
  | [], _, i, b, h => by simp [nthO] at h
  | x :: l, hp, 0, b, h => by simp [nthO] at h; subst h; exact hp.1
  | x :: l, hp, i + 1, b, h => noRo_get hp.2 (by simpa [nthO] using h)
/-- a family's pieces lie elsewhere -/
def disB (r : Nat) (b : Blk) : Prop :=
  match b.ty with
  | .x l => (match b.tl with
    | 3 => True
    | _ => ∀ e, e ∈ l → e.a.1 ≠ r)
  | _ => True
theorem disB_get {r : Nat} {b : Blk} (h : disB r b) {l : List Ent} (hm : b.famOf = some (true, l)) : ∀ e, e ∈ l → e.a.1 ≠ r := by
  obtain ⟨ty, ro, cs, tl⟩ := b
  unfold Blk.famOf famC at hm
  split at hm
  · rename_i h1 h2 h3
    cases hm
    simp only at h1 h3
    subst h1 h3
    exact h
  · cases hm
  · cases hm
def disF (r fb : Nat) : Nat → List Blk → Prop
  | _, [] => True
  | i, b :: l => (match Nat.beq i fb with
    | true => True
    | false => disB r b) ∧ disF r fb (i + 1) l
theorem disF_get {r fb : Nat} : ∀ {l : List Blk} {k : Nat} (_ : disF r fb k l) {i : Nat} {b : Blk}, nthO l i = some b → k + i ≠ fb → disB r b
  | [], _, _, i, b, h, _ => by simp [nthO] at h
  | x :: l, k, hp, 0, b, h, hne => by
    simp [nthO] at h
    subst h
    have h1 := hp.1
    have e : Nat.beq k fb = false := by
      cases hb : Nat.beq k fb
      · rfl
      · exact absurd (Nat.eq_of_beq_eq_true hb) (by simpa using hne)
    rw [e] at h1
    exact h1
  | x :: l, k, hp, i + 1, b, h, hne => disF_get hp.2 (by simpa [nthO] using h) (by omega)
section
variable {N : Nat} {w0 : Base} {hf : Nat → Option Blk} {ρ0 : Rho} {w : World}
/-- a piece becomes a block -/
theorem HRel.thaw (h : HRel N w0 hf ρ0 w) {fb n : Nat} (hn : hf n = none) {l1 l2 : List Ent} {e : Ent} (hfb : hf fb = some ⟨.x (l1 ++ e :: l2), true, [], 2⟩)
    (hlive : ∀ i b, hf i = some b → b.ro = false ∨ b.void = true) (hdis : ∀ i b l, hf i = some b → i ≠ fb → b.famOf = some (true, l) → ∀ e', e' ∈ l → e'.a.1 ≠ e.a.1) (hd2 : ∀ e', e' ∈ l1 ++ l2 → e'.a.1 ≠ e.a.1) :
    HRel N w0 (upF (upF hf fb ⟨.x (l1 ++ l2), true, [], 2⟩) n ⟨.t e.ty, false, e.cs, e.tl⟩) (upR ρ0 n (e.a.1, 0)) w := by
  have hmem : e ∈ l1 ++ e :: l2 := by simp
  have he := h.fam fb _ true _ e hfb rfl hmem
  obtain ⟨hN, -, t, ht, hheap⟩ := he.1.own rfl
  have hne : n ≠ fb := fun e1 => by rw [← e1, hn] at hfb; cases hfb
  have k2 := h.ghost (fb := fb) (l := l1 ++ l2) (fun e' he' => by
    have := h.fam fb _ true _ e' hfb rfl (by
      rcases List.mem_append.1 he' with h1 | h1
      · exact List.mem_append_left _ h1
      · exact List.mem_append_right _ (List.mem_cons_of_mem _ h1))
    exact ⟨this.1, fun j c _ hj hc => this.2 j c hj hc⟩)
  have hup : ∀ i b, upF hf fb ⟨.x (l1 ++ l2), true, [], 2⟩ i = some b → (i = fb ∧ b = ⟨.x (l1 ++ l2), true, [], 2⟩) ∨ (i ≠ fb ∧ hf i = some b) := fun i b hi => by
    unfold upF at hi
    split at hi
    · rename_i e1; cases hi; exact .inl ⟨e1, rfl⟩
    · rename_i e1; exact .inr ⟨e1, hi⟩
  refine k2.app (w' := w) (g0 := some e.a.1) (c := ⟨.t e.ty, false, e.cs, e.tl⟩) (by unfold upF; rw [if_neg hne]; exact hn) (World.grownBy.refl _ _) (fun k hk => ?_) (fun k hk i b o l e' hi hm he' => ?_) (.inl rfl) rfl hheap ht (fun ρ _ => he.1.pure _ _)
  · cases hk
    refine ⟨hN, ⟨_, _, _, hheap⟩, fun i b hi hv => ?_⟩
    rcases hup i b hi with ⟨rfl, rfl⟩ | ⟨_, hi⟩
    · cases hv
    · rcases hlive i b hi with h1 | h1
      · exact he.2 i b hi h1
      · rw [h1] at hv; cases hv
  · cases hk
    rcases hup i b hi with ⟨rfl, rfl⟩ | ⟨hif, hi⟩
    · cases hm; exact hd2 e' he'
    · cases o with
      | true => exact hdis i b l hi hif hm e' he'
      | false =>
        have := (h.fam i b false l e' hi hm he').1.old rfl
        omega
/-- and a piece again -/
theorem HRel.refrz (h : HRel N w0 hf ρ0 w) {fb n : Nat} {ty : TypeId} {cs : List C} {tl : Nat} (hn : hf n = some ⟨.t ty, false, cs, tl⟩) (hpure : PureL cs) {l1 l2 : List Ent} (hfb : hf fb = some ⟨.x (l1 ++ l2), true, [], 2⟩) :
    HRel N w0 (upF (upF hf n ⟨.t 0, true, [], 0⟩) fb ⟨.x (l1 ++ ⟨((ρ0 n).1, 0), cs, ty, tl⟩ :: l2), true, [], 2⟩) ρ0 w := by
  obtain ⟨h01, t0, ht0, hheap⟩ := (h.holds ρ0 (Agr.refl _ _) n _ hn).2 rfl
  have h3 : cellsL (fun _ => (0, 0)) cs = cellsL ρ0 cs := hpure _ _
  have e1 : FamAt N w true ⟨((ρ0 n).1, 0), cs, ty, tl⟩ := by
    refine ⟨hpure, ⟨_, hheap, rfl⟩, fun _ => ⟨h.own n _ hn rfl, rfl, t0, ht0, by rw [h3]; exact hheap⟩, ?_, fun h => (by cases h)⟩
    have h2 := (h.holds ρ0 (Agr.refl _ _) n _ hn).1
    show w.rangeAt (ρ0 n).1 0 (cellsL (fun _ => (0, 0)) cs)
    rw [h3]
    rw [h01] at h2
    exact h2
  have k1 := h.kill (b := n) (v := ⟨.t 0, true, [], 0⟩) rfl (map_tl rfl) (fam_tl rfl)
  have own : ∀ j c, upF hf n ⟨.t 0, true, [], 0⟩ j = some c → c.ro = false → j ≠ n ∧ hf j = some c := fun j c hj hc => by
    unfold upF at hj
    split at hj
    · cases hj; cases hc
    · rename_i e; exact ⟨e, hj⟩
  refine k1.ghost fun e he => ?_
  have old : ∀ e, e ∈ l1 ++ l2 → FamAt N w true e ∧ ∀ j c, j ≠ fb → upF hf n ⟨.t 0, true, [], 0⟩ j = some c → c.ro = false → (ρ0 j).1 ≠ e.a.1 := fun e he => by
    have := h.fam fb _ true _ e hfb rfl he
    exact ⟨this.1, fun j c _ hj hc => this.2 j c (own j c hj hc).2 hc⟩
  rcases List.mem_append.1 he with he | he
  · exact old e (List.mem_append_left _ he)
  · rcases List.mem_cons.1 he with rfl | he
    · exact ⟨e1, fun j c _ hj hc => h.apart n j _ c hn rfl (own j c hj hc).2 (own_live hc) (own j c hj hc).1⟩
    · exact old e (List.mem_append_right _ he)
end
/-- a block forgotten, ahead of an operation -/
def okl (E : Env) (H : FuncId → List SV → List Blk → (SV → List Blk → Prop) → Prop) (O : Oper → List SV → List Blk → (List SV → List Blk → Prop) → Prop) : Nat → Oper → List SV → List Blk → (List SV → List Blk → Prop) → Prop
  | 0, o, tm, hp, K => O o tm hp K
  | n + 1, o, tm, hp, K => O o tm hp K ∨ ∃ b, (match nthO hp b with
    | some _ => updK hp b ⟨.t 0, true, [], 0⟩ fun hp' => vcOp { E with O := okl E H O n } H o tm hp' K
    | none => False)
theorem okl_ok {P : Program} {E : Env} (hE : EOk P E) {H : FuncId → List SV → List Blk → (SV → List Blk → Prop) → Prop} (hH : HOk P H) {O : Oper → List SV → List Blk → (List SV → List Blk → Prop) → Prop} (hO : OOk P O) : ∀ n, OOk P (okl E H O n)
  | 0 => hO
  | n + 1 => fun o tm hp K h N w0 a w next Q hr hn => by
    rcases h with h | ⟨b, h⟩
    · exact hO o tm hp K h hr hn
    · split at h
      · rename_i c hc
        rw [updK_eq] at h
        obtain ⟨ρ0, hh, ht, hd⟩ := hr
        have hE2 : EOk P { E with O := okl E H O n } := ⟨hE.T, hE.D, okl_ok hE hH hO n, hE.R⟩
        have e := nthO_set hp b (⟨.t 0, true, [], 0⟩ : Blk) _ hc
        refine vcOp_ok hE2 hH h ⟨ρ0, by rw [e]; exact hh.kill rfl (map_tl rfl) (fam_tl rfl), fun ρ hρ => ht ρ fun i hi => hρ i ?_, hd⟩ hn
        rw [e]; unfold upF; split
        · rfl
        · exact hi
      · exact h.elim
/-- a piece that a slice in a slot speaks of becomes a block of one's own -/
def thwB (hp : List Blk) (v : Value) (K : Nat → List Blk → SV → Prop) : Prop :=
  ∃ (nl : Bool) (r len cap : Nat) (h : SliOk nl len cap) (fb : Nat) (l1 : List Ent) (e : Ent) (l2 : List Ent), v = .slice (nlA nl ⟨r, 0, none⟩) len cap ∧ e.a.1 = r ∧ nthO hp fb = some ⟨.x (l1 ++ e :: l2), true, [], 2⟩ ∧
    (noRo hp ∧ disF r fb 0 hp ∧ ∀ e', e' ∈ l1 ++ l2 → e'.a.1 ≠ r) ∧ updK hp fb ⟨.x (l1 ++ l2), true, [], 2⟩ fun hp1 => snocK hp1 ⟨.t e.ty, false, e.cs, e.tl⟩ fun hp' => lenK hp fun n => K n hp' (.c (.sli nl n 0 len cap h))
theorem thwB_ok {hp : List Blk} {v : Value} {K : Nat → List Blk → SV → Prop} (h : thwB hp v K) {N : Nat} {w0 : Base} {ρ0 : Rho} {w : World} (hh : HRel N w0 (nthO hp) ρ0 w) :
    ∃ hp' s p, K hp.length hp' s ∧ HRel N w0 (nthO hp') (upR ρ0 hp.length p) w ∧ (∀ i, (nthO hp i).isSome = true → (nthO hp' i).isSome = true ∧ upR ρ0 hp.length p i = ρ0 i) ∧ ∀ ρ, Agr (nthO hp') ρ (upR ρ0 hp.length p) → s.den ρ = v := by
  obtain ⟨nl, r, len, cap, hl, fb, l1, e, l2, rfl, rfl, hfb, ⟨h1, h2, h3⟩, h⟩ := h
  rw [updK_eq, snocK_eq, lenK_eq] at h
  have hn := nthO_none hp
  have hs1 := nthO_set hp fb (⟨.x (l1 ++ l2), true, [], 2⟩ : Blk) _ hfb
  have hsn : nthO (hp.set fb (⟨.x (l1 ++ l2), true, [], 2⟩ : Blk) ++ [(⟨.t e.ty, false, e.cs, e.tl⟩ : Blk)]) = upF (upF (nthO hp) fb ⟨.x (l1 ++ l2), true, [], 2⟩) hp.length ⟨.t e.ty, false, e.cs, e.tl⟩ := by
    rw [nthO_snoc', hs1, List.length_set]
  have ht := hh.thaw hn hfb (fun i b hi => noRo_get h1 hi) (fun i b l hi hne hm e' he' => disB_get (disF_get h2 hi (by rw [Nat.zero_add]; exact hne)) hm e' he') h3
  have hag : ∀ i, (nthO hp i).isSome = true → i ≠ hp.length := fun i hi e1 => by rw [e1, hn] at hi; cases hi
  refine ⟨_, _, (e.a.1, 0), h, by rw [hsn]; exact ht, fun i hi => ⟨?_, if_neg (hag i hi)⟩, fun ρ hρ => ?_⟩
  · rw [hsn]; unfold upF; split
    · rfl
    · split
      · rfl
      · exact hi
  · have : ρ hp.length = (e.a.1, 0) := by
      rw [hρ _ (by rw [hsn]; unfold upF; rw [if_pos rfl]; rfl)]; unfold upR; rw [if_pos rfl]
    simp [SV.den, C.den, C.cells, this]
def argT (hp : List Blk) : List SV → Nat → (List SV → List Blk → Prop) → Prop
  | [], _, _ => False
  | x :: l, 0, K => (match x with
    | .c (.val v) => thwB hp v fun _ hp' s => K (s :: l) hp'
    | _ => False)
  | x :: l, k + 1, K => argT hp l k fun l hp' => K (x :: l) hp'
theorem argT_ok {hp : List Blk} : ∀ {l : List SV} {k : Nat} {K : List SV → List Blk → Prop}, argT hp l k K → ∀ {N : Nat} {w0 : Base} {ρ0 : Rho} {w : World}, HRel N w0 (nthO hp) ρ0 w →
    ∃ hp' l' p, K l' hp' ∧ HRel N w0 (nthO hp') (upR ρ0 hp.length p) w ∧ (∀ i, (nthO hp i).isSome = true → (nthO hp' i).isSome = true ∧ upR ρ0 hp.length p i = ρ0 i) ∧ ∀ ρ, Agr (nthO hp') ρ (upR ρ0 hp.length p) → Agr (nthO hp) ρ ρ0 → l'.map (SV.den ρ) = l.map (SV.den ρ)
  | [], _, _, h => h.elim
  | x :: l, k + 1, K, h => fun hh => by
    have h : argT hp l k fun l hp' => K (x :: l) hp' := h
    obtain ⟨hp', l', p, h1, h2, h3, h4⟩ := argT_ok h hh
    exact ⟨hp', x :: l', p, h1, h2, h3, fun ρ hρ hr => by rw [List.map_cons, List.map_cons, h4 ρ hρ hr]⟩
  | x :: l, 0, K, h => fun hh => by
    unfold argT at h
    split at h
    · obtain ⟨hp', s, p, h1, h2, h3, h4⟩ := thwB_ok h hh
      exact ⟨hp', s :: l, p, h1, h2, h3, fun ρ hρ _ => by rw [List.map_cons, List.map_cons, h4 ρ hρ]; rfl⟩
    · exact h.elim
def othw (E : Env) (H : FuncId → List SV → List Blk → (SV → List Blk → Prop) → Prop) (O : Oper → List SV → List Blk → (List SV → List Blk → Prop) → Prop) : Nat → Oper → List SV → List Blk → (List SV → List Blk → Prop) → Prop
  | 0, o, tm, hp, K => O o tm hp K
  | n + 1, o, tm, hp, K => O o tm hp K ∨ ∃ k, argT hp tm k fun tm hp' => vcOp { E with O := othw E H O n } H o tm hp' K
theorem othw_ok {P : Program} {E : Env} (hE : EOk P E) {H : FuncId → List SV → List Blk → (SV → List Blk → Prop) → Prop} (hH : HOk P H) {O : Oper → List SV → List Blk → (List SV → List Blk → Prop) → Prop} (hO : OOk P O) : ∀ n, OOk P (othw E H O n)
  | 0 => hO
  | n + 1 => fun o tm hp K h N w0 a w next Q hr hn => by
    rcases h with h | ⟨k, h⟩
    · exact hO o tm hp K h hr hn
    · obtain ⟨ρ0, hh, ht, hd⟩ := hr
      obtain ⟨hp', l', p, h1, h2, h3, h4⟩ := argT_ok h hh
      have hE2 : EOk P { E with O := othw E H O n } := ⟨hE.T, hE.D, othw_ok hE hH hO n, hE.R⟩
      exact vcOp_ok hE2 hH h1 ⟨_, h2, fun ρ hρ => by rw [h4 ρ hρ (hρ.sub h3)]; exact ht ρ (hρ.sub h3), hd⟩ hn
/-! addresses in words -/
def oAdr (T : TypeId → Option TI) (O : Oper → List SV → List Blk → (List SV → List Blk → Prop) → Prop) (o : Oper) (tm : List SV) (hp : List Blk) (K : List SV → List Blk → Prop) : Prop :=
  O o tm hp K ∨ match o.op with
  | .indexAddr t x i => (match T t with
    | some { sh := .slice _ esz _, .. } => ∃ r off len cap j, evm tm x = .c (.val (.slice (some ⟨r, off, none⟩) len cap)) ∧ natOf (evm tm i) = some j ∧ j < len ∧ putK o.dst (.c (.val (.pointer (some ⟨r, off + j * esz, none⟩)))) tm fun tm => K tm hp
    | some { sh := .array n esz _, .. } => ∃ r off j, evm tm x = .c (.val (.pointer (some ⟨r, off, none⟩))) ∧ natOf (evm tm i) = some j ∧ j < n ∧ putK o.dst (.c (.val (.pointer (some ⟨r, off + j * esz, none⟩)))) tm fun tm => K tm hp
    | _ => False)
  | .fieldAddr t x f => (match T t with
    | some { sh := .struct fs, .. } => ∃ r off so n a, evm tm x = .c (.val (.pointer (some ⟨r, off, none⟩))) ∧ nthO fs f = some (so, n, a) ∧ n ≠ 0 ∧ putK o.dst (.c (.val (.pointer (some ⟨r, off + so, none⟩)))) tm fun tm => K tm hp
    | _ => False)
  | .load t x => (match T t with
    | some ti => ∃ r o1 off fb cs v, evm tm x = .c (.val (.pointer (some ⟨r, o1 + off, none⟩))) ∧ famHas hp fb (r, o1) cs ∧ (partC ti.agg cs off ti.size = some v ∧ ∀ ρ ρ' : Rho, v.den ρ = v.den ρ') ∧ v.force fun v => putK o.dst v tm fun tm => K tm hp
    | none => False)
  | .store t x y => (match (evm tm y).ch, T t with
    | some l, some ti => ∃ r off fb l1 e l2 cs', evm tm x = .c (.val (.pointer (some ⟨r, off, none⟩))) ∧ (sizeC l = ti.size ∧ allOne l = true ∧ e.a.1 = r) ∧ nthO hp fb = some ⟨.x (l1 ++ e :: l2), true, [], 2⟩ ∧ (putC e.cs off l = some cs' ∧ PureL cs') ∧
      (noRo hp ∧ disF r fb 0 hp ∧ ∀ e', e' ∈ l1 ++ l2 → e'.a.1 ≠ r) ∧ updK hp fb ⟨.x (l1 ++ ⟨(r, 0), cs', e.ty, e.tl⟩ :: l2), true, [], 2⟩ fun hp1 => snocK hp1 ⟨.t 0, true, [], 0⟩ fun hp' => putK o.dst uv tm fun tm => K tm hp'
    | _, _ => False)
  | _ => False
open Classical in
theorem oAdr_ok {P : Program} {T : TypeId → Option TI} (hT : TOk P T) {O : Oper → List SV → List Blk → (List SV → List Blk → Prop) → Prop} (hO : OOk P O) : OOk P (oAdr T O) := fun o tm hp K h N w0 a w next Q hr hn => by
  rcases h with h | h
  · exact hO o tm hp K h hr hn
  obtain ⟨ρ0, hh, ht, hd⟩ := hr
  have hev : ∀ ρ, Agr (nthO hp) ρ ρ0 → a.eval = evr (evm tm) ρ := fun ρ hρ => eval_ok (ht ρ hρ)
  have hev0 := hev ρ0 (Agr.refl _ _)
  have hN := nthO_none hp
  have fin : ∀ sv : SV, (∀ ρ ρ' : Rho, sv.den ρ = sv.den ρ') → (execOp a.eval o).run P w = .ok (.value (sv.den ρ0)) w → (putK o.dst sv tm fun tm => K tm hp) → o.wp P a w next Q := fun sv h1 hrun hk => by
    unfold Oper.wp
    rw [hrun]
    rw [putK_eq] at hk
    exact hn _ _ _ _ hk (RelS.put ht hd hh (fun i hi => ⟨hi, rfl⟩) o.dst fun ρ _ => h1 ρ0 ρ)
  -- a pointer in words and a block at its place
  have turn : ∀ (x : Operand) (r b off : Nat), evm tm x = .c (.val (.pointer (some ⟨r, b + off, none⟩))) → a.eval = evr (fun z => if z = x then .c (.ptr hp.length off) else evm tm z) (upR ρ0 hp.length (r, b)) := fun x r b off hx => by
    have h1 := hev (upR ρ0 hp.length (r, b)) fun i hi => if_neg fun e => by rw [e, hN] at hi; cases hi
    funext z
    by_cases e : z = x
    · subst e
      rw [h1]
      simp only [evr, hx, if_true, SV.den, C.den, C.cells, adr, upR, List.headD_cons]
    · rw [h1]
      simp only [evr, if_neg e]
  split at h
  · rename_i t x i hop
    split at h
    · rename_i sz ag z e esz ez eq hTt
      obtain ⟨r, off, len, cap, j, hx, hi, hlt, hk⟩ := h
      refine fin _ (fun _ _ => rfl) ?_ hk
      obtain ⟨hu, he, hie, -⟩ := sh_ok hT hTt
      obtain ⟨ie, hie⟩ := Option.isSome_iff_exists.1 hie
      have hs := run_sizeOf w hie
      have hpx : (SV.c (C.val (.slice (some ⟨r, off, none⟩) len cap))).den ρ0 = .slice (some ⟨r, off, none⟩) len cap := rfl
      have hj : (0 : Int) ≤ (j : Int) ∧ (j : Int) < (len : Int) := ⟨by omega, by omega⟩
      rw [hev0]
      simp only [execOp, hop, evr, hx, natOf_ok hi ρ0, hpx, Instr.indexAt, asIntOf, Sem.run_bind, Sem.run_pure, Result.andThen_ok, run_underlying hu w]
      rw [if_pos hj]
      simp only [Sem.run_bind, hs, Result.andThen_ok, Sem.run_pure, Addr.add_mid, Int.toNat_natCast, he]
      simp [SV.den, C.den, C.cells]
    · rename_i sz ag z n esz eg eq hTt
      obtain ⟨r, off, j, hx, hi, hlt, hk⟩ := h
      refine fin _ (fun _ _ => rfl) ?_ hk
      obtain ⟨e, hu, he, hr, -⟩ := sh_ok hT hTt
      obtain ⟨ie, hie⟩ := info_of_rowO hr
      have hs := run_sizeOf w hie
      have hpx : (SV.c (C.val (.pointer (some ⟨r, off, none⟩)))).den ρ0 = .pointer (some ⟨r, off, none⟩) := rfl
      have hj : (0 : Int) ≤ (j : Int) ∧ (j : Int) < (n : Int) := ⟨by omega, by omega⟩
      rw [hev0]
      simp only [execOp, hop, evr, hx, natOf_ok hi ρ0, hpx, Instr.indexAt, asIntOf, Sem.run_bind, Sem.run_pure, Result.andThen_ok, run_underlying hu w, Instr.sureAddr]
      rw [if_pos hj]
      simp only [Sem.run_bind, hs, Result.andThen_ok, Sem.run_pure, Addr.add_mid, Int.toNat_natCast, he]
      simp [SV.den, C.den, C.cells]
    · exact h.elim
  · rename_i t x f hop
    split at h
    · rename_i sz ag z fs eq hTt
      obtain ⟨r, off, so, n, ag2, hx, hf, hn0, hk⟩ := h
      refine fin _ (fun _ _ => rfl) ?_ hk
      obtain ⟨fd, hu, hm, -⟩ := sh_ok hT hTt
      obtain ⟨g, hg, rfl, rfl, hr⟩ := fields_get hm hf
      obtain ⟨i, hi⟩ := info_of_rowO hr
      have e : (SV.c (C.val (.pointer (some ⟨r, off, none⟩)))).den ρ0 = .pointer (some ⟨r, off, none⟩) := rfl
      have hs := run_sizeOf w hi
      rw [hev0]
      simp only [execOp, hop, evr, hx, e, Instr.fieldAt, Sem.run_bind, run_underlying hu w, Result.andThen_ok, hg, Instr.sureAddr, Sem.run_pure, fieldPlace, hs]
      rw [if_neg hn0]
      simp only [Sem.run_pure, Result.andThen_ok, Addr.add_mid]
      simp [SV.den, C.den, C.cells]
    · exact h.elim
  · rename_i t x hop
    split at h
    · rename_i ti hTt
      obtain ⟨r, o1, off, fb, cs, v, hx, ⟨b, o', l, h1, h2, ⟨⟨r', o2⟩, cs', ty1, tl1⟩, h3, h4, h5⟩, ⟨hv, hpv⟩, hk⟩ := h
      simp only at h4 h5
      cases h4; subst h5
      rw [SV.force_eq] at hk
      have hf := hh.fam fb b o' l _ h1 h2 h3
      have hcs : cellsL ρ0 cs' = cellsL (fun _ => (0, 0)) cs' := hf.1.pure _ _
      have hadd := hh.addAt (n := hp.length) (v := ⟨.t 0, true, cs', 0⟩) hN rfl rfl hf.1.pure (r, o1) (.inr ⟨hf.1.lt, hf.2, by rw [hcs]; exact hf.1.holds⟩)
      refine fin v hpv ?_ hk
      rw [turn x r o1 off hx, hpv ρ0 (upR ρ0 hp.length (r, o1))]
      refine eff_val hT (hp := upF (nthO hp) hp.length ⟨.t 0, true, cs', 0⟩) ?_ _ w fun i c hi => hadd.holds _ (Agr.refl _ _) i c hi
      rw [hop]
      have hb : upF (nthO hp) hp.length ⟨.t 0, true, cs', 0⟩ hp.length = some ⟨.t 0, true, cs', 0⟩ := by unfold upF; rw [if_pos rfl]
      simp only [eff, if_true, hTt, hb, hv]
    · exact h.elim
  · rename_i t x y hop
    split at h
    · rename_i l ti hy hTt
      obtain ⟨r, off, fb, l1, e, l2, cs', hx, ⟨hs, hone, rfl⟩, hfb, ⟨hc, hpure⟩, ⟨k1, k2, k3⟩, hk⟩ := h
      rw [updK_eq, snocK_eq, putK_eq] at hk
      have ht2 := hh.thaw hN hfb (fun i b hi => noRo_get k1 hi) (fun i b l hi hne hm e' he' => disB_get (disF_get k2 hi (by rw [Nat.zero_add]; exact hne)) hm e' he') k3
      have hnf : hp.length ≠ fb := fun e1 => by rw [← e1, hN] at hfb; cases hfb
      have hag : Agr (nthO hp) (upR ρ0 hp.length (e.a.1, 0)) ρ0 := fun i hi => if_neg fun e => by rw [e, hN] at hi; cases hi
      have hblk : upF (upF (nthO hp) fb ⟨.x (l1 ++ l2), true, [], 2⟩) hp.length ⟨.t e.ty, false, e.cs, e.tl⟩ hp.length = some ⟨.t e.ty, false, e.cs, e.tl⟩ := by unfold upF; rw [if_pos rfl]
      have rn : upR ρ0 hp.length (e.a.1, 0) hp.length = (e.a.1, 0) := by unfold upR; rw [if_pos rfl]
      obtain ⟨h1, tt, htt, h2⟩ := run_store_sx hT hTt (ht2.holds _ (Agr.refl _ _) _ _ hblk) rfl (off := off) hy hs hone hc
      have hput := ht2.put (cs := cs') (M := cellsL (upR ρ0 hp.length (e.a.1, 0)) l) (off := off) hblk rfl (fun ρ _ => ⟨tt, htt, by rw [show cellsL ρ cs' = cellsL (upR ρ0 hp.length (e.a.1, 0)) cs' from hpure _ _]; exact h2⟩)
      have hfb2 : upF (upF (upF (nthO hp) fb ⟨.x (l1 ++ l2), true, [], 2⟩) hp.length ⟨.t e.ty, false, e.cs, e.tl⟩) hp.length ⟨.t e.ty, false, cs', e.tl⟩ fb = some ⟨.x (l1 ++ l2), true, [], 2⟩ := by
        unfold upF; rw [if_neg (Ne.symm hnf), if_neg (Ne.symm hnf), if_pos rfl]
      have hz := hput.refrz (by unfold upF; rw [if_pos rfl]) hpure hfb2
      rw [rn] at hz
      have hfin : nthO (hp.set fb (⟨.x (l1 ++ ⟨(e.a.1, 0), cs', e.ty, e.tl⟩ :: l2), true, [], 2⟩ : Blk) ++ [(⟨.t 0, true, [], 0⟩ : Blk)]) = upF (upF (upF (upF (upF (nthO hp) fb ⟨.x (l1 ++ l2), true, [], 2⟩) hp.length ⟨.t e.ty, false, e.cs, e.tl⟩) hp.length ⟨.t e.ty, false, cs', e.tl⟩) hp.length ⟨.t 0, true, [], 0⟩) fb ⟨.x (l1 ++ ⟨(e.a.1, 0), cs', e.ty, e.tl⟩ :: l2), true, [], 2⟩ := by
        rw [nthO_snoc', nthO_set hp fb _ _ hfb, List.length_set]
        funext i
        unfold upF
        by_cases e1 : i = fb
        · rw [if_neg (fun e2 => hnf (e2.symm.trans e1)), if_pos e1, if_pos e1]
        · rw [if_neg e1, if_neg e1]
          by_cases e2 : i = hp.length
          · rw [if_pos e2, if_pos e2]
          · simp only [if_neg e2, if_neg e1]
      have hax : a.eval x = adr (upR ρ0 hp.length (e.a.1, 0)) hp.length off := by
        rw [hev0]
        simp only [evr, hx, SV.den, C.den, C.cells, adr, rn, List.headD_cons, Nat.zero_add]
      have hay : a.eval y = (evm tm y).den (upR ρ0 hp.length (e.a.1, 0)) := by rw [hev _ hag]; rfl
      unfold Oper.wp
      have hrun : (execOp a.eval o).run P w = .ok .skip (w.setCells (upR ρ0 hp.length (e.a.1, 0) hp.length).1 off (cellsL (upR ρ0 hp.length (e.a.1, 0)) l)) := by
        simp only [execOp, hop, hax, hay, Sem.run_bind, h1, Result.andThen_ok, Sem.run_pure]
      rw [hrun]
      refine hn _ _ _ _ hk (RelS.put (ρ1 := upR ρ0 hp.length (e.a.1, 0)) ht hd ?_ (fun i hi => ⟨?_, hag i hi⟩) o.dst fun ρ hρ => rfl)
      · rw [hfin, rn]; exact hz
      · rw [hfin]; unfold upF
        (repeat' split) <;> first | rfl | exact hi
    · exact h.elim
  · exact h.elim
end Go.Proofs.YtdjpbccaglkafaaDoor
