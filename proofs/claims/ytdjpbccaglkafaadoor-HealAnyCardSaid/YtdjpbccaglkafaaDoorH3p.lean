/- law 05: what Heal answers, in plain words; what its map finds. -/
import Derived.Test.YtdjpbccaglkafaaDoorH2
import Derived.Test.YtdjpbccaglkafaaDoorKey3
namespace Go.Proofs.YtdjpbccaglkafaaDoor
open Go.RowKit
set_option maxRecDepth 100000

def flatT (t : TR) : Bool := (normZ t.a.v t.b.v t.c.v).isZ
/-- how a triangle is alike the first one in the list that it is alike at all -/
def firstAl (t : TR) : List TR → Int
  | [] => 0
  | s :: l => if alT t s = 0 then firstAl t l else alT t s
structure SH where
  out : List TR
  bad : List FT
def SH.fault (st : SH) (pl : Int) (hp : IR pl) (k : Int) (hk : IR k) : SH := ⟨st.out, st.bad ++ [⟨pl, k, hp, hk⟩]⟩
theorem ir24 : IR 24 := by decide
theorem ir25 : IR 25 := by decide
theorem ir26 : IR 26 := by decide
/-- a triangle: kept, or the fault that it is -/
def stepT (pl : Int) (hp : IR pl) (st : SH) (t : TR) : SH :=
  if flatT t = true then st.fault pl hp 25 ir25 else if firstAl t st.out = 1 then st.fault pl hp 24 ir24 else if firstAl t st.out = 2 then st.fault pl hp 26 ir26 else ⟨st.out ++ [t], st.bad⟩
def ptD (c : List PT) (i : Nat) : PT := (c[i]?).getD ⟨0, 0, 0, by decide, by decide, by decide⟩
theorem ptD_eq {c : List PT} {i : Nat} (h : i < c.length) : ptD c i = c[i] := by unfold ptD; rw [List.getElem?_eq_getElem h]; rfl
def triK (c : List PT) (k : Nat) : TR := ⟨ptD c 0, ptD c (k + 1), ptD c (k + 2)⟩
/-- the first k triangles of a polygon -/
def fanT (pl : Int) (hp : IR pl) (c : List PT) (st : SH) : Nat → SH
  | 0 => st
  | k + 1 => stepT pl hp (fanT pl hp c st k) (triK c k)
def polyT (st : SH) (p : PY) : SH :=
  if (cleanP p.cor).length < 3 then st.fault p.pl p.hp 25 ir25 else fanT p.pl p.hp (cleanP p.cor) st ((cleanP p.cor).length - 2)
def healT (l : List PY) : SH := l.foldl polyT ⟨[], []⟩
theorem heal_take (l : List PY) {k : Nat} (h : k < l.length) : healT (l.take (k + 1)) = polyT (healT (l.take k)) l[k] := by
  unfold healT
  rw [List.take_succ_eq_append_getElem h, List.foldl_append]; rfl
/-! what the map finds -/
theorem al_val (s t : TR) : alT s t = 0 ∨ alT s t = 1 ∨ alT s t = 2 := by
  have : ∀ a b c d e f : Bool, (cond a (1 : Int) (cond b 2 (cond c 1 (cond d 2 (cond e 1 (cond f 2 0))))) = 0) ∨ (cond a (1 : Int) (cond b 2 (cond c 1 (cond d 2 (cond e 1 (cond f 2 0))))) = 1) ∨ (cond a (1 : Int) (cond b 2 (cond c 1 (cond d 2 (cond e 1 (cond f 2 0))))) = 2) := by decide
  exact this _ _ _ _ _ _
theorem flat_dst {t : TR} (h : flatT t = false) : Dst t.a.v t.b.v t.c.v := by
  have key : ∀ a b c : V3, (a = b ∨ b = c ∨ c = a) → (normZ a b c).isZ = true := fun a b c h => by
    unfold V3.isZ normZ V3.sub V3.cross
    simp only [Bool.and_eq_true, decide_eq_true_eq]
    rcases h with rfl | rfl | rfl <;> refine ⟨?_, ?_, ?_⟩ <;> grind
  unfold flatT at h
  refine ⟨fun e => ?_, fun e => ?_, fun e => ?_⟩
  · rw [key _ _ _ (.inl e)] at h; cases h
  · rw [key _ _ _ (.inr (.inl e))] at h; cases h
  · rw [key _ _ _ (.inr (.inr e))] at h; cases h
def keyT (t : TR) : TR := cond (lessZ (rotT t).c.v (rotT t).b.v) ⟨(rotT t).a, (rotT t).c, (rotT t).b⟩ (rotT t)
theorem keyT_y {t : TR} (h : lessZ (rotT t).c.v (rotT t).b.v = true) : keyT t = ⟨(rotT t).a, (rotT t).c, (rotT t).b⟩ := by unfold keyT; rw [h]; rfl
theorem keyT_n {t : TR} (h : lessZ (rotT t).c.v (rotT t).b.v = false) : keyT t = rotT t := by unfold keyT; rw [h]; rfl
theorem vs_inj {s t : TR} : s.vs = t.vs ↔ s = t := ⟨fun h => by
    unfold TR.vs at h
    simp only [Prod.mk.injEq, pt_v] at h
    exact TR.ext' h.1 h.2.1 h.2.2, fun h => by rw [h]⟩
theorem keyT_vs (t : TR) : (keyT t).vs = keyZ (rotZ t.a.v t.b.v t.c.v) := by
  rw [← rotT_vs]
  unfold keyT keyZ
  show _ = cond (lessZ (rotT t).c.v (rotT t).b.v) _ _
  cases lessZ (rotT t).c.v (rotT t).b.v <;> rfl
theorem key_al {s t : TR} (hs : flatT s = false) (ht : flatT t = false) : (keyT t = keyT s ↔ alT t s ≠ 0) ∧ (rotT t = rotT s ↔ alT t s = 1) := by
  have h := known_iff (flat_dst ht) (flat_dst hs)
  rw [← keyT_vs, ← keyT_vs, ← rotT_vs, ← rotT_vs, vs_inj, vs_inj] at h
  have := al_val t s
  refine ⟨h.1.trans ?_, h.2⟩
  show alT t s = 1 ∨ alT t s = 2 ↔ _
  omega
/-- the list that the map knows -/
structure Known (l : List TR) : Prop where
  flat : ∀ s ∈ l, flatT s = false
  nd : l.Pairwise fun s t => keyT s ≠ keyT t
theorem Known.nil : Known [] := ⟨fun _ h => (by cases h), List.Pairwise.nil⟩
theorem Known.snoc {l : List TR} (h : Known l) {t : TR} (ht : flatT t = false) (hn : ∀ s ∈ l, keyT s ≠ keyT t) : Known (l ++ [t]) := by
  refine ⟨fun s hs => ?_, ?_⟩
  · rcases List.mem_append.1 hs with hs | hs
    · exact h.flat s hs
    · rw [List.mem_singleton.1 hs]; exact ht
  · rw [List.pairwise_append]
    exact ⟨h.nd, List.pairwise_singleton _ _, fun a ha b hb => by rw [List.mem_singleton.1 hb]; exact hn a ha⟩
theorem al_none {l : List TR} (h : ∀ s ∈ l, flatT s = false) {t : TR} (ht : flatT t = false) (hn : ∀ s ∈ l, keyT s ≠ keyT t) : firstAl t l = 0 := by
  induction l with
  | nil => rfl
  | cons s l ih =>
    have e : alT t s = 0 := by
      have k := (key_al (h s List.mem_cons_self) ht).1
      by_cases e : alT t s = 0
      · exact e
      · exact absurd (k.2 e).symm (hn s List.mem_cons_self)
    unfold firstAl
    rw [if_pos e]
    exact ih (fun x hx => h x (List.mem_cons_of_mem _ hx)) fun x hx => hn x (List.mem_cons_of_mem _ hx)
theorem al_some {l : List TR} (h : Known l) {t s : TR} (ht : flatT t = false) (hs : s ∈ l) (hk : keyT s = keyT t) : firstAl t l = alT t s ∧ alT t s ≠ 0 := by
  have hne : alT t s ≠ 0 := (key_al (h.flat s hs) ht).1.1 hk.symm
  refine ⟨?_, hne⟩
  obtain ⟨hf, hn⟩ := h
  induction l with
  | nil => cases hs
  | cons x l ih =>
    rw [List.pairwise_cons] at hn
    unfold firstAl
    rcases List.mem_cons.1 hs with rfl | hs
    · rw [if_neg hne]
    · have hx : alT t x = 0 := by
        by_cases e : alT t x = 0
        · exact e
        · have := (key_al (hf x List.mem_cons_self) ht).1.2 e
          exact absurd (this.symm.trans hk.symm) (hn.1 s hs)
      rw [if_pos hx]
      exact ih hs (fun y hy => hf y (List.mem_cons_of_mem _ hy)) hn.2
/-- the four ways of a triangle -/
theorem step_flat {pl : Int} {hp : IR pl} {st : SH} {t : TR} (h : flatT t = true) : stepT pl hp st t = st.fault pl hp 25 ir25 := by unfold stepT; rw [if_pos h]
theorem step_new {pl : Int} {hp : IR pl} {st : SH} {t : TR} (hk : Known st.out) (h : flatT t = false) (hn : ∀ s ∈ st.out, keyT s ≠ keyT t) : stepT pl hp st t = ⟨st.out ++ [t], st.bad⟩ := by
  unfold stepT
  rw [if_neg (by rw [h]; decide), al_none hk.flat h hn, if_neg (by decide), if_neg (by decide)]
theorem step_same {pl : Int} {hp : IR pl} {st : SH} {t s : TR} (hk : Known st.out) (h : flatT t = false) (hs : s ∈ st.out) (he : keyT s = keyT t) (hr : eqT (rotT s) (rotT t) = true) : stepT pl hp st t = st.fault pl hp 24 ir24 := by
  obtain ⟨h1, h2⟩ := al_some hk h hs he
  have h3 := (key_al (hk.flat s hs) h).2.1 (eqT_iff.1 hr).symm
  unfold stepT
  rw [if_neg (by rw [h]; decide), if_pos (by rw [h1]; exact h3)]
theorem step_turn {pl : Int} {hp : IR pl} {st : SH} {t s : TR} (hk : Known st.out) (h : flatT t = false) (hs : s ∈ st.out) (he : keyT s = keyT t) (hr : eqT (rotT s) (rotT t) = false) : stepT pl hp st t = st.fault pl hp 26 ir26 := by
  obtain ⟨h1, h2⟩ := al_some hk h hs he
  have h3 : alT t s ≠ 1 := fun e => by
    have := (key_al (hk.flat s hs) h).2.2 e
    rw [eqT_iff.2 this.symm] at hr; cases hr
  have h4 := al_val t s
  unfold stepT
  rw [if_neg (by rw [h]; decide), if_neg (by rw [h1]; exact h3), if_pos (by rw [h1]; omega)]
/-! the map's entries -/
def trB (t : TR) : BV := .agg [.int t.a.x t.a.hx, .int t.a.y t.a.hy, .int t.a.z t.a.hz, .int t.b.x t.b.hx, .int t.b.y t.b.hy, .int t.b.z t.b.hz, .int t.c.x t.c.hx, .int t.c.y t.c.hy, .int t.c.z t.c.hz]
def ents (l : List TR) : List (BV × BV) := l.map fun t => (trB (keyT t), trB (rotT t))
theorem trB_inj {s t : TR} (h : (trB s).den = (trB t).den) : s = t := by
  unfold trB BV.den B1.cells at h
  simp only [List.flatMap_cons, List.flatMap_nil, List.cons_append, List.nil_append, Value.agg.injEq, Array.mk.injEq, List.cons.injEq, Value.int.injEq, true_and, and_true] at h
  obtain ⟨h1, h2, h3, h4, h5, h6, h7, h8, h9⟩ := h
  exact TR.ext' (PT.ext' h1 h2 h3) (PT.ext' h4 h5 h6) (PT.ext' h7 h8 h9)
theorem wf_ir {x : Int} (h : IR x) : (Lit.int .i64 x).wf = true := by
  unfold IR at h
  simp [Lit.wf, IntKind.min, IntKind.max, IntKind.bits, IntKind.signed]
  omega
theorem key_ok (t : TR) : KeyOk Tryd.prog 44 (trB t) := key3 (wf_ir t.a.hx) (wf_ir t.a.hy) (wf_ir t.a.hz) (wf_ir t.b.hx) (wf_ir t.b.hy) (wf_ir t.b.hz) (wf_ir t.c.hx) (wf_ir t.c.hy) (wf_ir t.c.hz)
theorem ents_ok (l : List TR) : ∀ e ∈ ents l, KeyOk Tryd.prog 44 e.1 := fun e he => by
  obtain ⟨t, -, rfl⟩ := List.mem_map.1 he
  exact key_ok _
theorem ents_none {l : List TR} {t : TR} (h : ∀ e ∈ ents l, e.1.den ≠ (trB (keyT t)).den) : ∀ s ∈ l, keyT s ≠ keyT t := fun s hs e => h _ (List.mem_map.2 ⟨s, hs, rfl⟩) (by rw [← e])
theorem ents_ne {l : List TR} {t : TR} (h : ∀ s ∈ l, keyT s ≠ keyT t) : ∀ e ∈ ents l, e.1.den ≠ (trB (keyT t)).den := fun e he hd => by
  obtain ⟨s, hs, rfl⟩ := List.mem_map.1 he
  exact h s hs (trB_inj hd)
theorem ents_snoc (l : List TR) (t : TR) : ents l ++ [(trB (keyT t), trB (rotT t))] = ents (l ++ [t]) := by unfold ents; rw [List.map_append]; rfl
theorem ents_len (l : List TR) : (ents l).length = l.length := List.length_map _
def trZ : TR := ⟨pt0, pt0, pt0⟩
theorem zero_tri (w : World) : (zeroValue 45).run Tryd.prog w = .ok (trB trZ).den w := by
  have h : (Tryd.prog.info? 45).bind (fun i => i.zero) = some (trB trZ).den := by kernel_rfl
  cases hi : Tryd.prog.info? 45 with
  | none => rw [hi] at h; cases h
  | some i =>
    rw [hi] at h
    have h : i.zero = some (trB trZ).den := h
    simp [zeroValue, typeInfo, hi, h]
/-! bounds -/
theorem step_len (pl : Int) (hp : IR pl) (st : SH) (t : TR) : (stepT pl hp st t).out.length + (stepT pl hp st t).bad.length = st.out.length + st.bad.length + 1 := by
  unfold stepT SH.fault
  split
  · simp; omega
  · split
    · simp; omega
    · split
      · simp; omega
      · simp; omega
theorem fan_len (pl : Int) (hp : IR pl) (c : List PT) (st : SH) : ∀ k, (fanT pl hp c st k).out.length + (fanT pl hp c st k).bad.length = st.out.length + st.bad.length + k
  | 0 => rfl
  | k + 1 => by unfold fanT; rw [step_len, fan_len pl hp c st k]; omega
theorem clean_len (l : List PT) : (cleanP l).length ≤ l.length := by
  unfold cleanP
  rw [List.length_take]
  have := cmpT_len l l.length
  omega
end Go.Proofs.YtdjpbccaglkafaaDoor
