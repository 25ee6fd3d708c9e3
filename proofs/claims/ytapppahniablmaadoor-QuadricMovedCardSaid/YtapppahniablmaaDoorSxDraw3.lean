/- The reckoner is sound: a region that draws its order, the theorem. -/
import Derived.Test.YtapppahniablmaaDoorSxDraw2
namespace Go.Proofs.YtapppahniablmaaDoor
open Go.RowKit

theorem eff_blind {T : TypeId → Option TI} {op : Op} (h1 : reading op = false) (h2 : isStore op = false) (ev : Operand → SV) (hp hq : Nat → Option Blk) : eff T op ev hp = eff T op ev hq := by
  cases op <;> first | rfl | (simp [reading] at h1; done) | (simp [isStore] at h2; done)
theorem hpL_past {ev : Nat → Ev} {h0 : Nat → Option Blk} {D : Nat → Prop} {i : Nat} : ∀ k, i ≤ k → (∀ j, i ≤ j → ¬ D j) → hpL ev h0 D k = hpL ev h0 D i
  | 0, h, _ => by have : i = 0 := by omega
                  subst this; rfl
  | k + 1, h, hD => by
    rcases Nat.lt_or_ge i (k + 1) with h1 | h1
    · rw [hpL, if_neg (hD k (by omega))]
      exact hpL_past k (by omega) hD
    · have : i = k + 1 := by omega
      subst this; rfl
theorem hpL_none {ev : Nat → Ev} {h0 : Nat → Option Blk} (k : Nat) : hpL ev h0 (fun _ => False) k = h0 := hpL_past k (Nat.zero_le _) (fun _ _ h => h)

section
variable {P : Program} {E : Env} (hE : EOk P E) {ops : Array Oper} (hok : okDraw ops = true) {hp0 : List Blk} {tm0 : List SV} {f : Nat → S} {ev : Nat → Ev}
  (hf0 : f 0 = ⟨[], tm0, hp0⟩) (hs : ∀ k o, ops[k]? = some o → StepR E ops hp0 o k (f k) (ev k) (f (k + 1)))
include hf0 hs
theorem tr_tm : ∀ i, i ≤ ops.size → (f i).tm = tmL ops ev tm0 (fun _ => True) i
  | 0, _ => by rw [hf0]; rfl
  | i + 1, h => by
    have ho : ops[i]? = some ops[i] := Array.getElem?_eq_getElem (by omega)
    have := (hs i _ ho).1
    rw [this, tr_tm i (by omega), tmL, if_pos trivial]
    simp [dstOf, ho]
theorem tr_hp : ∀ i, i ≤ ops.size → nthO (f i).hp = hpL ev (nthO hp0) (fun _ => True) i
  | 0, _ => by rw [hf0]; rfl
  | i + 1, h => by
    have ho : ops[i]? = some ops[i] := Array.getElem?_eq_getElem (by omega)
    have ih := tr_hp i (by omega)
    obtain ⟨-, h2⟩ := hs i _ ho
    rw [hpL, if_pos trivial, ← ih]
    cases hev : ev i with
    | skip => rw [hev] at h2; rw [h2.2.1]; rfl
    | val v => rw [hev] at h2; rw [h2.2.2.1]; rfl
    | new b n v =>
      rw [hev] at h2
      obtain ⟨-, -, rfl, h3, -⟩ := h2
      rw [h3, nthO_snoc']
      rfl
    | put b c =>
      rw [hev] at h2
      obtain ⟨-, -, h3, -, blk, cs, h4, -⟩ := h2
      rw [h3, nthO_set _ _ _ _ h4]
      rfl
theorem tr_len {i : Nat} : ∀ j, i ≤ j → j ≤ ops.size → (f i).hp.length ≤ (f j).hp.length
  | 0, h, _ => by have _ := hf0
                  have : i = 0 := by omega
                  subst this; exact Nat.le_refl _
  | j + 1, h, hj => by
    rcases Nat.lt_or_ge i (j + 1) with h1 | h1
    · have ih := tr_len (i := i) j (by omega) (by omega)
      have ho : ops[j]? = some ops[j] := Array.getElem?_eq_getElem (by omega)
      obtain ⟨-, h2⟩ := hs j _ ho
      cases hev : ev j with
      | skip => rw [hev] at h2; rw [h2.2.1]; exact ih
      | val v => rw [hev] at h2; rw [h2.2.2.1]; exact ih
      | new b n v =>
        rw [hev] at h2
        rw [h2.2.2.2.1]; simp; omega
      | put b c =>
        rw [hev] at h2
        rw [h2.2.2.1]; simpa using ih
    · have : i = j + 1 := by omega
      subst this; exact Nat.le_refl _
theorem tr_len0 {j : Nat} (hj : j ≤ ops.size) : hp0.length ≤ (f j).hp.length := by
  have := tr_len hf0 hs j (Nat.zero_le _) hj
  rw [hf0] at this; exact this
theorem tr_new {k : Nat} (hk : k < ops.size) {b : Blk} {n : Nat} {v : SV} (h : ev k = .new b n v) : n = (f k).hp.length ∧ (f (k + 1)).hp.length = n + 1 := by
  have _ := hf0
  obtain ⟨-, h2⟩ := hs k _ (Array.getElem?_eq_getElem hk)
  rw [h] at h2
  exact ⟨h2.2.2.1, by rw [h2.2.2.2.1, h2.2.2.1]; simp⟩
theorem tr_put {k : Nat} (hk : k < ops.size) {b : Nat} {c : Blk} (h : ev k = .put b c) : b < (f k).hp.length ∧ isStore (ops[k]).op = true := by
  have _ := hf0
  obtain ⟨-, h2⟩ := hs k _ (Array.getElem?_eq_getElem hk)
  rw [h] at h2
  obtain ⟨-, h3, -, -, blk, cs, h4, -⟩ := h2
  rw [nthO_eq] at h4
  exact ⟨(List.getElem?_eq_some_iff.1 h4).1, h3⟩
theorem tr_almono {i b x : Nat} (hb : b < (f i).hp.length) (h : lkN (f i).al b = some x) : ∀ j, i ≤ j → j ≤ ops.size → lkN (f j).al b = some x
  | 0, h1, _ => by
    have : i = 0 := by omega
    subst this; exact h
  | j + 1, h1, hj => by
    have ho : ops[j]? = some ops[j] := Array.getElem?_eq_getElem (by omega)
    obtain ⟨-, h2⟩ := hs j _ ho
    rcases Nat.lt_or_ge i (j + 1) with hij | hij
    · have ih := tr_almono hb h j (by omega) (by omega)
      cases hev : ev j with
      | skip => rw [hev] at h2; rw [h2.2.2]; exact ih
      | val v => rw [hev] at h2; rw [h2.2.2.2.1]; exact ih
      | new b' n' v' =>
        rw [hev] at h2
        rw [h2.2.2.2.2.1, lkN, if_neg]
        · exact ih
        · have h4 := tr_len hf0 hs (i := i) j (by omega) (by omega)
          have h5 := h2.2.2.1
          omega
      | put b' c' => rw [hev] at h2; rw [h2.2.2.2.1]; exact ih
    · have : i = j + 1 := by omega
      subst this; exact h
theorem tr_late {k : Nat} (hk : k < ops.size) {b : Nat} {c : Blk} (h : ev k = .put b c) : ∀ j a, ops[j]? = some a → j < k → reading a.op = true → bf ops k j ∨ (hp0.length ≤ b ∧ ∃ x, lkN (f k).al b = some x ∧ waits a x = false) := by
  have _ := hf0
  obtain ⟨-, h2⟩ := hs k _ (Array.getElem?_eq_getElem hk)
  rw [h] at h2
  obtain ⟨-, -, -, -, blk, cs, -, -, -, -, h3⟩ := h2
  exact h3
theorem tr_al {k : Nat} {b : Blk} {n : Nat} {v : SV} (h : ev k = .new b n v) : ∀ j, k < j → j ≤ ops.size → lkN (f j).al n = some k
  | 0, h1, _ => by omega
  | j + 1, h1, hj => by
    have ho : ops[j]? = some ops[j] := Array.getElem?_eq_getElem (by omega)
    obtain ⟨-, h2⟩ := hs j _ ho
    rcases Nat.lt_or_ge k j with hkj | hkj
    · have ih := tr_al h j hkj (by omega)
      cases hev : ev j with
      | skip => rw [hev] at h2; rw [h2.2.2]; exact ih
      | val v => rw [hev] at h2; rw [h2.2.2.2.1]; exact ih
      | new b' n' v' =>
        rw [hev] at h2
        rw [h2.2.2.2.2.1, lkN, if_neg]
        · exact ih
        · have h3 := (tr_new hf0 hs (k := k) (by omega) h).2
          have h4 := tr_len hf0 hs (i := k + 1) j (by omega) (by omega)
          have h5 := h2.2.2.1
          omega
      | put b' c' => rw [hev] at h2; rw [h2.2.2.2.1]; exact ih
    · have : k = j := by omega
      subst this
      rw [h] at h2
      rw [h2.2.2.2.2.1, lkN, if_pos rfl]

/-- the state when the operations in D have been done -/
def InvD (N : Nat) (w0 : Base) (ops : Array Oper) (ev : Nat → Ev) (tm0 : List SV) (hp0 : List Blk) (D : Nat → Prop) (a : Act) (w : World) : Prop :=
  ∃ ρ0, HRel N w0 (hpL ev (nthO hp0) D ops.size) ρ0 w ∧ (∀ ρ, Agr (hpL ev (nthO hp0) D ops.size) ρ ρ0 → a.tmps.toList = (tmL ops ev tm0 D ops.size).map (SV.den ρ)) ∧ a.defers = []
include hok
theorem look_ok {D : Nat → Prop} (hc : Closed ops D) {i : Nat} {o : Oper} (ho : ops[i]? = some o) (hi : ¬ D i) (hr : ∀ e ∈ o.after, Region.binds .any e = true → D e.on) {t : Tmp} (ht : t ∈ o.looksAt ops) :
    nth uv (tmL ops ev tm0 D ops.size) t = nth uv (f i).tm t := by
  have hin : i < ops.size := (Array.getElem?_eq_some_iff.1 ho).1
  rw [tr_tm hf0 hs i (by omega)]
  rw [tmL_same (D2 := fun j => j < i) t ops.size (fun j hj hd => ?_), tmL_past (i := i) ops.size (by omega) (fun j h1 h2 => by omega), tmL_same (D2 := fun _ => True) t i (fun j hj _ => ⟨fun _ => trivial, fun _ => hj⟩)]
  unfold dstOf at hd
  have hoj : ops[j]? = some ops[j] := Array.getElem?_eq_getElem hj
  rw [hoj] at hd
  simp only [Option.bind_some] at hd
  rcases Nat.lt_trichotomy j i with h | h | h
  · have := (draw_pair hok h hoj ho).2.1 t hd ht
    have := (hc.ready ho hr).bf (.inr rfl) this
    exact ⟨fun _ => h, fun _ => this.resolve_right (by omega)⟩
  · subst h
    exact ⟨fun h => absurd h hi, fun h => by omega⟩
  · have := ((draw_pair hok h ho hoj).1 t hd).1 ht
    exact ⟨fun hd => absurd (hc.bf hd this) hi, fun h => by omega⟩
theorem exec_ok {D : Nat → Prop} (hc : Closed ops D) {i : Nat} {o : Oper} (ho : ops[i]? = some o) (hi : ¬ D i) (hr : ∀ e ∈ o.after, Region.binds .any e = true → D e.on) (hsel : ∀ cs b, o.op ≠ .select cs b)
    {a : Act} {ρ : Rho} (ht : a.tmps.toList = (tmL ops ev tm0 D ops.size).map (SV.den ρ)) : execOp a.eval o = execOp (evr (evm (f i).tm) ρ) o := by
  rw [eval_ok ht]
  refine execOp_congr o hsel fun x hx => ?_
  cases x with
  | tmp t =>
    simp only [evr, evm]
    rw [look_ok hok hf0 hs hc ho hi hr (t := t) (List.mem_append_left _ (List.mem_filterMap.2 ⟨.tmp t, by simpa using hx, rfl⟩))]
  | const v => rfl
  | global g => rfl
  | func f => rfl
theorem wanted_ok {D : Nat → Prop} (hc : Closed ops D) {i : Nat} {o : Oper} (ho : ops[i]? = some o) (hi : ¬ D i) (hr : ∀ e ∈ o.after, Region.binds .any e = true → D e.on)
    {a : Act} {ρ : Rho} (ht : a.tmps.toList = (tmL ops ev tm0 D ops.size).map (SV.den ρ)) : (Wanted ops o (f i).tm → Region.wanted o (yielded ops a.tmps) = true) ∧ (Unwanted ops o (f i).tm → Region.wanted o (yielded ops a.tmps) = false) := by
  have key : ∀ j want t b, o.guard = some (j, want) → guardS ops j = some t → nth uv (f i).tm t = .c (.val (.bool b)) → Region.wanted o (yielded ops a.tmps) = (b == want) := fun j want t b hg hgs hb => by
    have hl : t ∈ o.looksAt ops := by
      unfold Oper.looksAt
      refine List.mem_append_right _ ?_
      rw [hg]
      unfold guardS at hgs
      rw [nthO_eq] at hgs
      have : (ops[j]?).bind (·.dst) = some t := by
        have e : ops[j]? = ops.toList[j]? := by simp
        rw [e]
        cases h : ops.toList[j]? with
        | none => rw [h] at hgs; cases hgs
        | some oj => rw [h] at hgs; exact hgs
      simp [this]
    have hb' := (look_ok hok hf0 hs hc ho hi hr hl).trans hb
    have hy := yielded_ok hgs ht hb'
    unfold Region.wanted
    rw [hg]
    simp only [hy]
    cases b <;> cases want <;> rfl
  refine ⟨fun hw => ?_, fun ⟨j, want, hg, t, hgs, hb⟩ => ?_⟩
  · cases hg : o.guard with
    | none => simp [Region.wanted, hg]
    | some p =>
      obtain ⟨j, want⟩ := p
      obtain ⟨t, hgs, hb⟩ := hw j want hg
      rw [key j want t want hg hgs hb]; simp
  · rw [key j want t _ hg hgs hb]; cases want <;> rfl
theorem not_put_new {D : Nat → Prop} (hc : Closed ops D) {i : Nat} (hin : i < ops.size) (hi : ¬ D i) {b : Blk} {n : Nat} {v : SV} (hev : ev i = .new b n v) {j : Nat} (hj : j < ops.size) (hji : j ≠ i) {p : Nat × Blk} (hk : (ev j).key = some p) (hp : p.1 = n) : ¬ D j := by
  have _ := hok
  intro hD
  obtain ⟨e1, e2⟩ := tr_new hf0 hs hin hev
  cases hej : ev j with
  | skip => rw [hej] at hk; cases hk
  | val v => rw [hej] at hk; cases hk
  | new b' n' v' =>
    rw [hej] at hk; cases hk
    obtain ⟨e3, e4⟩ := tr_new hf0 hs hj hej
    simp only at hp
    rcases Nat.lt_or_ge i j with h | h
    · have := tr_len hf0 hs (i := i + 1) j h (by omega); omega
    · have := tr_len hf0 hs (i := j + 1) i (by omega) (by omega); omega
  | put b' c' =>
    rw [hej] at hk; cases hk
    simp only at hp
    subst hp
    have h3 := (tr_put hf0 hs hj hej).1
    rcases Nat.lt_or_ge i j with h | h
    · have hoj : ops[j]? = some ops[j] := Array.getElem?_eq_getElem hj
      obtain ⟨-, h2⟩ := hs j _ hoj
      rw [hej] at h2
      obtain ⟨-, -, -, -, blk, cs, -, -, -, h4⟩ := h2
      rcases h4 with h4 | ⟨k, h4, h5⟩
      · have := tr_len0 hf0 hs (j := i) (by omega); omega
      · rw [tr_al hf0 hs hev j h (by omega)] at h4
        cases h4
        unfold waits at h5
        simp only [List.any_eq_true, Bool.and_eq_true, decide_eq_true_eq] at h5
        obtain ⟨e, he, rfl, hb⟩ := h5
        exact hi (hc j _ hoj hD e (by simpa using he) hb)
    · have := tr_len hf0 hs (i := j) i (by omega) (by omega); omega
include hE in
theorem draw_step {N : Nat} {w0 : Base} {D : Nat → Prop} (hc : Closed ops D) {i : Nat} {o : Oper} (ho : ops[i]? = some o) (hi : ¬ D i) (hr : ∀ e ∈ o.after, Region.binds .any e = true → D e.on)
    {a : Act} {w : World} (hinv : InvD N w0 ops ev tm0 hp0 D a w) {K : Act → World → Prop} {Q : Exit → Act → World → Prop} (hn : ∀ a' w', InvD N w0 ops ev tm0 hp0 (fun j => D j ∨ j = i) a' w' → K a' w') : wpOp P ops Q i K a w := by
  have hin : i < ops.size := (Array.getElem?_eq_some_iff.1 ho).1
  obtain ⟨ρ0, hh, ht, hd⟩ := hinv
  obtain ⟨hst, h2⟩ := hs i o ho
  have hw := wanted_ok hok hf0 hs hc ho hi hr (ht ρ0 (Agr.refl _ _))
  have hdst : dstOf ops i = o.dst := by simp [dstOf, ho]
  have htm : tmL ops ev tm0 (fun j => D j ∨ j = i) ops.size = dput o.dst (ev i).v (tmL ops ev tm0 D ops.size) := by
    rw [tmL_insert hi ops.size hin (fun j h1 h2 _ t htj => ?_), hdst]
    have hoj : ops[j]? = some ops[j] := Array.getElem?_eq_getElem h2
    rw [hdst]
    exact ((draw_pair hok h1 ho hoj).1 t (by simpa [dstOf, hoj] using htj)).2
  have fin : ∀ {w' : World} {ρ1 : Rho} {u : Value}, HRel N w0 (hpL ev (nthO hp0) (fun j => D j ∨ j = i) ops.size) ρ1 w' →
      (∀ x, (hpL ev (nthO hp0) D ops.size x).isSome = true → (hpL ev (nthO hp0) (fun j => D j ∨ j = i) ops.size x).isSome = true ∧ ρ1 x = ρ0 x) →
      (∀ ρ, Agr (hpL ev (nthO hp0) (fun j => D j ∨ j = i) ops.size) ρ ρ1 → u = (ev i).v.den ρ) → K (a.put o.dst u) w' := fun h1 h2 h3 =>
    hn _ _ ⟨_, h1, fun ρ hρ => by rw [htm]; exact put_ok (ht ρ (hρ.sub h2)) o.dst _ (h3 ρ hρ), by rw [put_defers]; exact hd⟩
  have same : (ev i).key = none → hpL ev (nthO hp0) (fun j => D j ∨ j = i) ops.size = hpL ev (nthO hp0) D ops.size := fun hk => by
    rw [hpL_insert hi ops.size hin (fun j _ _ _ p q _ h => by rw [hk] at h; cases h)]
    unfold appH; rw [hk]
  unfold wpOp
  rw [ho]
  change if Region.wanted o (yielded ops a.tmps) = true then _ else _
  -- the blocks that the operation may look into
  have old : reading o.op = true → isStore o.op = false → ∀ ρ, Agr (hpL ev (nthO hp0) D ops.size) ρ ρ0 → ∀ b blk, hfR hp0.length o (f i).al (f i).hp b = some blk → Holds ρ blk b w := fun hrd hnst ρ hρ b blk hb => by
    unfold hfR at hb
    split at hb
    · rename_i hput
      refine hh.holds ρ hρ b blk ?_
      have hbl : b < (f i).hp.length := by rw [nthO_eq] at hb; exact (List.getElem?_eq_some_iff.1 hb).1
      rw [hpL_same (D2 := fun j => j < i) b ops.size (fun j p hj hk hp => ?_), hpL_past (i := i) ops.size (by omega) (fun j h1 h2 => by omega), hpL_same (D2 := fun _ => True) b i (fun j p hj _ _ => ⟨fun _ => trivial, fun _ => hj⟩), ← tr_hp hf0 hs i (by omega)]
      · exact hb
      · have hoj : ops[j]? = some ops[j] := Array.getElem?_eq_getElem hj
        rcases Nat.lt_trichotomy j i with h | h | h
        · refine ⟨fun _ => h, fun _ => ?_⟩
          cases hej : ev j with
          | skip => rw [hej] at hk; cases hk
          | val v => rw [hej] at hk; cases hk
          | new b' n' v' =>
            rw [hej] at hk; cases hk
            simp only at hp
            subst hp
            unfold okPut at hput
            simp only [Bool.or_eq_true, decide_eq_true_eq] at hput
            rcases hput with h4 | h4
            · have := (tr_new hf0 hs hj hej).1
              have := tr_len0 hf0 hs (j := j) (by omega)
              omega
            · rw [tr_al hf0 hs hej i h (by omega)] at h4
              simp only at h4
              unfold waits at h4
              simp only [List.any_eq_true, Bool.and_eq_true, decide_eq_true_eq] at h4
              obtain ⟨e, he, rfl, hbd⟩ := h4
              exact hr e (by simpa using he) hbd
          | put b' c' =>
            have hsj := (tr_put hf0 hs hj hej).2
            exact ((draw_pair hok h hoj ho).2.2.2 hsj hrd).elim
        · subst h; exact ⟨fun h => absurd h hi, fun h => by omega⟩
        · refine ⟨fun hD => ?_, fun h => by omega⟩
          exfalso
          cases hej : ev j with
          | skip => rw [hej] at hk; cases hk
          | val v => rw [hej] at hk; cases hk
          | new b' n' v' =>
            rw [hej] at hk; cases hk
            have h5 := (tr_new hf0 hs hj hej).1
            have h6 := tr_len hf0 hs (i := i) j (by omega) (by omega)
            simp only at hp
            omega
          | put b' c' =>
            have hsj := (tr_put hf0 hs hj hej).2
            rcases tr_late hf0 hs hj hej i o ho h hrd with h6 | ⟨h6, x, hx, hw6⟩
            · exact hi (hc.bf hD h6)
            · rw [hej] at hk; cases hk
              simp only at hp
              subst hp
              unfold okPut at hput
              simp only [Bool.or_eq_true, decide_eq_true_eq] at hput
              rcases hput with h7 | h7
              · omega
              · split at h7
                · rename_i y hy
                  have := tr_almono hf0 hs hbl hy j (by omega) (by omega)
                  rw [hx] at this
                  cases this
                  rw [hw6] at h7; cases h7
                · cases h7
    · cases hb
  cases hev : ev i with
  | skip =>
    rw [hev] at h2
    rw [if_neg (by rw [hw.2 h2.1]; simp)]
    have hsm := same (by rw [hev]; rfl)
    exact fin (by rw [hsm]; exact hh) (fun x hx => by rw [hsm]; exact ⟨hx, rfl⟩) (fun ρ _ => by rw [hev]; rfl)
  | val v =>
    rw [hev] at h2
    obtain ⟨hwt, hnst, -, -, h3⟩ := h2
    rw [if_pos (hw.1 hwt)]
    have hsm := same (by rw [hev]; rfl)
    refine .inl ?_
    unfold Oper.wp
    rcases h3 with h3 | ⟨c, fn, args, p, hop, hcal, hD, hp⟩
    · have hsel : ∀ cs b, o.op ≠ .select cs b := fun cs b e => by rw [e] at h3; simp [eff] at h3
      have hrun : ∀ ρ, Agr (hpL ev (nthO hp0) D ops.size) ρ ρ0 → (execOp a.eval o).run P w = .ok (.value (v.den ρ)) w := fun ρ hρ => by
        rw [exec_ok hok hf0 hs hc ho hi hr hsel (ht ρ hρ)]
        by_cases hrd : reading o.op = true
        · exact eff_val hE.T h3 ρ w (old hrd hnst ρ hρ)
        · rw [eff_blind (by simpa using hrd) hnst _ _ (fun _ => none)] at h3
          exact eff_val hE.T h3 ρ w (fun b blk hb => by cases hb)
      have h0 := hrun ρ0 (Agr.refl _ _)
      rw [h0]
      refine fin (ρ1 := ρ0) (by rw [hsm]; exact hh) (fun x hx => by rw [hsm]; exact ⟨hx, rfl⟩) (fun ρ hρ => ?_)
      rw [hsm] at hρ
      have := hrun ρ hρ
      rw [h0] at this
      rw [hev]
      simpa [Ev.v] using this
    · have hsel : ∀ cs b, o.op ≠ .select cs b := fun cs b e => by rw [e] at hop; cases hop
      have hrd : reading o.op = true := by
        rw [hop]
        unfold callee at hcal
        unfold reading
        cases hce : c.callee with
        | value _ => simp [hce]
        | invoke _ _ => simp [hce]
        | builtin _ => rw [hce] at hcal; cases hcal
      obtain ⟨hf, hpure, hspec⟩ := hE.D fn args _ p v hD
      rw [exec_ok hok hf0 hs hc ho hi hr hsel (ht ρ0 (Agr.refl _ _)), run_call_sx hop hcal hf ρ0 w]
      refine (hspec hp ρ0 w (old hrd hnst ρ0 (Agr.refl _ _))).mono ?_
      rintro e w' ⟨rfl, hb⟩
      exact fin (ρ1 := ρ0) (by rw [hsm]; exact hh.below hb) (fun x hx => by rw [hsm]; exact ⟨hx, rfl⟩) (fun ρ _ => by rw [hev]; exact hpure _ _)
  | new b n v =>
    rw [hev] at h2
    obtain ⟨hwt, hnst, hnl, -, -, g, h3, rfl⟩ := h2
    rw [if_pos (hw.1 hwt)]
    refine .inl ?_
    unfold Oper.wp
    have hsel : ∀ cs b, o.op ≠ .select cs b := fun cs b e => by rw [e] at h3; simp [eff] at h3
    obtain ⟨val, h0, hro, hval⟩ := eff_new hE.T h3 ρ0 w
    rw [← exec_ok hok hf0 hs hc ho hi hr hsel (ht ρ0 (Agr.refl _ _))] at h0
    have hL : ∀ ρ, Agr (hpL ev (nthO hp0) D ops.size) ρ ρ0 → cellsL ρ b.cs = cellsL ρ0 b.cs := fun ρ hρ => by
      obtain ⟨val', h1, -⟩ := eff_new hE.T h3 ρ w
      rw [← exec_ok hok hf0 hs hc ho hi hr hsel (ht ρ hρ), h0] at h1
      simp only [Result.ok.injEq] at h1
      have := congrArg (fun W => W.heap[w.heap.size]?) h1.2
      simp only [heap_alloc_new] at this
      simpa using this.symm
    have hnone : hpL ev (nthO hp0) D ops.size n = none := by
      rw [hpL_same (D2 := fun _ => False) n ops.size (fun j p hj hk hp => ⟨fun hD => ?_, False.elim⟩), hpL_none]
      · have := tr_len0 hf0 hs (j := i) (by omega)
        rw [nthO_eq, List.getElem?_eq_none (by omega)]
      · by_cases hji : j = i
        · subst hji; exact hi hD
        · exact not_put_new hok hf0 hs hc hin hi hev hj hji hk hp hD
    have hins : hpL ev (nthO hp0) (fun j => D j ∨ j = i) ops.size = upF (hpL ev (nthO hp0) D ops.size) n b := by
      rw [hpL_insert hi ops.size hin (fun j h1 h2 hD p q hk hq e => ?_), hev]
      · rfl
      · rw [hev] at hq
        cases hq
        exact not_put_new hok hf0 hs hc hin hi hev h2 (by omega) hk e hD
    rw [h0]
    refine fin (ρ1 := upR ρ0 n (w.heap.size, 0)) (by rw [hins]; exact hh.new hnone hro hL) (fun x hx => by rw [hins]; exact up_agr hnone x hx) (fun ρ hρ => ?_)
    rw [hev]
    refine (hval ρ n ?_).symm
    rw [hins] at hρ
    rw [hρ n (by unfold upF; rw [if_pos rfl]; rfl)]
    unfold upR; rw [if_pos rfl]
  | put b c =>
    rw [hev] at h2
    obtain ⟨hwt, hst2, -, -, blk, cs, hb, rfl, h3, h4⟩ := h2
    rw [if_pos (hw.1 hwt)]
    refine .inl ?_
    unfold Oper.wp
    have hsel : ∀ cs b, o.op ≠ .select cs b := fun cs b e => by rw [e] at h3; simp [eff] at h3
    have hbl : b < (f i).hp.length := by rw [nthO_eq] at hb; exact (List.getElem?_eq_some_iff.1 hb).1
    have hput : ∀ {j : Nat} (hj : j < ops.size) {p : Nat × Blk}, (ev j).key = some p → p.1 = b → i < j → ¬ D j := fun {j} hj {p} hk hp hij hD => by
      have hoj : ops[j]? = some ops[j] := Array.getElem?_eq_getElem hj
      cases hej : ev j with
      | skip => rw [hej] at hk; cases hk
      | val v => rw [hej] at hk; cases hk
      | new b' n' v' =>
        rw [hej] at hk; cases hk
        have h5 := (tr_new hf0 hs hj hej).1
        have h6 := tr_len hf0 hs (i := i) j (by omega) (by omega)
        simp only at hp
        omega
      | put b' c' =>
        have hsj := (tr_put hf0 hs hj hej).2
        exact hi (hc.bf hD ((draw_pair hok hij ho hoj).2.2.1 hsj hst2))
    have hcur : hpL ev (nthO hp0) D ops.size b = some blk := by
      rw [hpL_same (D2 := fun j => j < i) b ops.size (fun j p hj hk hp => ?_), hpL_past (i := i) ops.size (by omega) (fun j h1 h2 => by omega), hpL_same (D2 := fun _ => True) b i (fun j p hj _ _ => ⟨fun _ => trivial, fun _ => hj⟩), ← tr_hp hf0 hs i (by omega)]
      · exact hb
      · have hoj : ops[j]? = some ops[j] := Array.getElem?_eq_getElem hj
        rcases Nat.lt_trichotomy j i with h | h | h
        · refine ⟨fun _ => h, fun _ => ?_⟩
          cases hej : ev j with
          | skip => rw [hej] at hk; cases hk
          | val v => rw [hej] at hk; cases hk
          | new b' n' v' =>
            rw [hej] at hk; cases hk
            simp only at hp
            subst hp
            rcases h4 with h4 | ⟨k, h4, h5⟩
            · have := (tr_new hf0 hs hj hej).1
              have := tr_len0 hf0 hs (j := j) (by omega)
              omega
            · rw [tr_al hf0 hs hej i h (by omega)] at h4
              cases h4
              unfold waits at h5
              simp only [List.any_eq_true, Bool.and_eq_true, decide_eq_true_eq] at h5
              obtain ⟨e, he, rfl, hbd⟩ := h5
              exact hr e (by simpa using he) hbd
          | put b' c' =>
            have hsj := (tr_put hf0 hs hj hej).2
            have := (draw_pair hok h hoj ho).2.2.1 hst2 hsj
            exact ((hc.ready ho hr).bf (.inr rfl) this).resolve_right (by omega)
        · subst h; exact ⟨fun h => absurd h hi, fun h => by omega⟩
        · exact ⟨fun hD => absurd hD (hput hj hk hp h), fun h => by omega⟩
    obtain ⟨blk', off, l, hb', hro, -, hrun⟩ := eff_put hE.T h3
    rw [hb] at hb'
    cases hb'
    have key : ∀ ρ, Agr (hpL ev (nthO hp0) D ops.size) ρ ρ0 → (execOp a.eval o).run P w = .ok .skip (w.setCells (ρ0 b).1 off (cellsL ρ l)) ∧ (w.setCells (ρ0 b).1 off (cellsL ρ l)).heap[(ρ0 b).1]? = some (.cells (cellsL ρ cs).toArray blk.ty (0, 0)) := fun ρ hρ => by
      have := hrun ρ w (hh.holds ρ hρ b blk hcur)
      rw [hρ b (by rw [hcur]; rfl), ← exec_ok hok hf0 hs hc ho hi hr hsel (ht ρ hρ)] at this
      exact this
    obtain ⟨h0, hk⟩ := key ρ0 (Agr.refl _ _)
    have hL : ∀ ρ, Agr (hpL ev (nthO hp0) D ops.size) ρ ρ0 → cellsL ρ cs = cellsL ρ0 cs := fun ρ hρ => by
      obtain ⟨h1, hk1⟩ := key ρ hρ
      rw [h0] at h1
      simp only [Result.ok.injEq, true_and] at h1
      rw [← h1, hk] at hk1
      simpa using hk1.symm
    have hins : hpL ev (nthO hp0) (fun j => D j ∨ j = i) ops.size = upF (hpL ev (nthO hp0) D ops.size) b { ty := blk.ty, ro := blk.ro, cs := cs } := by
      rw [hpL_insert hi ops.size hin (fun j h1 h2 hD p q hk hq e => ?_), hev]
      · rfl
      · rw [hev] at hq
        cases hq
        exact hput h2 hk e h1 hD
    rw [h0]
    refine fin (ρ1 := ρ0) (by rw [hins]; exact hh.put hcur hro hk hL) (fun x hx => ?_) (fun ρ _ => by rw [hev]; rfl)
    rw [hins]
    unfold upF
    split
    · exact ⟨rfl, rfl⟩
    · exact ⟨hx, rfl⟩
end
end Go.Proofs.YtapppahniablmaaDoor
