/- The reckoner is sound: functions. -/
import Derived.Test.YtapppahniablmaaDoorSxCode
namespace Go.Proofs.YtapppahniablmaaDoor
open Go.RowKit

def gRes (tmps : Array Value) : ResultVar → Sem Value
  | .tmp t => pure (tmps.getD t undef)
  | .cell a t => do loadVar t (← asAddr (tmps.getD a undef))
theorem getD_den {a : Act} {tm : List SV} {ρ : Rho} (h : a.tmps.toList = tm.map (SV.den ρ)) (t : Nat) : a.tmps.getD t undef = (nth uv tm t).den ρ := by
  rw [nth_den, ← h]; simp
theorem sv_den (v : T1) (ρ : Rho) : v.sv.den ρ = v.den ρ := by cases v <;> rfl
section
variable {P : Program} {T : TypeId → Option TI} (hT : TOk P T)
include hT
theorem resV_ok {r : ResultVar} {tm : List SV} {hp : List Blk} {v : T1} (h : resV T r tm hp = some v) {a : Act} {ρ : Rho} {w : World} (ht : a.tmps.toList = tm.map (SV.den ρ)) (hh : ∀ i b, nthO hp i = some b → Holds ρ b i w) :
    (gRes a.tmps r).run P w = .ok (v.den ρ) w := by
  unfold resV at h
  split at h
  · rename_i t
    simp only [gRes, getD_den ht, Sem.run_pure]
    split at h
    · rename_i x hx; cases h; rw [hx]; rfl
    · rename_i l hx; cases h; rw [hx]; rfl
    · cases h
  · rename_i x t
    split at h
    · rename_i b off ti hx hti
      split at h
      · rename_i blk hb
        have hl : ∀ u, partC ti.agg blk.cs off ti.size = some u → (gRes a.tmps (.cell x t)).run P w = .ok (u.den ρ) w := fun u hu => by
          have := run_load_sx hT hti (hh b blk hb) hu
          simp only [Instr.loadAt, adr, Instr.sureAddr, Sem.run_bind, Sem.run_pure, Result.andThen_ok] at this
          have e : (SV.c (C.ptr b off)).den ρ = adr ρ b off := rfl
          simp only [gRes, getD_den ht, hx, e, adr, asAddr, Sem.run_bind, Sem.run_pure, Result.andThen_ok]
          exact this
        split at h
        · rename_i y hy; cases h; exact hl _ hy
        · rename_i l hy; cases h; exact hl _ hy
        · cases h
      · cases h
    · cases h
theorem resL_ok {tm : List SV} {hp : List Blk} : ∀ {rs : List ResultVar} {K : List T1 → Prop}, resL T rs tm hp K → ∃ l, K l ∧ ∀ {a : Act} {ρ : Rho} {w : World}, a.tmps.toList = tm.map (SV.den ρ) → (∀ i b, nthO hp i = some b → Holds ρ b i w) →
    (rs.mapM (gRes a.tmps)).run P w = .ok (l.map (T1.den ρ)) w
  | [], K, h => ⟨[], h, fun _ _ => rfl⟩
  | r :: rs, K, h => by
    unfold resL at h
    split at h
    · rename_i v hv
      rw [T1.force_eq] at h
      obtain ⟨l, hK, hl⟩ := resL_ok h
      refine ⟨v :: l, hK, fun ht hh => ?_⟩
      simp [List.mapM_cons, resV_ok hT hv ht hh, hl ht hh]
    · cases h
theorem retQ_ok {fn : Func} {tm : List SV} {hp : List Blk} {K : SV → List Blk → Prop} (h : retQ T fn.results.toList tm hp K) : ∃ v, K v hp ∧ ∀ {a : Act} {ρ : Rho} {w : World}, a.tmps.toList = tm.map (SV.den ρ) → (∀ i b, nthO hp i = some b → Holds ρ b i w) →
    (results fn a.tmps).run P w = .ok (v.den ρ) w := by
  unfold retQ at h
  obtain ⟨l, hK, hl⟩ := resL_ok hT h
  have hrun : ∀ {a : Act} {ρ : Rho} {w : World}, a.tmps.toList = tm.map (SV.den ρ) → (∀ i b, nthO hp i = some b → Holds ρ b i w) →
      (results fn a.tmps).run P w = .ok (if h : (l.map (T1.den ρ)).toArray.size = 1 then (l.map (T1.den ρ)).toArray[0] else .tuple (l.map (T1.den ρ)).toArray) w := fun {a ρ w} ht hh => by
    have := hl ht hh
    have e : results fn a.tmps = (do let vs ← fn.results.mapM (gRes a.tmps); pure (if h : vs.size = 1 then vs[0] else .tuple vs)) := by
      unfold results
      congr 1
    rw [e, Array.mapM_eq_mapM_toList]
    simp [this]
  split at hK
  · rename_i v
    exact ⟨v.sv, hK, fun ht hh => by rw [hrun ht hh]; simp [sv_den]⟩
  · rename_i hne
    refine ⟨.tup l, hK, fun ht hh => ?_⟩
    rw [hrun ht hh, dif_neg]
    · rfl
    · intro h1
      simp only [List.size_toArray, List.length_map] at h1
      obtain ⟨x, rfl⟩ := List.length_eq_one_iff.1 h1
      exact hne x rfl
end
/-- a function is such as the reckoner takes -/
structure FnOk (P : Program) (f : FuncId) (fn : Func) : Prop where
  get : P.funcs[f]? = some fn
  body : (match fn.body with | some c => okC c | none => false) = true
  name : (fn.name == "runtime.NumGoroutine") = false
theorem FnOk.callable {P : Program} {f : FuncId} {fn : Func} (h : FnOk P f fn) : Callable P f := by
  refine ⟨fn, h.get, ?_, h.name⟩
  have := h.body
  cases hb : fn.body <;> simp_all
section
variable {P : Program} {E : Env} (hE : EOk P E) (hm : P.follows .mixedOrders = true)
include hE hm
theorem fn_ok {H : FuncId → List SV → List Blk → (SV → List Blk → Prop) → Prop} (hH : HOk P H) {f : FuncId} {fn : Func} (hf : FnOk P f fn) {args : List SV} {hp : List Blk} {K : SV → List Blk → Prop} (h : vcF E H fn args hp K)
    (N : Nat) (w0 : Base) (ρ0 : Rho) (w : World) (hh : HRel N w0 (nthO hp) ρ0 w) (hargs : ∀ ρ, Agr (nthO hp) ρ ρ0 → args.map (SV.den ρ) = args.map (SV.den ρ0)) :
    Calls P f (args.map (SV.den ρ0)).toArray w fun e w' => ∃ v hp' ρ0', K v hp' ∧ HRel N w0 (nthO hp') ρ0' w' ∧ (∀ i, (nthO hp i).isSome = true → (nthO hp' i).isSome = true ∧ ρ0' i = ρ0 i) ∧ ∀ ρ, Agr (nthO hp') ρ ρ0' → e = .returned (v.den ρ) := by
  obtain ⟨hget, hbody, -⟩ := hf
  unfold vcF at h
  cases hc : fn.body with
  | none => rw [hc] at h; exact h.elim
  | some c =>
    rw [hc] at h hbody
    simp only [padK_eq, appK_eq] at h
    -- the blocks of the caller stay where they are
    let w1 : Base := ⟨w0.w, fun i => w0.B i ∨ (nthO hp i).isSome = true, ρ0⟩
    have hh1 : HRel N w1 (nthO hp) ρ0 w := ⟨hh.old, hh.own, hh.apart, hh.holds, hh.bel, hh.big, fun i hi => by
      rcases hi with hi | hi
      · exact ⟨(hh.ext i hi).1, rfl⟩
      · exact ⟨hi, rfl⟩⟩
    have hr : RelS N w1 (args ++ List.replicate (fn.ntmps - args.length) uv) hp { tmps := (args.map (SV.den ρ0)).toArray ++ Array.replicate (fn.ntmps - (args.map (SV.den ρ0)).toArray.size) undef, defers := [] } w := by
      refine ⟨ρ0, hh1, fun ρ hρ => ?_, rfl⟩
      simp [← hargs ρ hρ, den_uv]
    refine calls_of_wp hget hc (wp_mono (vcC_ok hE hm hH c hbody _ _ _ h _ w hr) fun e a' w' hq => ?_)
    have fin : ∀ tm' hp', retQ E.T fn.results.toList tm' hp' K → RelS N w1 tm' hp' a' w' → a'.defers = [] ∧ ∃ v, (results fn a'.tmps).run P w' = .ok v w' ∧ ∃ v' hp' ρ0', K v' hp' ∧ HRel N w0 (nthO hp') ρ0' w' ∧
        (∀ i, (nthO hp i).isSome = true → (nthO hp' i).isSome = true ∧ ρ0' i = ρ0 i) ∧ ∀ ρ, Agr (nthO hp') ρ ρ0' → Ending.returned v = .returned (v'.den ρ) := by
      intro tm' hp' hret hr'
      obtain ⟨v, hK, hrun⟩ := retQ_ok hE.T hret
      obtain ⟨ρ1, hh', ht, hd⟩ := hr'
      have key : ∀ ρ, Agr (nthO hp') ρ ρ1 → (results fn a'.tmps).run P w' = .ok (v.den ρ) w' := fun ρ hρ => hrun (ht ρ hρ) (hh'.holds ρ hρ)
      have h0 := key ρ1 (Agr.refl _ _)
      refine ⟨hd, _, h0, v, hp', ρ1, hK, ⟨hh'.old, hh'.own, hh'.apart, hh'.holds, hh'.bel, hh'.big, fun i hi => ?_⟩, fun i hi => hh'.ext i (.inr hi), fun ρ hρ => ?_⟩
      · have := hh'.ext i (.inl hi)
        exact ⟨this.1, this.2.trans (hh.ext i hi).2⟩
      · have := key ρ hρ
        rw [h0] at this
        simpa using this
    cases e with
    | normal => obtain ⟨tm', hp', h1, h2⟩ := hq; exact fin tm' hp' h1 h2
    | ret => obtain ⟨tm', hp', h1, h2⟩ := hq; exact fin tm' hp' h1 h2
    | exit id => obtain ⟨tm', hp', h1, h2⟩ := hq; exact h1.elim
    | goto l => exact hq.elim
    | panic c => exact hq.elim
    | outgrown => exact hq.elim
/-- functions walked in place -/
theorem inl_ok {F : FuncId → Option Func} (hF : ∀ f fn, F f = some fn → FnOk P f fn) : ∀ n, HOk P (inl E F n)
  | 0 => fun f args hp K h => h.elim
  | n + 1 => fun f args hp K h => by
    unfold inl at h
    split at h
    · rename_i fn hfn
      exact ⟨(hF f fn hfn).callable, fun N w0 ρ0 w hh hargs => fn_ok hE hm (inl_ok hF n) (hF f fn hfn) h N w0 ρ0 w hh hargs⟩
    · exact h.elim
/-- a function of values: what it hands back -/
theorem pure_ok {F : FuncId → Option Func} (hF : ∀ f fn, F f = some fn → FnOk P f fn) {n : Nat} {f : FuncId} {fn : Func} (hf : FnOk P f fn) {args : List SV} {v : SV} (hpure : ∀ ρ ρ', v.den ρ = v.den ρ') (hap : ∀ ρ ρ', args.map (SV.den ρ) = args.map (SV.den ρ'))
    (h : vcF E (inl E F n) fn args [] fun u _ => ∀ ρ, u.den ρ = v.den ρ) (ρ : Rho) (w : World) :
    Calls P f (args.map (SV.den ρ)).toArray w fun e w' => e = .returned (v.den ρ) ∧ Below w.heap.size w w' := by
  have hh : HRel w.heap.size ⟨w, fun _ => False, ρ⟩ (nthO []) ρ w := ⟨fun i b h => by simp [nthO] at h, fun i b h => by simp [nthO] at h, fun i j b c h => by simp [nthO] at h, fun ρ _ i b h => by simp [nthO] at h, Below.refl _ _, Nat.le_refl _, fun i h => h.elim⟩
  refine (fn_ok hE hm (inl_ok hE hm hF n) hf h w.heap.size _ ρ w hh (fun ρ' _ => hap ρ' ρ)).mono ?_
  rintro e w' ⟨u, hp', ρ1, hu, hh', -, he⟩
  have := he ρ1 (Agr.refl _ _)
  exact ⟨by rw [this, hu ρ1, hpure ρ1 ρ], hh'.bel⟩
/-- a function that reads blocks of its caller's: what it hands back -/
theorem read_ok {F : FuncId → Option Func} (hF : ∀ f fn, F f = some fn → FnOk P f fn) {n : Nat} {f : FuncId} {fn : Func} (hf : FnOk P f fn) {args : List SV} {hp : List Blk} {v : SV} (hpure : ∀ ρ ρ', v.den ρ = v.den ρ')
    (hb : ∀ i b, nthO hp i = some b → b.ro = true ∧ 0 < sizeC b.cs ∧ ∀ ρ ρ', cellsL ρ b.cs = cellsL ρ' b.cs) (ρ : Rho) (hap : ∀ ρ', Agr (nthO hp) ρ' ρ → args.map (SV.den ρ') = args.map (SV.den ρ))
    (h : vcF E (inl E F n) fn args hp fun u _ => ∀ ρ, u.den ρ = v.den ρ) (w : World) (hr : ∀ i b, nthO hp i = some b → w.rangeAt (ρ i).1 (ρ i).2 (cellsL ρ b.cs)) :
    Calls P f (args.map (SV.den ρ)).toArray w fun e w' => e = .returned (v.den ρ) ∧ Below w.heap.size w w' := by
  have hh : HRel w.heap.size ⟨w, fun _ => False, ρ⟩ (nthO hp) ρ w := by
    refine ⟨fun i b hi => ?_, fun i b hi ho => ?_, fun i j b c hi ho => ?_, fun ρ' hρ i b hi => ?_, Below.refl _ _, Nat.le_refl _, fun i h => h.elim⟩
    · obtain ⟨-, h0, -⟩ := hb i b hi
      rw [sizeC_eq ρ] at h0
      exact block_lt_of_cell (hr i b hi 0 _ (List.getElem?_eq_getElem h0))
    · rw [(hb i b hi).1] at ho; cases ho
    · rw [(hb i b hi).1] at ho; cases ho
    · obtain ⟨h1, -, h3⟩ := hb i b hi
      refine ⟨?_, fun ho => by rw [h1] at ho; cases ho⟩
      rw [hρ i (by rw [hi]; rfl), h3 ρ' ρ]
      exact hr i b hi
  refine (fn_ok hE hm (inl_ok hE hm hF n) hf h w.heap.size _ ρ w hh hap).mono ?_
  rintro e w' ⟨u, hp', ρ1, hu, hh', -, he⟩
  have := he ρ1 (Agr.refl _ _)
  exact ⟨by rw [this, hu ρ1, hpure ρ1 ρ], hh'.bel⟩
end
end Go.Proofs.YtapppahniablmaaDoor
