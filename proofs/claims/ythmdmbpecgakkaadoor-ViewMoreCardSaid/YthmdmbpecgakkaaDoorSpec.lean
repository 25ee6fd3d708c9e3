/- What is known of functions, for the reckoner: the numbers' arithmetic. -/
import Derived.Test.YthmdmbpecgakkaaDoorTypes
import Derived.Test.YthmdmbpecgakkaaDoorWka
import Derived.Test.YthmdmbpecgakkaaDoorWkb
namespace Go.Proofs.YthmdmbpecgakkaaDoor
open Go.RowKit

abbrev Dn := List SV → Option (Option Prop × SV)
def SpOk (P : Program) (f : FuncId) (d : Dn) : Prop := Callable P f ∧ ∀ args p v, d args = some (p, v) → (∀ ρ ρ', v.den ρ = v.den ρ') ∧
  ((∀ q, p = some q → q) → ∀ ρ w, Calls P f (args.map (SV.den ρ)).toArray w fun e w' => e = .returned (v.den ρ) ∧ Below w.heap.size w w')
def lkD : List (FuncId × Dn) → FuncId → Dn
  | [], _, _ => none
  | (g, d) :: l, f, args => if f = g then d args else lkD l f args
def env (un : Nat) (l : List (FuncId × Dn)) : Env where
  T := tyT
  un := un
  D := fun f args _ => lkD l f args
  O := oAppend tyT
def AllOk (l : List (FuncId × Dn)) : Prop := ∀ x ∈ l, SpOk Tryd.prog x.1 x.2
theorem AllOk.nil : AllOk [] := fun x hx => by simp at hx
theorem AllOk.cons {f : FuncId} {d : Dn} {l : List (FuncId × Dn)} (h : SpOk Tryd.prog f d) (hl : AllOk l) : AllOk ((f, d) :: l) := fun x hx => by
  rcases List.mem_cons.1 hx with rfl | hx
  · exact h
  · exact hl x hx
theorem lkD_ok {l : List (FuncId × Dn)} (hl : AllOk l) : ∀ {f : FuncId} {args : List SV} {r}, lkD l f args = some r → ∃ d, SpOk Tryd.prog f d ∧ d args = some r := by
  intro f args r h
  induction l with
  | nil => simp [lkD] at h
  | cons x l ih =>
    obtain ⟨g, d⟩ := x
    unfold lkD at h
    split at h
    · rename_i e; rw [e]; exact ⟨d, hl (g, d) List.mem_cons_self, h⟩
    · exact ih (fun y hy => hl y (List.mem_cons_of_mem _ hy)) h
theorem env_ok {l : List (FuncId × Dn)} (hl : AllOk l) (un : Nat) : EOk Tryd.prog (env un l) where
  T := tyT_ok
  D f args hf p v h := by
    obtain ⟨d, hd, hr⟩ := lkD_ok hl h
    obtain ⟨h1, h2⟩ := hd.2 args p v hr
    exact ⟨hd.1, fun ρ ρ' _ => h1 ρ ρ', fun hp ρ w _ => h2 hp ρ w⟩
  O := oAppend_ok tyT_ok
set_option maxRecDepth 100000 in
theorem mixed : Tryd.prog.follows .mixedOrders = true := by kernel_rfl

theorem gives_sp {k : Nat} {z : Int} {w : World} {e : Ending} {w' : World} (h : GivesW k z w e w') (ρ : Rho) {j : Nat} (hz : Sm j z) : e = .returned ((SV.agg [.wid j z hz]).den ρ) ∧ Below w.heap.size w w' := by
  obtain ⟨b, s, h1, ⟨rfl, rfl⟩, -, h4⟩ := h
  exact ⟨h1, h4⟩
theorem num_wid {k : Nat} {z : Int} (h : Sm k z) : Num (k + 7) (decide (z < 0)) ⟨(mag z.natAbs).toArray⟩ z := Can.num ⟨rfl, rfl⟩ h
theorem sm_addj {j k : Nat} {y z : Int} (h : Sm j y) (h' : Sm k z) : Sm (j + k + 1) (y + z) := (h.mono (by omega : j ≤ j + k)).add (h'.mono (by omega : k ≤ j + k))
theorem sm_subj {j k : Nat} {y z : Int} (h : Sm j y) (h' : Sm k z) : Sm (j + k + 1) (y - z) := (h.mono (by omega : j ≤ j + k)).sub (h'.mono (by omega : k ≤ j + k))
def dFrom : Dn
  | [.c (.int n h)] => some (none, .agg [.wid 64 n (Sm.int h.1 h.2)])
  | _ => none
def dMul : Dn
  | [.agg [.wid j y hy], .agg [.wid k z hz]] => if j ≤ 80000000 ∧ k ≤ 80000000 then some (none, .agg [.wid (j + k) (y * z) (hy.mul hz)]) else none
  | _ => none
def dAdd : Dn
  | [.agg [.wid j y hy], .agg [.wid k z hz]] => if j ≤ 80000000 ∧ k ≤ 80000000 then some (none, .agg [.wid (j + k + 1) (y + z) (sm_addj hy hz)]) else none
  | _ => none
def dSub : Dn
  | [.agg [.wid j y hy], .agg [.wid k z hz]] => if j ≤ 80000000 ∧ k ≤ 80000000 then some (none, .agg [.wid (j + k + 1) (y - z) (sm_subj hy hz)]) else none
  | _ => none
def dNeg : Dn
  | [.agg [.wid j y hy]] => if j ≤ 80000000 then some (none, .agg [.wid j (-y) hy.neg]) else none
  | _ => none
theorem wid_args2 {j k : Nat} {y z : Int} (hy : Sm j y) (hz : Sm k z) (ρ : Rho) : (([.agg [.wid j y hy], .agg [.wid k z hz]] : List SV).map (SV.den ρ)).toArray =
    #[.agg #[.bool (decide (y < 0)), .string ⟨(mag y.natAbs).toArray⟩], .agg #[.bool (decide (z < 0)), .string ⟨(mag z.natAbs).toArray⟩]] := rfl
theorem spFrom {f : FuncId} (hc : Callable Tryd.prog f) (h : ∀ n, -9223372036854775808 ≤ n → n ≤ 9223372036854775807 → ∀ w, Calls Tryd.prog f #[.int .i64 n] w (GivesW 71 n w)) : SpOk Tryd.prog f dFrom := by
  refine ⟨hc, fun args p v hd => ?_⟩
  unfold dFrom at hd
  split at hd
  · rename_i n hn
    cases hd
    exact ⟨fun _ _ => rfl, fun _ ρ w => (h n hn.1 hn.2 w).mono fun e w' he => gives_sp he ρ _⟩
  · cases hd
theorem spMul {f : FuncId} (hc : Callable Tryd.prog f) (h : ∀ {k1 k2 : Nat} {b1 b2 : Bool} {s1 s2 : ByteArray} {z1 z2 : Int}, Num k1 b1 s1 z1 → Num k2 b2 s2 z2 → k1 ≤ 90000000 → k2 ≤ 90000000 → ∀ w, Calls Tryd.prog f #[.agg #[.bool b1, .string s1], .agg #[.bool b2, .string s2]] w (GivesW (k1 + k2 + 7) (z1 * z2) w)) :
    SpOk Tryd.prog f dMul := by
  refine ⟨hc, fun args p v hd => ?_⟩
  unfold dMul at hd
  split at hd
  · rename_i j y hy k z hz
    split at hd
    · rename_i hjk
      cases hd
      refine ⟨fun _ _ => rfl, fun _ ρ w => ?_⟩
      rw [wid_args2]
      exact (h (num_wid hy) (num_wid hz) (by omega) (by omega) w).mono fun e w' he => gives_sp he ρ _
    · cases hd
  · cases hd
theorem spAdd {f : FuncId} (hc : Callable Tryd.prog f) (h : ∀ {k1 k2 : Nat} {b1 b2 : Bool} {s1 s2 : ByteArray} {z1 z2 : Int}, Num k1 b1 s1 z1 → Num k2 b2 s2 z2 → k1 ≤ 90000000 → k2 ≤ 90000000 → ∀ w, Calls Tryd.prog f #[.agg #[.bool b1, .string s1], .agg #[.bool b2, .string s2]] w (GivesW (k1 + k2 + 8) (z1 + z2) w)) :
    SpOk Tryd.prog f dAdd := by
  refine ⟨hc, fun args p v hd => ?_⟩
  unfold dAdd at hd
  split at hd
  · rename_i j y hy k z hz
    split at hd
    · rename_i hjk
      cases hd
      refine ⟨fun _ _ => rfl, fun _ ρ w => ?_⟩
      rw [wid_args2]
      exact (h (num_wid hy) (num_wid hz) (by omega) (by omega) w).mono fun e w' he => gives_sp he ρ _
    · cases hd
  · cases hd
theorem spSub {f : FuncId} (hc : Callable Tryd.prog f) (h : ∀ {k1 k2 : Nat} {b1 b2 : Bool} {s1 s2 : ByteArray} {z1 z2 : Int}, Num k1 b1 s1 z1 → Num k2 b2 s2 z2 → k1 ≤ 90000000 → k2 ≤ 90000000 → ∀ w, Calls Tryd.prog f #[.agg #[.bool b1, .string s1], .agg #[.bool b2, .string s2]] w (GivesW (k1 + k2 + 15) (z1 - z2) w)) :
    SpOk Tryd.prog f dSub := by
  refine ⟨hc, fun args p v hd => ?_⟩
  unfold dSub at hd
  split at hd
  · rename_i j y hy k z hz
    split at hd
    · rename_i hjk
      cases hd
      refine ⟨fun _ _ => rfl, fun _ ρ w => ?_⟩
      rw [wid_args2]
      exact (h (num_wid hy) (num_wid hz) (by omega) (by omega) w).mono fun e w' he => gives_sp he ρ _
    · cases hd
  · cases hd
theorem spNeg {f : FuncId} (hc : Callable Tryd.prog f) (h : ∀ {k1 : Nat} {b1 : Bool} {s1 : ByteArray} {z1 : Int}, Num k1 b1 s1 z1 → k1 ≤ 90000000 → ∀ w, Calls Tryd.prog f #[.agg #[.bool b1, .string s1]] w (GivesW (k1 + 7) (-z1) w)) :
    SpOk Tryd.prog f dNeg := by
  refine ⟨hc, fun args p v hd => ?_⟩
  unfold dNeg at hd
  split at hd
  · rename_i j y hy
    split at hd
    · rename_i hjk
      cases hd
      refine ⟨fun _ _ => rfl, fun _ ρ w => ?_⟩
      exact (h (num_wid hy) (by omega) w).mono fun e w' he => gives_sp he ρ _
    · cases hd
  · cases hd

def base : List (FuncId × Dn) := [(25, dFrom), (24, dMul), (29, dAdd), (28, dSub), (48, dNeg), (32, dFrom), (31, dMul), (36, dAdd), (35, dSub), (56, dNeg)]
theorem base_ok : AllOk base :=
  .cons (spFrom ⟨_, Tryd.func25, by kernel_rfl, by kernel_rfl⟩ From_any) <|
  .cons (spMul ⟨_, Tryd.func24, by kernel_rfl, by kernel_rfl⟩ fun h1 h2 h3 h4 w => Mul_any h1 h2 (by omega) (by omega) w) <|
  .cons (spAdd ⟨_, Tryd.func29, by kernel_rfl, by kernel_rfl⟩ fun h1 h2 h3 h4 w => Add_any h1 h2 (by omega) (by omega) w) <|
  .cons (spSub ⟨_, Tryd.func28, by kernel_rfl, by kernel_rfl⟩ fun h1 h2 h3 h4 w => Sub_any h1 h2 (by omega) (by omega) w) <|
  .cons (spNeg ⟨_, Tryd.func48, by kernel_rfl, by kernel_rfl⟩ fun h1 h2 w => Neg_any h1 (by omega) w) <|
  .cons (spFrom ⟨_, Tryd.func32, by kernel_rfl, by kernel_rfl⟩ RFrom_any) <|
  .cons (spMul ⟨_, Tryd.func31, by kernel_rfl, by kernel_rfl⟩ fun h1 h2 h3 h4 w => RMul_any h1 h2 (by omega) (by omega) w) <|
  .cons (spAdd ⟨_, Tryd.func36, by kernel_rfl, by kernel_rfl⟩ fun h1 h2 h3 h4 w => RAdd_any h1 h2 (by omega) (by omega) w) <|
  .cons (spSub ⟨_, Tryd.func35, by kernel_rfl, by kernel_rfl⟩ fun h1 h2 h3 h4 w => RSub_any h1 h2 (by omega) (by omega) w) <|
  .cons (spNeg ⟨_, Tryd.func56, by kernel_rfl, by kernel_rfl⟩ fun h1 h2 w => RNeg_any h1 (by omega) w) .nil

/-- functions that are walked in place -/
theorem sp_of {f : FuncId} {fn : Func} (hf : FnOk Tryd.prog f fn) {un : Nat} {l : List (FuncId × Dn)} (hl : AllOk l) {F : FuncId → Option Func} (hF : ∀ f fn, F f = some fn → FnOk Tryd.prog f fn) {n : Nat} {d : Dn}
    (h : ∀ args p v, d args = some (p, v) → (∀ ρ ρ', v.den ρ = v.den ρ') ∧ (∀ ρ ρ', args.map (SV.den ρ) = args.map (SV.den ρ')) ∧ ((∀ q, p = some q → q) → vcF (env un l) (inl (env un l) F n) fn args [] fun u _ => ∀ ρ, u.den ρ = v.den ρ)) : SpOk Tryd.prog f d :=
  ⟨hf.callable, fun args p v hd => by
    obtain ⟨h1, h2, h3⟩ := h args p v hd
    exact ⟨h1, fun hp ρ w => pure_ok (env_ok hl un) mixed hF hf h1 h2 (h3 hp) ρ w⟩⟩
theorem sp_of2 {f : FuncId} {fn : Func} (hf : FnOk Tryd.prog f fn) {un : Nat} {l : List (FuncId × Dn)} (hl : AllOk l) {F : FuncId → Option Func} (hF : ∀ f fn, F f = some fn → FnOk Tryd.prog f fn) {n : Nat} {d : Dn}
    (h : ∀ args p v, d args = some (p, v) → ∃ args', (∀ ρ, args.map (SV.den ρ) = args'.map (SV.den ρ)) ∧ (∀ ρ ρ', v.den ρ = v.den ρ') ∧ (∀ ρ ρ', args'.map (SV.den ρ) = args'.map (SV.den ρ')) ∧
      ((∀ q, p = some q → q) → vcF (env un l) (inl (env un l) F n) fn args' [] fun u _ => ∀ ρ, u.den ρ = v.den ρ)) : SpOk Tryd.prog f d :=
  ⟨hf.callable, fun args p v hd => by
    obtain ⟨args', h0, h1, h2, h3⟩ := h args p v hd
    exact ⟨h1, fun hp ρ w => by rw [h0]; exact pure_ok (env_ok hl un) mixed hF hf h1 h2 (h3 hp) ρ w⟩⟩
def noF : FuncId → Option Func := fun _ => none
theorem noF_ok : ∀ f fn, noF f = some fn → FnOk Tryd.prog f fn := fun f fn h => by cases h
theorem lkF_ok {l : List (FuncId × Func)} (hl : ∀ x ∈ l, FnOk Tryd.prog x.1 x.2) : ∀ f fn, lk l f = some fn → FnOk Tryd.prog f fn := fun _ _ h => hl _ (lk_mem h)
end Go.Proofs.YthmdmbpecgakkaaDoor
