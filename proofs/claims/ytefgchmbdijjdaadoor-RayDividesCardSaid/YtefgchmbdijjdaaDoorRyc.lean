/- law 22: Mod, near, sanity. Count and First, of ray and of the reference, by the reckoner: one value. Plain laws of rays: corners in another order, multiples. Plain laws of rays: triangles divided at a point. -/
import Derived.Test.YtefgchmbdijjdaaDoorRyb
import Derived.Test.YtefgchmbdijjdaaDoorBas
namespace Go.Proofs.YtefgchmbdijjdaaDoor
open Go.RowKit
set_option maxRecDepth 100000

theorem ir_emod {n m : Int} (hn : IR n) (hm : IR m) : IR (n % m) := by
  by_cases h : m = 0
  · subst h; rw [Int.emod_zero]; exact hn
  · have h1 := Int.emod_nonneg n h
    have h2 := Int.emod_lt n h
    unfold IR at *
    omega
theorem mod_eq {n m : Int} (hn : IR n) (h : 0 < m ∧ m ≤ 1000000) : (IntKind.i64.wrap (n.tmod m + m)).tmod m = n % m := by
  have h1 : -m < n.tmod m := Int.lt_tmod_of_pos n h.1
  have h2 : n.tmod m < m := Int.tmod_lt_of_pos n h.1
  rw [wrap_id (z := n.tmod m + m) (by unfold IR; omega), Int.tmod_eq_emod_of_nonneg (by omega), Int.add_emod_right]
  have _ := hn
  rw [Int.tmod_def, Int.sub_mul_emod_self_left]
def dMod : Dn
  | [.c (.int n hn), .c (.int m hm)] => some (some (0 < m ∧ m ≤ 1000000), .c (.int (n % m) (ir_emod hn hm)))
  | _ => none
theorem spMod : SpOk Tryd.prog 8 dMod := sp_of2 (un := 20) (n := 0) ⟨Tryd.func8, by kernel_rfl, by kernel_rfl⟩ baseC_ok noF_ok fun args p v hd => by
  unfold dMod at hd
  split at hd
  · rename_i n hn m hm
    cases hd
    refine ⟨[.c (.int n hn), .c (.int m hm)], fun _ => rfl, fun _ _ => rfl, fun _ _ => rfl, fun hpre => ?_⟩
    have hm0 : 0 < m ∧ m ≤ 1000000 := hpre _ rfl
    conv => whnf
    conv =>
      arg 2
      tactic' =>
        apply eff_rem (hi := hn.tmod m) (ho := ?how1) (hx := ?hxw1) (hy := ?hyw1) (hb0 := ?hb0w1) (hc := ?hcw1)
        case how1 => rfl
        case hxw1 => rfl
        case hyw1 => rfl
        case hb0w1 => exact (by omega)
        case hcw1 => rfl
    conv => whnf
    conv =>
      arg 2
      tactic' =>
        apply eff_rem (hi := ir_emod hn hm) (ho := ?how2) (hx := ?hxw2) (hy := ?hyw2) (hb0 := ?hb0w2) (hc := ?hcw2)
        case how2 => rfl
        case hxw2 => rfl
        case hyw2 => rfl
        case hb0w2 => exact (by omega)
        case hcw2 => exact mod_eq hn hm0
    conv => whnf
    exact fun _ => rfl
  · cases hd
def baseM : List (FuncId × Dn) := (8, dMod) :: baseC
theorem baseM_ok : AllOk baseM := .cons spMod <| baseC_ok
/-- a small ray -/
def nW (w : Int) : Int := 1 + w % 4
def nC (w n : Int) : Int := n % (11 * w) - 2 * w
def nD (n : Int) : Int := n % 7 - 3
theorem nW_b (w : Int) : 1 ≤ nW w ∧ nW w ≤ 4 := by unfold nW; omega
theorem nC_b {w : Int} (hw : 1 ≤ w ∧ w ≤ 4) (n : Int) : -2 * w ≤ nC w n ∧ nC w n < 9 * w := by
  unfold nC
  have h1 := Int.emod_nonneg n (show 11 * w ≠ 0 by omega)
  have h2 := Int.emod_lt_of_pos n (show 0 < 11 * w by omega)
  omega
theorem nD_b (n : Int) : -3 ≤ nD n ∧ nD n ≤ 3 := by unfold nD; omega
theorem ir_nW (w : Int) : IR (nW w) := by have := nW_b w; unfold IR; omega
theorem ir_nC (w n : Int) : IR (nC (nW w) n) := by have h := nW_b w; have := nC_b h n; unfold IR; omega
theorem ir_nD (n : Int) : IR (nD n) := by have := nD_b n; unfold IR; omega
def nearZ (r : RZ) : RZ := ⟨nC (nW r.w) r.x, nC (nW r.w) r.y, nC (nW r.w) r.z, nW r.w, ⟨nD r.d.x, nD r.d.y, nD r.d.z⟩⟩
/-- the coordinate's function: it reads w -/
def dNear1 : Dr
  | [.c (.int n _), .c (.ptr b 0)], hf => (match hf b with
    | some ⟨_, _, [.int w _], _⟩ => some (some (1 ≤ w ∧ w ≤ 4), .c (.int (IntKind.i64.wrap (n % IntKind.i64.wrap (11 * w) - IntKind.i64.wrap (2 * w))) (IR.wrap _)))
    | _ => none)
  | _, _ => none
theorem vcNear1 {n w : Int} (hn : IR n) (hw : IR w) (hb : 1 ≤ w ∧ w ≤ 4) (ty : TypeId) : vcF (env 20 baseM) (inl (env 20 baseM) noF 0) Tryd.f17 [.c (.int n hn), .c (.ptr 0 0)] [⟨ty, true, [.int w hw], 0⟩] fun u _ => ∀ ρ, u.den ρ = (SV.c (.int (IntKind.i64.wrap (n % IntKind.i64.wrap (11 * w) - IntKind.i64.wrap (2 * w))) (IR.wrap _))).den ρ := by
  have h11 : 0 < IntKind.i64.wrap (11 * w) ∧ IntKind.i64.wrap (11 * w) ≤ 1000000 := by rw [wrap_id (z := 11 * w) (by unfold IR; omega)]; omega
  conv => whnf
  refine ⟨h11, ?_⟩
  conv => whnf
  exact fun _ => rfl
theorem spNear1 : SpR Tryd.prog 17 dNear1 := by
  refine ⟨(⟨Tryd.func17, by kernel_rfl, by kernel_rfl⟩ : FnOk Tryd.prog 17 Tryd.f17).callable, fun args hf p v hd => ?_⟩
  unfold dNear1 at hd
  split at hd
  · rename_i n hn b
    split at hd
    · rename_i ty ro w hw tl hb
      cases hd
      refine ⟨fun _ _ => rfl, fun ho ρ ww hh => ?_⟩
      have hw4 : 1 ≤ w ∧ w ≤ 4 := ho _ rfl
      have hH := (hh b _ hb).1
      refine read_ok (P := Tryd.prog) (env_ok baseM_ok 20) mixed noF_ok ⟨Tryd.func17, by kernel_rfl, by kernel_rfl⟩ (fun _ _ => rfl) (fun i c hi => ?_) (fun _ => ρ b) (fun ρ' hρ => ?_) (vcNear1 hn hw hw4 ty) ww (fun i c hi => ?_)
      · cases i with
        | zero => simp [nthO] at hi; subst hi; exact ⟨rfl, fun _ _ => rfl⟩
        | succ i => simp [nthO] at hi
      · have := hρ 0 rfl
        simp only [List.map_cons, List.map_nil, SV.den, C.den, C.cells, adr, this]
      · cases i with
        | zero => simp [nthO] at hi; subst hi; exact hH
        | succ i => simp [nthO] at hi
    · cases hd
  · cases hd
def dNear2 : Dn
  | [.c (.int n _)] =>
    some (none, .c (.int (nD n) (ir_nD n)))
  | _ => none
theorem spNear2 : SpOk Tryd.prog 18 dNear2 := sp_of2 (un := 20) (n := 0) ⟨Tryd.func18, by kernel_rfl, by kernel_rfl⟩ baseM_ok noF_ok fun args p v hd => by
  unfold dNear2 at hd
  split at hd
  · rename_i n hn
    cases hd
    refine ⟨[.c (.int n hn)], fun _ => rfl, fun _ _ => rfl, fun _ _ => rfl, fun _ => ?_⟩
    conv => whnf
    refine ⟨⟨by decide, by decide⟩, ?_⟩
    conv => whnf
    exact fun ρ => sint_e (wrap_id (ir_nD n)) ρ
  · cases hd
def baseM1 : List (FuncId × Dn) := (18, dNear2) :: baseM
theorem baseM1_ok : AllOk baseM1 := .cons spNear2 <| baseM_ok
def rdNr : List (FuncId × Dr) := [(17, dNear1)]
theorem rdNr_ok : AllR rdNr := .cons spNear1 .nil
theorem near_w {w : Int} : IntKind.i64.wrap (1 + w % 4) = nW w := wrap_id (ir_nW w)
theorem near_c {w n : Int} : IntKind.i64.wrap (n % IntKind.i64.wrap (11 * IntKind.i64.wrap (1 + w % 4)) - IntKind.i64.wrap (2 * IntKind.i64.wrap (1 + w % 4))) = nC (nW w) n := by
  have h := nW_b w
  rw [near_w, wrap_id (z := 11 * nW w) (by unfold IR; omega), wrap_id (z := 2 * nW w) (by unfold IR; omega)]
  exact wrap_id (ir_nC w n)
theorem near_b {w : Int} : 1 ≤ IntKind.i64.wrap (1 + w % 4) ∧ IntKind.i64.wrap (1 + w % 4) ≤ 4 := by rw [near_w]; exact nW_b w
theorem ints7_sv {a b c d e f g a' b' c' d' e' f' g' : Int} {h1 : IR a} {h2 : IR b} {h3 : IR c} {h4 : IR d} {h5 : IR e} {h6 : IR f} {h7 : IR g} {i1 : IR a'} {i2 : IR b'} {i3 : IR c'} {i4 : IR d'} {i5 : IR e'} {i6 : IR f'} {i7 : IR g'} (e1 : a = a') (e2 : b = b') (e3 : c = c') (e4 : d = d') (e5 : e = e') (e6 : f = f') (e7 : g = g') (ρ : Rho) :
    (SV.agg [.int a h1, .int b h2, .int c h3, .int d h4, .int e h5, .int f h6, .int g h7]).den ρ = (SV.agg [.int a' i1, .int b' i2, .int c' i3, .int d' i4, .int e' i5, .int f' i6, .int g' i7]).den ρ := by subst e1 e2 e3 e4 e5 e6 e7; rfl
def dNearL : Dn
  | [.agg [.int rx _, .int ry _, .int rz _, .int rw _, .int d0 _, .int d1 _, .int d2 _]] =>
    some (none, .agg [.int (nC (nW rw) rx) (ir_nC rw rx), .int (nC (nW rw) ry) (ir_nC rw ry), .int (nC (nW rw) rz) (ir_nC rw rz), .int (nW rw) (ir_nW rw), .int (nD d0) (ir_nD d0), .int (nD d1) (ir_nD d1), .int (nD d2) (ir_nD d2)])
  | _ => none
set_option maxHeartbeats 4000000 in
theorem spNearL : SpOk Tryd.prog 7 dNearL := sp_of3 (un := 20) (n := 0) ⟨Tryd.func7, by kernel_rfl, by kernel_rfl⟩ baseM1_ok rdNr_ok noF_ok fun args p v hd => by
  unfold dNearL at hd
  split at hd
  · rename_i rx hrx ry hry rz hrz rw hrw d0 hd0 d1 hd1 d2 hd2
    cases hd
    refine ⟨[.agg [.int rx hrx, .int ry hry, .int rz hrz, .int rw hrw, .int d0 hd0, .int d1 hd1, .int d2 hd2]], fun _ => rfl, fun _ _ => rfl, fun _ _ => rfl, fun _ => ?_⟩
    conv => whnf
    refine ⟨⟨by decide, by decide⟩, ?_⟩
    conv => whnf
    refine ⟨near_b, ?_⟩
    conv => whnf
    refine ⟨near_b, ?_⟩
    conv => whnf
    refine ⟨near_b, ?_⟩
    conv => whnf
    exact fun ρ => ints7_sv near_c near_c near_c near_w rfl rfl rfl ρ
  · cases hd
theorem sm64_1 : Sm 64 1 := by unfold Sm; decide
theorem sm64_2 : Sm 64 2 := by unfold Sm; decide
theorem sm64_3 : Sm 64 3 := by unfold Sm; decide
def cFrac : List SV → Option SV
  | [.c (.int n _), .c (.int m _)] => if n = 1 ∧ m = 1 then some (.agg [.wid 64 1 sm64_1, .wid 64 1 sm64_1]) else if n = 3 ∧ m = 2 then some (.agg [.wid 64 3 sm64_3, .wid 64 2 sm64_2]) else none
  | _ => none
theorem fr_ex : (fracN 1 1 = 1 ∧ fracD 1 1 = 1) ∧ fracN 3 2 = 3 ∧ fracD 3 2 = 2 := by decide +kernel
theorem spFracS : SpOk Tryd.prog 11 (dOver cFrac dFrac22) := spOver spFrac22 fun args v p u h1 h2 ρ => by
  unfold cFrac at h1
  split at h1
  · split at h1
    · rename_i e
      obtain ⟨rfl, rfl⟩ := e
      cases h1; cases h2
      exact wid2_sv _ _ _ _ fr_ex.1.1 fr_ex.1.2 ρ
    · split at h1
      · rename_i e
        obtain ⟨rfl, rfl⟩ := e
        cases h1; cases h2
        exact wid2_sv _ _ _ _ fr_ex.2.1 fr_ex.2.2 ρ
      · cases h1
  · cases h1
def baseS2 : List (FuncId × Dn) := (11, dOver cFrac dFrac22) :: (16, dCrsS) :: (12, dBoxS0) :: baseC
theorem baseS2_ok : AllOk baseS2 := .cons spFracS <| .cons spCrsS <| .cons spBoxS0 baseC_ok
def dSanity : Dn
  | [] => some (none, .c (.val (.bool true)))
  | _ => none
theorem spSanity : SpOk Tryd.prog 6 dSanity := sp_of2 (un := 20) (n := 0) ⟨Tryd.func6, by kernel_rfl, by kernel_rfl⟩ baseS2_ok noF_ok fun args p v hd => by
  unfold dSanity at hd
  split at hd
  · cases hd
    refine ⟨[], fun _ => rfl, fun _ _ => rfl, fun _ _ => rfl, fun _ => ?_⟩
    conv => whnf
    exact fun _ => rfl
  · cases hd
end Go.Proofs.YtefgchmbdijjdaaDoor

namespace Go.Proofs.YtefgchmbdijjdaaDoor
open Go.RowKit
set_option maxRecDepth 100000

/-- a function that reads blocks of its caller's: what it hands back -/
theorem read_okH {P : Program} {E : Env} (hE : EOk P E) (hm : P.follows .mixedOrders = true) {H : FuncId → List SV → List Blk → (SV → List Blk → Prop) → Prop} (hH : HOk P H) {f : FuncId} {fn : Func} (hf : FnOk P f fn) {args : List SV} {hp : List Blk} {v : SV} (hpure : ∀ ρ ρ', v.den ρ = v.den ρ')
    (hb : ∀ i b, nthO hp i = some b → b.ro = true ∧ PureL b.cs) (ρ : Rho) (hap : ∀ ρ', Agr (nthO hp) ρ' ρ → args.map (SV.den ρ') = args.map (SV.den ρ))
    (h : vcF E H fn args hp fun u _ => ∀ ρ, u.den ρ = v.den ρ) (w : World) (hr : ∀ i b, nthO hp i = some b → w.rangeAt (ρ i).1 (ρ i).2 (cellsL ρ b.cs)) :
    Calls P f (args.map (SV.den ρ)).toArray w fun e w' => e = .returned (v.den ρ) ∧ Below w.heap.size w w' := by
  have hh0 : HRel w.heap.size ⟨w, fun _ => False, ρ⟩ (nthO hp) ρ w := by
    refine ⟨fun i b hi _ => ?_, fun i b hi ho => ?_, fun i j b c hi ho => ?_, fun ρ' hρ i b hi => ?_, Below.refl _ _, Nat.le_refl _, fun i h => h.elim⟩
    · rename_i hv
      have h0 : 0 < sizeC b.cs := by
        cases hc : b.cs with
        | nil =>
          unfold Blk.void at hv
          rw [hc, (hb i b hi).1] at hv
          cases hv
        | cons x l => cases x <;> simp [sizeC, C.n] <;> omega
      rw [sizeC_eq ρ] at h0
      exact block_lt_of_cell (hr i b hi 0 _ (List.getElem?_eq_getElem h0))
    · rw [(hb i b hi).1] at ho; cases ho
    · rw [(hb i b hi).1] at ho; cases ho
    · obtain ⟨h1, h3⟩ := hb i b hi
      refine ⟨?_, fun ho => by rw [h1] at ho; cases ho⟩
      have h3 : cellsL ρ' b.cs = cellsL ρ b.cs := h3 ρ' ρ
      rw [hρ i (by rw [hi]; rfl), h3]
      exact hr i b hi
  refine (fn_ok hE hm hH hf h w.heap.size _ ρ w hh0 hap).mono ?_
  rintro e w' ⟨u, hp', ρ1, hu, hh', -, he⟩
  have := he ρ1 (Agr.refl _ _)
  exact ⟨by rw [this, hu ρ1, hpure ρ1 ρ], hh'.bel⟩
/-- the first of the least -/
def Best (c : Nat → Bool) (q : Nat → Rat) (m n : Nat) (s : Option Nat) : Prop := match s with
  | none => ∀ j, m ≤ j → j < n → c j = false
  | some i => m ≤ i ∧ i < n ∧ c i = true ∧ ∀ j, m ≤ j → j < n → c j = true → q i < q j ∨ q i = q j ∧ i ≤ j
theorem Best.uniq {c : Nat → Bool} {q : Nat → Rat} {m n : Nat} {s t : Option Nat} (h1 : Best c q m n s) (h2 : Best c q m n t) : s = t := by
  cases s with
  | none =>
    cases t with
    | none => rfl
    | some j => have := h1 j h2.1 h2.2.1; rw [h2.2.2.1] at this; cases this
  | some i =>
    cases t with
    | none => have := h2 i h1.1 h1.2.1; rw [h1.2.2.1] at this; cases this
    | some j =>
      have a := h1.2.2.2 j h2.1 h2.2.1 h2.2.2.1
      have b := h2.2.2.2 i h1.1 h1.2.1 h1.2.2.1
      have : i = j := by
        rcases a with a | ⟨a, a'⟩
        · rcases b with b | ⟨b, b'⟩ <;> grind
        · rcases b with b | ⟨b, b'⟩
          · grind
          · omega
      rw [this]
def fwd (c : Nat → Bool) (q : Nat → Rat) : Nat → Option Nat
  | 0 => none
  | k + 1 => if c k = true then (match fwd c q k with | none => some k | some i => if q k < q i then some k else some i) else fwd c q k
theorem fwd_best (c : Nat → Bool) (q : Nat → Rat) : ∀ n, Best c q 0 n (fwd c q n)
  | 0 => fun j _ h => absurd h (Nat.not_lt_zero j)
  | n + 1 => by
    have ih := fwd_best c q n
    unfold fwd
    split
    · rename_i hc
      split
      · rename_i hs
        rw [hs] at ih
        refine ⟨Nat.zero_le _, Nat.lt_succ_self n, hc, fun j _ hj hcj => ?_⟩
        by_cases h : j = n
        · subst h; exact .inr ⟨rfl, Nat.le_refl _⟩
        · have := ih j (Nat.zero_le _) (by omega); rw [hcj] at this; cases this
      · rename_i i hs
        rw [hs] at ih
        obtain ⟨-, h2, h3, h4⟩ := ih
        split
        · rename_i hq
          refine ⟨Nat.zero_le _, Nat.lt_succ_self n, hc, fun j _ hj hcj => ?_⟩
          by_cases h : j = n
          · subst h; exact .inr ⟨rfl, Nat.le_refl _⟩
          · rcases h4 j (Nat.zero_le _) (by omega) hcj with h5 | ⟨h5, _⟩
            · exact .inl (by grind)
            · exact .inl (by grind)
        · rename_i hq
          refine ⟨Nat.zero_le _, by omega, h3, fun j _ hj hcj => ?_⟩
          by_cases h : j = n
          · subst h
            by_cases he : q i = q j
            · exact .inr ⟨he, by omega⟩
            · exact .inl (by grind)
          · exact h4 j (Nat.zero_le _) (by omega) hcj
    · rename_i hc
      have hc : c n = false := by simpa using hc
      cases hs : fwd c q n with
      | none =>
        rw [hs] at ih
        intro j _ hj
        by_cases h : j = n
        · subst h; exact hc
        · exact ih j (Nat.zero_le _) (by omega)
      | some i =>
        rw [hs] at ih
        obtain ⟨-, h2, h3, h4⟩ := ih
        refine ⟨Nat.zero_le _, by omega, h3, fun j _ hj hcj => ?_⟩
        by_cases h : j = n
        · subst h; rw [hc] at hcj; cases hcj
        · exact h4 j (Nat.zero_le _) (by omega) hcj
def bwd (c : Nat → Bool) (q : Nat → Rat) (n : Nat) : Nat → Option Nat
  | 0 => none
  | m + 1 => if c (n - 1 - m) = true then (match bwd c q n m with | none => some (n - 1 - m) | some i => if q (n - 1 - m) ≤ q i then some (n - 1 - m) else some i) else bwd c q n m
theorem bwd_best (c : Nat → Bool) (q : Nat → Rat) (n : Nat) : ∀ m, m ≤ n → Best c q (n - m) n (bwd c q n m)
  | 0, _ => fun j h1 h2 => absurd h2 (by omega)
  | m + 1, hm => by
    have ih := bwd_best c q n m (by omega)
    unfold bwd
    have e : n - (m + 1) = n - 1 - m := by omega
    have hk : n - 1 - m < n := by omega
    have hlow : ∀ j, n - 1 - m ≤ j → j ≠ n - 1 - m → n - m ≤ j := fun j h1 h2 => by omega
    have hup : n - 1 - m ≤ n - m := by omega
    rw [e]
    generalize n - 1 - m = k at *
    split
    · rename_i hc
      split
      · rename_i hs
        rw [hs] at ih
        refine ⟨Nat.le_refl _, hk, hc, fun j h1 hj hcj => ?_⟩
        by_cases h : j = k
        · subst h; exact .inr ⟨rfl, Nat.le_refl _⟩
        · have := ih j (hlow j h1 h) hj; rw [hcj] at this; cases this
      · rename_i i hs
        rw [hs] at ih
        obtain ⟨h1, h2, h3, h4⟩ := ih
        split
        · rename_i hq
          refine ⟨Nat.le_refl _, hk, hc, fun j h5 hj hcj => ?_⟩
          by_cases h : j = k
          · subst h; exact .inr ⟨rfl, Nat.le_refl _⟩
          · rcases h4 j (hlow j h5 h) hj hcj with h6 | ⟨h6, _⟩
            · exact .inl (by grind)
            · by_cases he : q k = q j
              · exact .inr ⟨he, h5⟩
              · exact .inl (by grind)
        · rename_i hq
          refine ⟨Nat.le_trans hup h1, h2, h3, fun j h5 hj hcj => ?_⟩
          by_cases h : j = k
          · subst h; exact .inl (by grind)
          · exact h4 j (hlow j h5 h) hj hcj
    · rename_i hc
      have hc : c k = false := by simpa using hc
      cases hs : bwd c q n m with
      | none =>
        rw [hs] at ih
        intro j h5 hj
        by_cases h : j = k
        · subst h; exact hc
        · exact ih j (hlow j h5 h) hj
      | some i =>
        rw [hs] at ih
        obtain ⟨h1, h2, h3, h4⟩ := ih
        refine ⟨Nat.le_trans hup h1, h2, h3, fun j h5 hj hcj => ?_⟩
        by_cases h : j = k
        · subst h; rw [hc] at hcj; cases hcj
        · exact h4 j (hlow j h5 h) hj hcj
theorem fwd_bwd (c : Nat → Bool) (q : Nat → Rat) (n : Nat) : bwd c q n n = fwd c q n := by
  have h := bwd_best c q n n (Nat.le_refl n)
  rw [Nat.sub_self] at h
  exact h.uniq (fwd_best c q n)
/-- a ray's numbers -/
structure RI where
  x : Int
  y : Int
  z : Int
  w : Int
  a : Int
  b : Int
  c : Int
  hx : IR x
  hy : IR y
  hz : IR z
  hw : IR w
  ha : IR a
  hb : IR b
  hc : IR c
def riC (r : RI) : List C := [.int r.x r.hx, .int r.y r.hy, .int r.z r.hz, .int r.w r.hw, .int r.a r.ha, .int r.b r.hb, .int r.c r.hc]
def RI.z3 (r : RI) : RZ := ⟨r.x, r.y, r.z, r.w, ⟨r.a, r.b, r.c⟩⟩
def PT.v (p : PT) : V3 := ⟨p.x, p.y, p.z⟩
def crB (r : RI) (t : TR) : Bool := crossB r.z3 t.a.v t.b.v t.c.v
def crN (r : RI) (t : TR) : Int := crossN r.z3 t.a.v t.b.v t.c.v
def crD (r : RI) (t : TR) : Int := crossD r.z3 t.a.v t.b.v t.c.v
theorem sm_crN (r : RI) (t : TR) : Sm 3000 (crN r t) := sm_crossN r.hx r.hy r.hz r.hw r.ha r.hb r.hc t.a.hx t.a.hy t.a.hz t.b.hx t.b.hy t.b.hz t.c.hx t.c.hy t.c.hz
theorem sm_crD (r : RI) (t : TR) : Sm 3000 (crD r t) := sm_crossD r.hx r.hy r.hz r.hw r.ha r.hb r.hc t.a.hx t.a.hy t.a.hz t.b.hx t.b.hy t.b.hz t.c.hx t.c.hy t.c.hz
def pt0 : PT := ⟨0, 0, 0, by decide, by decide, by decide⟩
def tAt (l : List TR) (i : Nat) : TR := (l[i]?).getD ⟨pt0, pt0, pt0⟩
theorem tAt_eq {l : List TR} {i : Nat} (h : i < l.length) : tAt l i = l[i] := by unfold tAt; rw [List.getElem?_eq_getElem h]; rfl
def cAt (r : RI) (l : List TR) (i : Nat) : Bool := crB r (tAt l i)
def qAt (r : RI) (l : List TR) (i : Nat) : Rat := ratOf (crN r (tAt l i)) (crD r (tAt l i))
def cntK (r : RI) (l : List TR) : Nat → Nat
  | 0 => 0
  | k + 1 => cntK r l k + (if cAt r l k = true then 1 else 0)
theorem cntK_s (r : RI) (l : List TR) (k : Nat) : cntK r l (k + 1) = cntK r l k + (if cAt r l k = true then 1 else 0) := rfl
theorem cntK_le (r : RI) (l : List TR) : ∀ k, cntK r l k ≤ k
  | 0 => Nat.le_refl _
  | k + 1 => by have := cntK_le r l k; unfold cntK; split <;> omega
theorem ir_cnt (r : RI) (l : List TR) {k : Nat} (h : k ≤ 1000000) : IR (cntK r l k : Nat) := by have := cntK_le r l k; unfold IR; omega
def hN (r : RI) (l : List TR) : Option Nat → Int
  | none => 0
  | some i => crN r (tAt l i)
def hD (r : RI) (l : List TR) : Option Nat → Int
  | none => 1
  | some i => crD r (tAt l i)
def hK : Option Nat → Int
  | none => 0
  | some i => ((min i 1000000 : Nat) : Int)
theorem sm_hN (r : RI) (l : List TR) (s : Option Nat) : Sm 3000 (hN r l s) := by
  cases s with
  | none => exact sm_zero 3000
  | some i => exact sm_crN r _
theorem sm_hD (r : RI) (l : List TR) (s : Option Nat) : Sm 3000 (hD r l s) := by
  cases s with
  | none => have : Sm 1 1 := (by unfold Sm; decide); exact this.mono (by decide)
  | some i => exact sm_crD r _
theorem ir_hK (s : Option Nat) : IR (hK s) := by
  cases s with
  | none => decide
  | some i => show IR ((min i 1000000 : Nat) : Int); unfold IR; omega
def hitC (r : RI) (l : List TR) (s : Option Nat) : List C := [.wid 3000 (hN r l s) (sm_hN r l s), .wid 3000 (hD r l s) (sm_hD r l s), .int (hK s) (ir_hK s)]
theorem cr_at {r : RI} {l : List TR} {k : Nat} (h : k < l.length) : crB r l[k] = cAt r l k ∧ crN r l[k] = hN r l (some k) ∧ crD r l[k] = hD r l (some k) := by
  refine ⟨?_, ?_, ?_⟩
  · unfold cAt; rw [tAt_eq h]
  · show _ = crN r (tAt l k); rw [tAt_eq h]
  · show _ = crD r (tAt l k); rw [tAt_eq h]
theorem hit_cells {r : RI} {l : List TR} {s : Option Nat} {n d k : Int} {a b : Nat} {h1 : Sm a n} {h2 : Sm b d} {h3 : IR k} (e1 : n = hN r l s) (e2 : d = hD r l s) (e3 : k = hK s) (ρ : Rho) : cellsL ρ [.wid a n h1, .wid b d h2, .int k h3] = cellsL ρ (hitC r l s) := by subst e1 e2 e3; rfl
theorem hit_same {r : RI} {l : List TR} {s t : Option Nat} (e : s = t) (ρ : Rho) : cellsL ρ (hitC r l s) = cellsL ρ (hitC r l t) := by subst e; rfl
theorem cnt_y {r : RI} {l : List TR} {k : Nat} (h : k < l.length) (hc : crB r l[k] = true) (hk : k ≤ 1000000) : IntKind.i64.wrap ((cntK r l k : Nat) + 1) = ((cntK r l (k + 1) : Nat) : Int) := by
  rw [(cr_at h).1] at hc
  have := cntK_le r l k
  rw [cntK_s, if_pos hc, wrap_id (by unfold IR; omega)]
  omega
theorem cnt_n {r : RI} {l : List TR} {k : Nat} (h : k < l.length) (hc : crB r l[k] = false) : ((cntK r l k : Nat) : Int) = ((cntK r l (k + 1) : Nat) : Int) := by
  rw [(cr_at h).1] at hc
  rw [cntK_s, hc]; rfl
section
variable {r : RI} {l : List TR} {k : Nat} (h : k < l.length)
include h
theorem fw_n (hc : crB r l[k] = false) : fwd (cAt r l) (qAt r l) k = fwd (cAt r l) (qAt r l) (k + 1) := by
  rw [(cr_at h).1] at hc
  conv => rhs; unfold fwd
  rw [if_neg (by rw [hc]; decide)]
theorem fw_0 (hc : crB r l[k] = true) (hs : (!(fwd (cAt r l) (qAt r l) k).isSome) = true) : fwd (cAt r l) (qAt r l) (k + 1) = some k := by
  rw [(cr_at h).1] at hc
  unfold fwd
  rw [if_pos hc]
  cases he : fwd (cAt r l) (qAt r l) k with
  | none => rfl
  | some i => rw [he] at hs; cases hs
theorem fw_1 (hc : crB r l[k] = true) (hq : decide ((pN (crN r l[k]) (crD r l[k]) * pD (hD r l (fwd (cAt r l) (qAt r l) k)) - pN (hN r l (fwd (cAt r l) (qAt r l) k)) (hD r l (fwd (cAt r l) (qAt r l) k)) * pD (crD r l[k])).sign < 0) = true) : fwd (cAt r l) (qAt r l) (k + 1) = some k := by
  rw [cmpR_lt, (cr_at h).2.1, (cr_at h).2.2] at hq
  rw [(cr_at h).1] at hc
  unfold fwd
  rw [if_pos hc]
  cases he : fwd (cAt r l) (qAt r l) k with
  | none => rfl
  | some i => rw [he] at hq; exact if_pos (of_decide_eq_true hq)
theorem fw_2 (hs : (!(fwd (cAt r l) (qAt r l) k).isSome) = false) (hq : decide ((pN (crN r l[k]) (crD r l[k]) * pD (hD r l (fwd (cAt r l) (qAt r l) k)) - pN (hN r l (fwd (cAt r l) (qAt r l) k)) (hD r l (fwd (cAt r l) (qAt r l) k)) * pD (crD r l[k])).sign < 0) = false) : fwd (cAt r l) (qAt r l) k = fwd (cAt r l) (qAt r l) (k + 1) := by
  rw [cmpR_lt, (cr_at h).2.1, (cr_at h).2.2] at hq
  conv => rhs; unfold fwd
  cases he : fwd (cAt r l) (qAt r l) k with
  | none => rw [he] at hs; cases hs
  | some i =>
    rw [he] at hq
    have hq : ¬ qAt r l k < qAt r l i := of_decide_eq_false hq
    simp only
    rw [if_neg hq]
    split <;> rfl
end
section
variable {r : RI} {l : List TR} {j : Nat} (h : j < l.length)
include h
theorem bw_ix : l.length - j = (l.length - (j + 1)) + 1 ∧ l.length - 1 - (l.length - (j + 1)) = j := by omega
theorem bw_n (hc : crB r l[j] = false) : bwd (cAt r l) (qAt r l) l.length (l.length - (j + 1)) = bwd (cAt r l) (qAt r l) l.length (l.length - j) := by
  rw [(cr_at h).1] at hc
  obtain ⟨e1, e2⟩ := bw_ix h
  rw [e1]
  conv => rhs; unfold bwd
  rw [e2, if_neg (by rw [hc]; decide)]
theorem bw_0 (hc : crB r l[j] = true) (hs : (!(bwd (cAt r l) (qAt r l) l.length (l.length - (j + 1))).isSome) = true) : bwd (cAt r l) (qAt r l) l.length (l.length - j) = some j := by
  rw [(cr_at h).1] at hc
  obtain ⟨e1, e2⟩ := bw_ix h
  rw [e1]
  unfold bwd
  rw [e2, if_pos hc]
  cases he : bwd (cAt r l) (qAt r l) l.length (l.length - (j + 1)) with
  | none => rfl
  | some i => rw [he] at hs; cases hs
theorem bw_1 (hc : crB r l[j] = true) (hq : decide ((pN (crN r l[j]) (crD r l[j]) * pD (hD r l (bwd (cAt r l) (qAt r l) l.length (l.length - (j + 1)))) - pN (hN r l (bwd (cAt r l) (qAt r l) l.length (l.length - (j + 1)))) (hD r l (bwd (cAt r l) (qAt r l) l.length (l.length - (j + 1)))) * pD (crD r l[j])).sign ≤ 0) = true) : bwd (cAt r l) (qAt r l) l.length (l.length - j) = some j := by
  rw [cmpR_le, (cr_at h).2.1, (cr_at h).2.2] at hq
  rw [(cr_at h).1] at hc
  obtain ⟨e1, e2⟩ := bw_ix h
  rw [e1]
  unfold bwd
  rw [e2, if_pos hc]
  cases he : bwd (cAt r l) (qAt r l) l.length (l.length - (j + 1)) with
  | none => rfl
  | some i => rw [he] at hq; exact if_pos (of_decide_eq_true hq)
theorem bw_2 (hs : (!(bwd (cAt r l) (qAt r l) l.length (l.length - (j + 1))).isSome) = false) (hq : decide ((pN (crN r l[j]) (crD r l[j]) * pD (hD r l (bwd (cAt r l) (qAt r l) l.length (l.length - (j + 1)))) - pN (hN r l (bwd (cAt r l) (qAt r l) l.length (l.length - (j + 1)))) (hD r l (bwd (cAt r l) (qAt r l) l.length (l.length - (j + 1)))) * pD (crD r l[j])).sign ≤ 0) = false) : bwd (cAt r l) (qAt r l) l.length (l.length - (j + 1)) = bwd (cAt r l) (qAt r l) l.length (l.length - j) := by
  rw [cmpR_le, (cr_at h).2.1, (cr_at h).2.2] at hq
  obtain ⟨e1, e2⟩ := bw_ix h
  conv => rhs; rw [e1]; unfold bwd
  rw [e2]
  cases he : bwd (cAt r l) (qAt r l) l.length (l.length - (j + 1)) with
  | none => rw [he] at hs; cases hs
  | some i =>
    rw [he] at hq
    have hq : ¬ qAt r l j ≤ qAt r l i := of_decide_eq_false hq
    simp only
    rw [if_neg hq]
    split <;> rfl
end
theorem isSome_some {s : Option Nat} {k : Nat} (e : s = some k) : true = s.isSome := by rw [e]; rfl
theorem hK_some {k n : Nat} (h : k < n) (hn : n ≤ 1000000) : (k : Int) = hK (some k) := by show (k : Int) = ((min k 1000000 : Nat) : Int); omega
theorem lt_irT {nl : Bool} {k n cap : Nat} (h : SliOk nl n cap) (hk : k ≤ n) : IR k := by have := h.ir; unfold IR at *; omega
theorem pureL_trs2 (l : List TR) : PureL (trsC l) := trsC_pure l
theorem ir_pred {nl : Bool} {k n cap : Nat} (h : SliOk nl n cap) (hk : k ≤ n) : IR ((k : Int) - 1) := by have := h.ir; unfold IR at *; omega
theorem pred_eq (j : Nat) : ((j + 1 : Nat) : Int) - 1 = (j : Int) := by omega
theorem wrap_pr {x : Int} (h : IR x) : IntKind.i64.wrap x = x := wrap_id h
def frstS (r : RI) (l : List TR) : Option Nat := fwd (cAt r l) (qAt r l) l.length
def frstV (r : RI) (l : List TR) : SV := .tup [.agg (hitC r l (frstS r l)), .c (.val (.bool (frstS r l).isSome))]
def cntV (r : RI) (l : List TR) (h : l.length ≤ 1000000) : SV := .c (.int (cntK r l l.length : Nat) (ir_cnt r l h))
theorem frst_sv {r : RI} {l : List TR} {s t : Option Nat} (e : s = t) (ρ : Rho) : (SV.tup [.agg (hitC r l s), .c (.val (.bool s.isSome))]).den ρ = (SV.tup [.agg (hitC r l t), .c (.val (.bool t.isSome))]).den ρ := by subst e; rfl
set_option maxHeartbeats 16000000 in
theorem vcCountY (r : RI) (l : List TR) (ty : TypeId) (nl : Bool) (cap : Nat) (h1 : l.length ≤ 1000000) (hl : SliOk nl l.length cap) : vcF (envN 0 baseC [] fun _ => false) (mix [] (envN 0 baseC [] fun _ => false) noF 0) Tryd.f15 [.agg (riC r), .c (.sli nl 0 0 l.length cap hl)] [⟨ty, true, trsC l, 0⟩] fun u _ => ∀ ρ, u.den ρ = (cntV r l h1).den ρ := by
  conv => whnf
  refine loop_st (G := {k : Nat // k ≤ l.length} × (Nat → Value)) (fun g => (.c (.val (g.2 0)) :: .c (.val (g.2 1)) :: .c (.ptr 1 0) :: .c (.val (g.2 3)) :: .c (.val (g.2 4)) :: .c (.int (cntK r l g.1.1 : Nat) (ir_cnt r l (Nat.le_trans g.1.2 h1))) :: .c (.val (g.2 6)) :: .c (.val (g.2 7)) :: .c (.val (g.2 8)) :: .c (.val (g.2 9)) :: .c (.sli nl 0 0 l.length cap hl) :: .c (.int (l.length : Nat) hl.ir) :: .c (.int (g.1.1 : Nat) (lt_irT hl g.1.2)) :: .c (.val (g.2 13)) :: .c (.val (g.2 14)) :: .c (.val (g.2 15)) :: .c (.val (g.2 16)) :: .c (.val (g.2 17)) :: .c (.val (g.2 18)) :: .c (.val (g.2 19)) :: .c (.val (g.2 20)) :: .c (.val (g.2 21)) :: .c (.val (g.2 22)) :: .c (.val (g.2 23)) :: .c (.val (g.2 24)) :: .c (.val (g.2 25)) :: .c (.val (g.2 26)) :: [])) (fun g => [⟨ty, true, trsC l, 0⟩, ⟨24, false, riC r, 0⟩]) (fun g => l.length - g.1.1) ?_ ?_
  · refine ⟨[0, 1], [2, 5, 10, 11, 12], [0, 1], fun vs => ?_⟩
    conv => whnf
    refine ⟨pureL_trs2 l, fun _ _ => rfl, ?_⟩
    conv => whnf
    refine ⟨_, _, ?_, ?_, (⟨0, Nat.zero_le _⟩, vs), rfl, rfl⟩
    · exact stm _
    · exact ⟨⟨rfl, rfl, rfl, fun _ => rfl⟩, ⟨rfl, rfl, rfl, fun _ => rfl⟩, trivial⟩
  · rintro ⟨⟨k, hk⟩, vs⟩
    conv => whnf
    refine bcase_intro (fun hlt => ?_) (fun hlt => ?_)
    · have hlt : k < l.length := n_lt hlt
      conv => whnf
      conv =>
        arg 2
        tactic' =>
          apply eff_index_sli (ho := ?how1) (hT := ?hTw1) (hx := ?hxw1) (hk := ?hkw1) (hlt := ?hltw1)
          case how1 => rfl
          case hTw1 => rfl
          case hxw1 => rfl
          case hkw1 => rfl
          case hltw1 => exact hlt
      conv => whnf
      conv =>
        arg 2
        tactic' =>
          apply eff_load_sub (ho := ?how2) (hT := ?hTw2) (hx := ?hxw2) (hb := ?hbw2) (hm := ?hmw2) (hv := ?hvw2)
          case how2 => rfl
          case hTw2 => rfl
          case hxw2 => rfl
          case hbw2 => rfl
          case hmw2 => exact (by rw [Nat.zero_add]; exact subC_trs l hlt : subC (trsC l) (0 + k * 9) 9 = some (trC l[k]))
          case hvw2 => rfl
      conv => whnf
      refine bcase_intro (fun hc => ?_) (fun hc => ?_)
      · have hc : crB r l[k] = true := hc
        conv => whnf
        refine ⟨[0, 1], [2, 5, 10, 11, 12], [0, 1], fun vs2 => ?_⟩
        conv => whnf
        refine ⟨pureL_trs2 l, fun _ _ => rfl, ?_⟩
        conv => whnf
        refine ⟨_, _, ?_, ?_, (⟨k + 1, hlt⟩, vs2), (by omega : l.length - (k + 1) < l.length - k), rfl, rfl⟩
        · exact ⟨fun _ => rfl, fun _ => rfl, fun _ => rfl, fun _ => rfl, fun _ => rfl, fun ρ => sint_e (cnt_y hlt hc (Nat.le_trans hk h1)) ρ, fun _ => rfl, fun _ => rfl, fun _ => rfl, fun _ => rfl, fun _ => rfl, fun _ => rfl, fun ρ => sint_e (wrap_add1 hlt hl.ir) ρ, stm _⟩
        · exact ⟨⟨rfl, rfl, rfl, fun _ => rfl⟩, ⟨rfl, rfl, rfl, fun _ => rfl⟩, trivial⟩
      · have hc : crB r l[k] = false := hc
        conv => whnf
        refine ⟨[0, 1], [2, 5, 10, 11, 12], [0, 1], fun vs2 => ?_⟩
        conv => whnf
        refine ⟨pureL_trs2 l, fun _ _ => rfl, ?_⟩
        conv => whnf
        refine ⟨_, _, ?_, ?_, (⟨k + 1, hlt⟩, vs2), (by omega : l.length - (k + 1) < l.length - k), rfl, rfl⟩
        · exact ⟨fun _ => rfl, fun _ => rfl, fun _ => rfl, fun _ => rfl, fun _ => rfl, fun ρ => sint_e (cnt_n hlt hc) ρ, fun _ => rfl, fun _ => rfl, fun _ => rfl, fun _ => rfl, fun _ => rfl, fun _ => rfl, fun ρ => sint_e (wrap_add1 hlt hl.ir) ρ, stm _⟩
        · exact ⟨⟨rfl, rfl, rfl, fun _ => rfl⟩, ⟨rfl, rfl, rfl, fun _ => rfl⟩, trivial⟩
    · have e : k = l.length := Nat.le_antisymm hk (n_ge hlt)
      subst e
      conv => whnf
      exact fun ρ => rfl
set_option maxHeartbeats 16000000 in
theorem vcFirstY (r : RI) (l : List TR) (ty : TypeId) (nl : Bool) (cap : Nat) (h1 : l.length ≤ 1000000) (hl : SliOk nl l.length cap) : vcF (envN 0 baseC [] fun _ => false) (mix [] (envN 0 baseC [] fun _ => false) noF 0) Tryd.f14 [.agg (riC r), .c (.sli nl 0 0 l.length cap hl)] [⟨ty, true, trsC l, 0⟩] fun u _ => ∀ ρ, u.den ρ = (frstV r l).den ρ := by
  conv => whnf
  refine loop_st (G := {k : Nat // k ≤ l.length} × (Nat → Value)) (fun g => (.c (.val (g.2 0)) :: .c (.val (g.2 1)) :: .c (.ptr 1 0) :: .c (.val (g.2 3)) :: .c (.ptr 2 0) :: .c (.val (g.2 5)) :: .c (.ptr 3 0) :: .c (.val (.bool (fwd (cAt r l) (qAt r l) g.1.1).isSome)) :: .c (.val (g.2 8)) :: .c (.val (g.2 9)) :: .c (.val (g.2 10)) :: .c (.val (g.2 11)) :: .c (.val (g.2 12)) :: .c (.val (g.2 13)) :: .c (.sli nl 0 0 l.length cap hl) :: .c (.int (l.length : Nat) hl.ir) :: .c (.int (g.1.1 : Nat) (lt_irT hl g.1.2)) :: .c (.val (g.2 17)) :: .c (.val (g.2 18)) :: .c (.val (g.2 19)) :: .c (.val (g.2 20)) :: .c (.val (g.2 21)) :: .c (.val (g.2 22)) :: .c (.val (g.2 23)) :: .c (.val (g.2 24)) :: .c (.val (g.2 25)) :: .c (.val (g.2 26)) :: .c (.val (g.2 27)) :: .c (.val (g.2 28)) :: .c (.val (g.2 29)) :: .c (.val (g.2 30)) :: .c (.val (g.2 31)) :: .c (.val (g.2 32)) :: .c (.val (g.2 33)) :: .c (.val (g.2 34)) :: .c (.val (g.2 35)) :: .c (.val (g.2 36)) :: .c (.val (g.2 37)) :: .c (.val (g.2 38)) :: .c (.val (g.2 39)) :: .c (.val (g.2 40)) :: .c (.val (g.2 41)) :: .c (.val (g.2 42)) :: .c (.val (g.2 43)) :: .c (.val (g.2 44)) :: [])) (fun g => [⟨ty, true, trsC l, 0⟩, ⟨24, false, riC r, 0⟩, ⟨49, false, [zw, zw, zi], 0⟩, ⟨49, false, hitC r l (fwd (cAt r l) (qAt r l) g.1.1), 0⟩]) (fun g => l.length - g.1.1) ?_ ?_
  · refine ⟨[0, 1, 2, 3], [2, 4, 6, 7, 14, 15, 16], [0, 1, 2, 3], fun vs => ?_⟩
    conv => whnf
    refine ⟨pureL_trs2 l, fun _ _ => rfl, fun _ _ => rfl, fun _ _ => rfl, ?_⟩
    conv => whnf
    refine ⟨_, _, ?_, ?_, (⟨0, Nat.zero_le _⟩, vs), rfl, rfl⟩
    · exact stm _
    · exact ⟨⟨rfl, rfl, rfl, fun _ => rfl⟩, ⟨rfl, rfl, rfl, fun _ => rfl⟩, ⟨rfl, rfl, rfl, fun _ => rfl⟩, ⟨rfl, rfl, rfl, fun _ => rfl⟩, trivial⟩
  · rintro ⟨⟨k, hk⟩, vs⟩
    conv => whnf
    refine bcase_intro (fun hlt => ?_) (fun hlt => ?_)
    · have hlt : k < l.length := n_lt hlt
      conv => whnf
      conv =>
        arg 2
        tactic' =>
          apply eff_index_sli (ho := ?how5) (hT := ?hTw5) (hx := ?hxw5) (hk := ?hkw5) (hlt := ?hltw5)
          case how5 => rfl
          case hTw5 => rfl
          case hxw5 => rfl
          case hkw5 => rfl
          case hltw5 => exact hlt
      conv => whnf
      conv =>
        arg 2
        tactic' =>
          apply eff_load_sub (ho := ?how6) (hT := ?hTw6) (hx := ?hxw6) (hb := ?hbw6) (hm := ?hmw6) (hv := ?hvw6)
          case how6 => rfl
          case hTw6 => rfl
          case hxw6 => rfl
          case hbw6 => rfl
          case hmw6 => exact (by rw [Nat.zero_add]; exact subC_trs l hlt : subC (trsC l) (0 + k * 9) 9 = some (trC l[k]))
          case hvw6 => rfl
      conv => whnf
      refine bcase_intro (fun hc => ?_) (fun hc => ?_)
      · have hc : crB r l[k] = true := hc
        conv => whnf
        refine bcase_intro (fun h0 => ?_) (fun h0 => ?_)
        · conv => whnf
          refine ⟨[0, 1, 2, 3], [2, 4, 6, 7, 14, 15, 16], [0, 1, 2, 3], fun vs2 => ?_⟩
          conv => whnf
          refine ⟨pureL_trs2 l, fun _ _ => rfl, fun _ _ => rfl, fun _ _ => rfl, ?_⟩
          conv => whnf
          refine ⟨_, _, ?_, ?_, (⟨k + 1, hlt⟩, vs2), (by omega : l.length - (k + 1) < l.length - k), rfl, rfl⟩
          · exact ⟨fun _ => rfl, fun _ => rfl, fun _ => rfl, fun _ => rfl, fun _ => rfl, fun _ => rfl, fun _ => rfl, fun ρ => sbool_e (isSome_some (fw_0 hlt hc h0)) ρ, fun _ => rfl, fun _ => rfl, fun _ => rfl, fun _ => rfl, fun _ => rfl, fun _ => rfl, fun _ => rfl, fun _ => rfl, fun ρ => sint_e (wrap_add1 hlt hl.ir) ρ, stm _⟩
          · exact ⟨⟨rfl, rfl, rfl, fun _ => rfl⟩, ⟨rfl, rfl, rfl, fun _ => rfl⟩, ⟨rfl, rfl, rfl, fun _ => rfl⟩, ⟨rfl, rfl, rfl, fun ρ => hit_cells ((cr_at hlt).2.1.trans (congrArg (hN r l) (fw_0 hlt hc h0).symm)) ((cr_at hlt).2.2.trans (congrArg (hD r l) (fw_0 hlt hc h0).symm)) ((hK_some hlt h1).trans (congrArg hK (fw_0 hlt hc h0).symm)) ρ⟩, trivial⟩
        · conv => whnf
          refine bcase_intro (fun hq => ?_) (fun hq => ?_)
          · conv => whnf
            refine ⟨[0, 1, 2, 3], [2, 4, 6, 7, 14, 15, 16], [0, 1, 2, 3], fun vs2 => ?_⟩
            conv => whnf
            refine ⟨pureL_trs2 l, fun _ _ => rfl, fun _ _ => rfl, fun _ _ => rfl, ?_⟩
            conv => whnf
            refine ⟨_, _, ?_, ?_, (⟨k + 1, hlt⟩, vs2), (by omega : l.length - (k + 1) < l.length - k), rfl, rfl⟩
            · exact ⟨fun _ => rfl, fun _ => rfl, fun _ => rfl, fun _ => rfl, fun _ => rfl, fun _ => rfl, fun _ => rfl, fun ρ => sbool_e (isSome_some (fw_1 hlt hc hq)) ρ, fun _ => rfl, fun _ => rfl, fun _ => rfl, fun _ => rfl, fun _ => rfl, fun _ => rfl, fun _ => rfl, fun _ => rfl, fun ρ => sint_e (wrap_add1 hlt hl.ir) ρ, stm _⟩
            · exact ⟨⟨rfl, rfl, rfl, fun _ => rfl⟩, ⟨rfl, rfl, rfl, fun _ => rfl⟩, ⟨rfl, rfl, rfl, fun _ => rfl⟩, ⟨rfl, rfl, rfl, fun ρ => hit_cells ((cr_at hlt).2.1.trans (congrArg (hN r l) (fw_1 hlt hc hq).symm)) ((cr_at hlt).2.2.trans (congrArg (hD r l) (fw_1 hlt hc hq).symm)) ((hK_some hlt h1).trans (congrArg hK (fw_1 hlt hc hq).symm)) ρ⟩, trivial⟩
          · conv => whnf
            refine ⟨[0, 1, 2, 3], [2, 4, 6, 7, 14, 15, 16], [0, 1, 2, 3], fun vs2 => ?_⟩
            conv => whnf
            refine ⟨pureL_trs2 l, fun _ _ => rfl, fun _ _ => rfl, fun _ _ => rfl, ?_⟩
            conv => whnf
            refine ⟨_, _, ?_, ?_, (⟨k + 1, hlt⟩, vs2), (by omega : l.length - (k + 1) < l.length - k), rfl, rfl⟩
            · exact ⟨fun _ => rfl, fun _ => rfl, fun _ => rfl, fun _ => rfl, fun _ => rfl, fun _ => rfl, fun _ => rfl, fun ρ => sbool_e (congrArg Option.isSome (fw_2 hlt h0 hq)) ρ, fun _ => rfl, fun _ => rfl, fun _ => rfl, fun _ => rfl, fun _ => rfl, fun _ => rfl, fun _ => rfl, fun _ => rfl, fun ρ => sint_e (wrap_add1 hlt hl.ir) ρ, stm _⟩
            · exact ⟨⟨rfl, rfl, rfl, fun _ => rfl⟩, ⟨rfl, rfl, rfl, fun _ => rfl⟩, ⟨rfl, rfl, rfl, fun _ => rfl⟩, ⟨rfl, rfl, rfl, fun ρ => hit_same (fw_2 hlt h0 hq) ρ⟩, trivial⟩
      · have hc : crB r l[k] = false := hc
        conv => whnf
        refine ⟨[0, 1, 2, 3], [2, 4, 6, 7, 14, 15, 16], [0, 1, 2, 3], fun vs2 => ?_⟩
        conv => whnf
        refine ⟨pureL_trs2 l, fun _ _ => rfl, fun _ _ => rfl, fun _ _ => rfl, ?_⟩
        conv => whnf
        refine ⟨_, _, ?_, ?_, (⟨k + 1, hlt⟩, vs2), (by omega : l.length - (k + 1) < l.length - k), rfl, rfl⟩
        · exact ⟨fun _ => rfl, fun _ => rfl, fun _ => rfl, fun _ => rfl, fun _ => rfl, fun _ => rfl, fun _ => rfl, fun ρ => sbool_e (congrArg Option.isSome (fw_n hlt hc)) ρ, fun _ => rfl, fun _ => rfl, fun _ => rfl, fun _ => rfl, fun _ => rfl, fun _ => rfl, fun _ => rfl, fun _ => rfl, fun ρ => sint_e (wrap_add1 hlt hl.ir) ρ, stm _⟩
        · exact ⟨⟨rfl, rfl, rfl, fun _ => rfl⟩, ⟨rfl, rfl, rfl, fun _ => rfl⟩, ⟨rfl, rfl, rfl, fun _ => rfl⟩, ⟨rfl, rfl, rfl, fun ρ => hit_same (fw_n hlt hc) ρ⟩, trivial⟩
    · have e : k = l.length := Nat.le_antisymm hk (n_ge hlt)
      subst e
      conv => whnf
      exact fun ρ => rfl
def dCnt : Dr
  | [.agg [.int rx hrx, .int ry hry, .int rz hrz, .int rw hrw, .int d0 hd0, .int d1 hd1, .int d2 hd2], .c (.sli _ b off len _ _)], hf => (match hf b, off with
    | some blk, 0 => (match toTrs blk.cs with
      | some l => if h : l.length = len ∧ l.length ≤ 1000000 then some (none, cntV ⟨rx, ry, rz, rw, d0, d1, d2, hrx, hry, hrz, hrw, hd0, hd1, hd2⟩ l h.2) else none
      | none => none)
    | _, _ => none)
  | _, _ => none
def dFst : Dr
  | [.agg [.int rx hrx, .int ry hry, .int rz hrz, .int rw hrw, .int d0 hd0, .int d1 hd1, .int d2 hd2], .c (.sli _ b off len _ _)], hf => (match hf b, off with
    | some blk, 0 => (match toTrs blk.cs with
      | some l => if l.length = len ∧ l.length ≤ 1000000 then some (none, frstV ⟨rx, ry, rz, rw, d0, d1, d2, hrx, hry, hrz, hrw, hd0, hd1, hd2⟩ l) else none
      | none => none)
    | _, _ => none)
  | _, _ => none
theorem spCountY : SpR Tryd.prog 15 dCnt := by
  refine ⟨(⟨Tryd.func15, by kernel_rfl, by kernel_rfl⟩ : FnOk Tryd.prog 15 Tryd.f15).callable, fun args hf p v hd => ?_⟩
  unfold dCnt at hd
  split at hd
  · rename_i rx hrx ry hry rz hrz rw hrw d0 hd0 d1 hd1 d2 hd2 nl b off len cap hl
    split at hd
    · rename_i blk hb
      split at hd
      · rename_i l hpl
        split at hd
        · rename_i hlen
          cases hd
          obtain ⟨rfl, h1⟩ := hlen
          have hcs := toTrs_ok hpl
          refine ⟨fun _ _ => rfl, fun _ ρ w hh => ?_⟩
          have hH := (hh b blk hb).1
          rw [hcs] at hH
          have hv := vcCountY ⟨rx, ry, rz, rw, d0, d1, d2, hrx, hry, hrz, hrw, hd0, hd1, hd2⟩ l blk.ty nl cap h1 hl
          refine read_okH (envN_ok baseC_ok .nil 0 fun _ => false) mixed (mix_ok .nil (envN_ok baseC_ok .nil 0 fun _ => false) mixed noF_ok 0) ⟨Tryd.func15, by kernel_rfl, by kernel_rfl⟩ (fun _ _ => rfl) (fun i c hi => ?_) (fun _ => ρ b) (fun ρ' hρ => ?_) hv w (fun i c hi => ?_)
          · cases i with
            | zero => simp [nthO] at hi; subst hi; exact ⟨rfl, trsC_pure l⟩
            | succ i => simp [nthO] at hi
          · have := hρ 0 rfl
            simp only [List.map_cons, List.map_nil, SV.den, C.den, C.cells, this]
            rfl
          · cases i with
            | zero => simp [nthO] at hi; subst hi; rw [trsC_pure l (fun _ => ρ b) ρ]; exact hH
            | succ i => simp [nthO] at hi
        · cases hd
      · cases hd
    · cases hd
  · cases hd
theorem spFirstY : SpR Tryd.prog 14 dFst := by
  refine ⟨(⟨Tryd.func14, by kernel_rfl, by kernel_rfl⟩ : FnOk Tryd.prog 14 Tryd.f14).callable, fun args hf p v hd => ?_⟩
  unfold dFst at hd
  split at hd
  · rename_i rx hrx ry hry rz hrz rw hrw d0 hd0 d1 hd1 d2 hd2 nl b off len cap hl
    split at hd
    · rename_i blk hb
      split at hd
      · rename_i l hpl
        split at hd
        · rename_i hlen
          cases hd
          obtain ⟨rfl, h1⟩ := hlen
          have hcs := toTrs_ok hpl
          refine ⟨fun _ _ => rfl, fun _ ρ w hh => ?_⟩
          have hH := (hh b blk hb).1
          rw [hcs] at hH
          have hv := vcFirstY ⟨rx, ry, rz, rw, d0, d1, d2, hrx, hry, hrz, hrw, hd0, hd1, hd2⟩ l blk.ty nl cap h1 hl
          refine read_okH (envN_ok baseC_ok .nil 0 fun _ => false) mixed (mix_ok .nil (envN_ok baseC_ok .nil 0 fun _ => false) mixed noF_ok 0) ⟨Tryd.func14, by kernel_rfl, by kernel_rfl⟩ (fun _ _ => rfl) (fun i c hi => ?_) (fun _ => ρ b) (fun ρ' hρ => ?_) hv w (fun i c hi => ?_)
          · cases i with
            | zero => simp [nthO] at hi; subst hi; exact ⟨rfl, trsC_pure l⟩
            | succ i => simp [nthO] at hi
          · have := hρ 0 rfl
            simp only [List.map_cons, List.map_nil, SV.den, C.den, C.cells, this]
            rfl
          · cases i with
            | zero => simp [nthO] at hi; subst hi; rw [trsC_pure l (fun _ => ρ b) ρ]; exact hH
            | succ i => simp [nthO] at hi
        · cases hd
      · cases hd
    · cases hd
  · cases hd
end Go.Proofs.YtefgchmbdijjdaaDoor

namespace Go.Proofs.YtefgchmbdijjdaaDoor
open Go.RowKit
set_option maxRecDepth 100000

theorem V3.ext' {a b : V3} (h1 : a.x = b.x) (h2 : a.y = b.y) (h3 : a.z = b.z) : a = b := by cases a; cases b; simp_all
theorem norm_rot (p q s : V3) : normZ q s p = normZ p q s := by
  apply V3.ext' <;> simp only [normZ, V3.sub, V3.cross] <;> grind
theorem norm_rev (p q s : V3) : normZ q p s = (normZ p q s).neg := by
  apply V3.ext' <;> simp only [normZ, V3.sub, V3.cross, V3.neg] <;> grind
theorem neg_neg3 (v : V3) : v.neg.neg = v := by
  apply V3.ext' <;> simp only [V3.neg] <;> omega
theorem isZ_neg (v : V3) : v.neg.isZ = v.isZ := by
  have e : ∀ x : Int, decide (0 - x = 0) = decide (x = 0) := fun x => decide_eq_decide.2 (by omega)
  show (decide (0 - v.x = 0) && (decide (0 - v.y = 0) && decide (0 - v.z = 0))) = _
  rw [e, e, e]; rfl
theorem high_rot (r : RZ) (p q s : V3) : highZ r q s p = highZ r p q s := by
  unfold highZ; rw [norm_rot]
  simp only [normZ, V3.sub, V3.cross, V3.dot, RZ.at]; grind
theorem high_rev (r : RZ) (p q s : V3) : highZ r q p s = -highZ r p q s := by
  unfold highZ; rw [norm_rev]
  simp only [normZ, V3.sub, V3.cross, V3.dot, V3.neg, RZ.at]; grind
theorem slope_rot (r : RZ) (p q s : V3) : slopeZ r q s p = slopeZ r p q s := by unfold slopeZ; rw [norm_rot]
theorem slope_rev (r : RZ) (p q s : V3) : slopeZ r q p s = -slopeZ r p q s := by
  unfold slopeZ; rw [norm_rev]; simp only [V3.dot, V3.neg]; grind
theorem sgL_c (x : Int) (l : List Int) : sgL (x :: l) = if x.sign = 0 then sgL l else x.sign := rfl
theorem sgL_neg : ∀ l : List Int, sgL (l.map fun x => -x) = -sgL l
  | [] => rfl
  | x :: l => by
    rw [List.map_cons, sgL_c, sgL_c, Int.sign_neg, sgL_neg l]
    by_cases h : x.sign = 0
    · rw [if_pos h, if_pos (by omega)]
    · rw [if_neg h, if_neg (by omega)]
theorem sgV_neg {n m : Int} {v u : V3} (h0 : m = -n) (h1 : u.x = -v.x) (h2 : u.y = -v.y) (h3 : u.z = -v.z) : sgV m u = -sgV n v := by
  have := sgL_neg [n, v.x, v.y, v.z]
  unfold sgV
  rw [h0, h1, h2, h3]
  exact this
theorem side_rev (d a b : V3) : sideZ d b a = -sideZ d a b := by
  unfold sideZ
  apply sgV_neg <;> simp only [V3.dot, V3.cross, V3.sub] <;> grind
theorem pass_iff (d a b c : V3) : passZ d a b c = true ↔ sideZ d a b ≠ 0 ∧ sideZ d b c = sideZ d a b ∧ sideZ d c a = sideZ d a b := by
  unfold passZ; simp only [Bool.and_eq_true, decide_eq_true_eq]
theorem pass_rot (d a b c : V3) : passZ d b c a = passZ d a b c := by
  rw [Bool.eq_iff_iff, pass_iff, pass_iff]
  constructor
  · rintro ⟨h1, h2, h3⟩; exact ⟨fun e => h1 (by omega), by omega, by omega⟩
  · rintro ⟨h1, h2, h3⟩; exact ⟨fun e => h1 (by omega), by omega, by omega⟩
theorem pass_rev (d a b c : V3) : passZ d b a c = passZ d a b c := by
  rw [Bool.eq_iff_iff, pass_iff, pass_iff, side_rev d a b, side_rev d c a, side_rev d b c]
  constructor
  · rintro ⟨h1, h2, h3⟩; exact ⟨fun e => h1 (by omega), by omega, by omega⟩
  · rintro ⟨h1, h2, h3⟩; exact ⟨fun e => h1 (by omega), by omega, by omega⟩
theorem crossB_rot (r : RZ) (p q s : V3) : crossB r q s p = crossB r p q s := by
  unfold crossB; rw [norm_rot, pass_rot, high_rot, slope_rot]
theorem crossB_rev (r : RZ) (p q s : V3) : crossB r q p s = crossB r p q s := by
  unfold crossB; rw [norm_rev, isZ_neg, pass_rev]
  have e : decide (sgV (highZ r q p s) (normZ p q s).neg.neg = (slopeZ r q p s).sign) = decide (sgV (highZ r p q s) (normZ p q s).neg = (slopeZ r p q s).sign) := by
    have h1 : sgV (highZ r q p s) (normZ p q s).neg.neg = -sgV (highZ r p q s) (normZ p q s).neg := by
      apply sgV_neg (high_rev r p q s) <;> simp only [V3.neg] <;> omega
    rw [h1, slope_rev, Int.sign_neg]
    exact decide_eq_decide.2 (by omega)
  rw [e]
theorem frac_negneg (n d : Int) : fracN (-n) (-d) = fracN n d ∧ fracD (-n) (-d) = fracD n d := by
  by_cases h : d = 0
  · subst h; unfold fracN fracD; simp
  · obtain ⟨h1, h2⟩ := frac_rat (n := n) h
    obtain ⟨h3, h4⟩ := frac_rat (n := -n) (d := -d) (by omega)
    have e : ((-n : Int) : Rat) / ((-d : Int) : Rat) = (n : Rat) / (d : Rat) := by
      rw [← Rat.divInt_eq_div, ← Rat.divInt_eq_div, Rat.neg_divInt_neg]
    rw [h1, h2, h3, h4, e]; exact ⟨rfl, rfl⟩
theorem cross_rot (r : RZ) (p q s : V3) : crossN r q s p = crossN r p q s ∧ crossD r q s p = crossD r p q s := by
  unfold crossN crossD; rw [crossB_rot, high_rot, slope_rot]; exact ⟨rfl, rfl⟩
theorem cross_rev (r : RZ) (p q s : V3) : crossN r q p s = crossN r p q s ∧ crossD r q p s = crossD r p q s := by
  unfold crossN crossD; rw [crossB_rev, high_rev, slope_rev]
  have := frac_negneg (highZ r p q s) (r.w * slopeZ r p q s)
  rw [Int.mul_neg, this.1, this.2]; exact ⟨rfl, rfl⟩
theorem cross_flat (r : RZ) (p q : V3) : crossB r p q q = false := by
  have h : (normZ p q q).isZ = true := by
    unfold V3.isZ normZ V3.sub V3.cross
    simp only [Bool.and_eq_true, decide_eq_true_eq]
    refine ⟨?_, ?_, ?_⟩ <;> grind
  unfold crossB; rw [h]; simp
theorem cross_noperm {r : RZ} (p q s : V3) (h : permZ r = false) : crossB r p q s = false := by unfold crossB; rw [h]; rfl
theorem perm_dir0 {r : RZ} (h : r.d = ⟨0, 0, 0⟩) : permZ r = false := by unfold permZ; rw [h]; simp [V3.isZ]
theorem perm_w0 {r : RZ} (h : r.w ≤ 0) : permZ r = false := by unfold permZ; rw [decide_eq_false (by omega)]; rfl
/-! scaling -/
theorem sgV_scale {n m : Int} {v u : V3} (h0 : n.sign = m.sign) (h1 : v.x.sign = u.x.sign) (h2 : v.y.sign = u.y.sign) (h3 : v.z.sign = u.z.sign) : sgV n v = sgV m u := by
  unfold sgV; rw [sgL_c, sgL_c, sgL_c, sgL_c, sgL_c, sgL_c, sgL_c, sgL_c, h0, h1, h2, h3]
theorem sign_mp {a x : Int} (ha : 0 < a) : (a * x).sign = x.sign := by rw [Int.sign_mul, Int.sign_eq_one_of_pos ha, Int.one_mul]
theorem sign_of {x y a : Int} (ha : 0 < a) (h : x = a * y) : x.sign = y.sign := by rw [h, sign_mp ha]
def sclR (a : Int) (r : RZ) : RZ := ⟨r.x * a, r.y * a, r.z * a, r.w * a, r.d⟩
def sclD (b : Int) (r : RZ) : RZ := ⟨r.x, r.y, r.z, r.w, ⟨r.d.x * b, r.d.y * b, r.d.z * b⟩⟩
theorem high_sclR (a : Int) (r : RZ) (p q s : V3) : highZ (sclR a r) p q s = a * highZ r p q s := by
  simp only [highZ, sclR, RZ.at, V3.dot]; grind
theorem slope_sclD (a : Int) (r : RZ) (p q s : V3) : slopeZ (sclD a r) p q s = a * slopeZ r p q s := by
  simp only [slopeZ, sclD, V3.dot]; grind
section
variable {a : Int} (ha : 0 < a)
include ha
theorem side_sclR (r : RZ) (p q : V3) : sideZ r.d ((sclR a r).at p) ((sclR a r).at q) = sideZ r.d (r.at p) (r.at q) := by
  unfold sideZ
  have haa : 0 < a * a := Int.mul_pos ha ha
  refine sgV_scale (sign_of haa ?_) (sign_of ha ?_) (sign_of ha ?_) (sign_of ha ?_) <;> simp only [sclR, RZ.at, V3.dot, V3.cross, V3.sub] <;> grind
theorem perm_sclR (r : RZ) : permZ (sclR a r) = permZ r := by
  unfold permZ sclR
  have : decide (0 < r.w * a) = decide (0 < r.w) := decide_eq_decide.2 ⟨fun h => by
    rcases Int.lt_trichotomy r.w 0 with h1 | h1 | h1
    · have := Int.mul_neg_of_neg_of_pos h1 ha; omega
    · rw [h1] at h; omega
    · exact h1, fun h => Int.mul_pos h ha⟩
  simp only [this]
theorem crossB_sclR (r : RZ) (p q s : V3) : crossB (sclR a r) p q s = crossB r p q s := by
  unfold crossB
  rw [perm_sclR ha]
  have h1 : passZ (sclR a r).d ((sclR a r).at p) ((sclR a r).at q) ((sclR a r).at s) = passZ r.d (r.at p) (r.at q) (r.at s) := by
    show passZ r.d _ _ _ = _
    unfold passZ; rw [side_sclR ha, side_sclR ha, side_sclR ha]
  have h2 : sgV (highZ (sclR a r) p q s) (normZ p q s).neg = sgV (highZ r p q s) (normZ p q s).neg := by
    refine sgV_scale ?_ rfl rfl rfl; rw [high_sclR, sign_mp ha]
  rw [h1, h2]; rfl
theorem frac_scl (n d : Int) : fracN (a * n) (a * d) = fracN n d ∧ fracD (a * n) (a * d) = fracD n d := by
  by_cases h : d = 0
  · subst h; unfold fracN fracD; simp
  · obtain ⟨h1, h2⟩ := frac_rat (n := n) h
    obtain ⟨h3, h4⟩ := frac_rat (n := a * n) (d := a * d) (Int.mul_ne_zero (by omega) h)
    have e : ((a * n : Int) : Rat) / ((a * d : Int) : Rat) = (n : Rat) / (d : Rat) := by
      rw [← Rat.divInt_eq_div, ← Rat.divInt_eq_div, Rat.divInt_mul_left (by omega)]
    rw [h1, h2, h3, h4, e]; exact ⟨rfl, rfl⟩
theorem cross_sclR (r : RZ) (p q s : V3) : crossN (sclR a r) p q s = crossN r p q s ∧ crossD (sclR a r) p q s = crossD r p q s := by
  unfold crossN crossD
  rw [crossB_sclR ha, high_sclR]
  have e : (sclR a r).w * slopeZ (sclR a r) p q s = a * (r.w * slopeZ r p q s) := by
    show r.w * a * slopeZ r p q s = _; grind
  rw [e, (frac_scl ha _ _).1, (frac_scl ha _ _).2]; exact ⟨rfl, rfl⟩
theorem side_sclD (r : RZ) (A B : V3) : sideZ (sclD a r).d A B = sideZ r.d A B := by
  unfold sideZ
  refine sgV_scale (sign_of ha ?_) (sign_of ha ?_) (sign_of ha ?_) (sign_of ha ?_) <;> simp only [sclD, V3.dot, V3.cross, V3.sub] <;> grind
theorem perm_sclD (r : RZ) : permZ (sclD a r) = permZ r := by
  have e : ∀ x : Int, decide (x * a = 0) = decide (x = 0) := fun x => decide_eq_decide.2 ⟨fun h => (Int.mul_eq_zero.1 h).resolve_right (by omega), fun h => by rw [h, Int.zero_mul]⟩
  unfold permZ sclD V3.isZ
  simp only [e]
theorem crossB_sclD (r : RZ) (p q s : V3) : crossB (sclD a r) p q s = crossB r p q s := by
  unfold crossB
  rw [perm_sclD ha]
  have h1 : passZ (sclD a r).d ((sclD a r).at p) ((sclD a r).at q) ((sclD a r).at s) = passZ r.d (r.at p) (r.at q) (r.at s) := by
    unfold passZ; rw [side_sclD ha, side_sclD ha, side_sclD ha]; rfl
  rw [h1, slope_sclD, sign_mp ha]; rfl
theorem cross_sclD (r : RZ) (p q s : V3) : crossN (sclD a r) p q s = (if crossB r p q s then fracN (highZ r p q s) (a * (r.w * slopeZ r p q s)) else 0) ∧ crossD (sclD a r) p q s = (if crossB r p q s then fracD (highZ r p q s) (a * (r.w * slopeZ r p q s)) else 1) := by
  unfold crossN crossD
  rw [crossB_sclD ha, slope_sclD]
  have e : (sclD a r).w * (a * slopeZ r p q s) = a * (r.w * slopeZ r p q s) := by
    show r.w * (a * slopeZ r p q s) = _; grind
  rw [e]; exact ⟨rfl, rfl⟩
end
end Go.Proofs.YtefgchmbdijjdaaDoor

namespace Go.Proofs.YtefgchmbdijjdaaDoor
open Go.RowKit
set_option maxRecDepth 100000

/-- the small steps as one number -/
def fM (M n : Int) (v : V3) : Int := ((n * M + v.x) * M + v.y) * M + v.z
theorem sign_big {M a b : Int} (hb : b.natAbs < M.natAbs) (hM : 0 < M) : (a * M + b).sign = if a.sign = 0 then b.sign else a.sign := by
  rcases Int.lt_trichotomy a 0 with h | h | h
  · have h1 : a * M ≤ -M := by
      have := Int.mul_le_mul_of_nonneg_right (show a ≤ -1 by omega) (show 0 ≤ M by omega)
      omega
    rw [Int.sign_eq_neg_one_of_neg h, Int.sign_eq_neg_one_of_neg (by omega)]; rfl
  · subst h; simp
  · have h1 : M ≤ a * M := by
      have := Int.mul_le_mul_of_nonneg_right (show 1 ≤ a by omega) (show 0 ≤ M by omega)
      omega
    rw [Int.sign_eq_one_of_pos h, Int.sign_eq_one_of_pos (by omega)]; rfl
/-- M is large enough for a side -/
def bigM (M : Int) (v : V3) : Prop := 0 < M ∧ v.x.natAbs < M.natAbs ∧ v.y.natAbs < M.natAbs ∧ v.z.natAbs < M.natAbs
theorem sgV_fM {M n : Int} {v : V3} (h : bigM M v) : sgV n v = (fM M n v).sign := by
  obtain ⟨hM, h1, h2, h3⟩ := h
  unfold sgV fM
  rw [sign_big h3 hM, sign_big h2 hM, sign_big h1 hM, sgL_c, sgL_c, sgL_c, sgL_c]
  by_cases e1 : n.sign = 0
  · rw [if_pos e1, if_pos e1]
    by_cases e2 : v.x.sign = 0
    · rw [if_pos e2, if_pos e2]
      by_cases e3 : v.y.sign = 0
      · rw [if_pos e3, if_pos e3]
        by_cases e4 : v.z.sign = 0
        · rw [if_pos e4, e4]; rfl
        · rw [if_neg e4]
      · rw [if_neg e3, if_neg e3]
    · rw [if_neg e2, if_neg e2, if_neg e2]
  · rw [if_neg e1, if_neg e1, if_neg e1, if_neg e1]
/-- the side of an edge, as a number -/
def sM (M : Int) (d A B : V3) : Int := fM M (d.dot (A.cross B)) (d.cross (B.sub A))
def sumA (v : V3) : Nat := v.x.natAbs + v.y.natAbs + v.z.natAbs
def bigMs (M : Int) (d : V3) (l : List V3) : Prop := ∀ a ∈ l, ∀ b ∈ l, bigM M (d.cross (b.sub a))
theorem exists_big (d : V3) (l : List V3) : ∃ M, bigMs M d l := by
  have : ∀ l' : List (V3 × V3), ∃ N : Nat, 0 < N ∧ ∀ p ∈ l', sumA (d.cross (p.2.sub p.1)) < N := by
    intro l'
    induction l' with
    | nil => exact ⟨1, by decide, fun _ h => nomatch h⟩
    | cons p l' ih =>
      obtain ⟨N, hN, h⟩ := ih
      refine ⟨N + sumA (d.cross (p.2.sub p.1)) + 1, by omega, fun q hq => ?_⟩
      rcases List.mem_cons.1 hq with rfl | hq
      · omega
      · have := h q hq; omega
  obtain ⟨N, hN, h⟩ := this (l.flatMap fun a => l.map fun b => (a, b))
  refine ⟨(N : Int), fun a ha b hb => ?_⟩
  have := h (a, b) (List.mem_flatMap.2 ⟨a, ha, List.mem_map.2 ⟨b, hb, rfl⟩⟩)
  unfold sumA at this
  simp only at this
  refine ⟨by omega, ?_, ?_, ?_⟩ <;> omega
theorem side_sM {M : Int} {d : V3} {l : List V3} (h : bigMs M d l) {A B : V3} (ha : A ∈ l) (hb : B ∈ l) : sideZ d A B = (sM M d A B).sign := sgV_fM (h A ha B hb)
theorem sM_zero {M : Int} {d : V3} {l : List V3} (h : bigMs M d l) {A B : V3} (ha : A ∈ l) (hb : B ∈ l) (h0 : sM M d A B = 0) : (d.cross (B.sub A)).x = 0 ∧ (d.cross (B.sub A)).y = 0 ∧ (d.cross (B.sub A)).z = 0 := by
  obtain ⟨hM, h1, h2, h3⟩ := h A ha B hb
  unfold sM fM at h0
  have e3 := sign_big (a := (d.dot (A.cross B) * M + (d.cross (B.sub A)).x) * M + (d.cross (B.sub A)).y) h3 hM
  have e2 := sign_big (a := d.dot (A.cross B) * M + (d.cross (B.sub A)).x) h2 hM
  have e1 := sign_big (a := d.dot (A.cross B)) h1 hM
  generalize (d.cross (B.sub A)).x = vx at *
  generalize (d.cross (B.sub A)).y = vy at *
  generalize (d.cross (B.sub A)).z = vz at *
  generalize d.dot (A.cross B) = n at *
  rw [h0] at e3
  have k0 : (0 : Int).sign = 0 := rfl
  rw [k0] at e3
  have f1 : ((n * M + vx) * M + vy).sign = 0 := by
    by_cases h : ((n * M + vx) * M + vy).sign = 0
    · exact h
    · rw [if_neg h] at e3; exact e3.symm
  rw [if_pos f1] at e3
  have f2 : (n * M + vx).sign = 0 := by
    by_cases h : (n * M + vx).sign = 0
    · exact h
    · rw [if_neg h, f1] at e2; exact e2.symm
  rw [if_pos f2, f1] at e2
  have f3 : n.sign = 0 := by
    by_cases h : n.sign = 0
    · exact h
    · rw [if_neg h, f2] at e1; exact e1.symm
  rw [if_pos f3, f2] at e1
  exact ⟨Int.sign_eq_zero_iff_zero.1 e1.symm, Int.sign_eq_zero_iff_zero.1 e2.symm, Int.sign_eq_zero_iff_zero.1 e3.symm⟩
/-- a line passes a triangle, by numbers -/
theorem pass_M {M : Int} {d : V3} {l : List V3} (h : bigMs M d l) {A B C : V3} (ha : A ∈ l) (hb : B ∈ l) (hc : C ∈ l) : passZ d A B C = true ↔ (0 < sM M d A B ∧ 0 < sM M d B C ∧ 0 < sM M d C A) ∨ (sM M d A B < 0 ∧ sM M d B C < 0 ∧ sM M d C A < 0) := by
  rw [pass_iff, side_sM h ha hb, side_sM h hb hc, side_sM h hc ha]
  generalize sM M d A B = x
  generalize sM M d B C = y
  generalize sM M d C A = z
  have sg : ∀ x : Int, (x < 0 ∧ x.sign = -1) ∨ (x = 0 ∧ x.sign = 0) ∨ (0 < x ∧ x.sign = 1) := fun x => by
    rcases Int.lt_trichotomy x 0 with h | h | h
    · exact .inl ⟨h, Int.sign_eq_neg_one_of_neg h⟩
    · subst h; exact .inr (.inl ⟨rfl, rfl⟩)
    · exact .inr (.inr ⟨h, Int.sign_eq_one_of_pos h⟩)
  have h1 := sg x; have h2 := sg y; have h3 := sg z
  generalize x.sign = sx at *
  generalize y.sign = sy at *
  generalize z.sign = sz at *
  omega
structure Mid (K a b c : Int) (o p q s : V3) : Prop where
  ha : 0 ≤ a
  hb : 0 ≤ b
  hc : 0 ≤ c
  hK : K = a + b + c
  hp : 0 < K
  x : K * o.x = a * p.x + b * q.x + c * s.x
  y : K * o.y = a * p.y + b * q.y + c * s.y
  z : K * o.z = a * p.z + b * q.z + c * s.z
def restB (r : RZ) (p q s : V3) : Bool := permZ r && (!(normZ p q s).isZ && decide (sgV (highZ r p q s) (normZ p q s).neg = (slopeZ r p q s).sign))
theorem cross_rest (r : RZ) (p q s : V3) : crossB r p q s = (restB r p q s && passZ r.d (r.at p) (r.at q) (r.at s)) := by
  unfold crossB restB
  cases permZ r <;> cases (normZ p q s).isZ <;> cases passZ r.d (r.at p) (r.at q) (r.at s) <;> simp
theorem sign_KG {K g x y : Int} (hK : 0 < K) (hg : 0 < g) (h : K * x = g * y) : x.sign = y.sign := by
  have := congrArg Int.sign h
  rwa [Int.sign_mul, Int.sign_mul, Int.sign_eq_one_of_pos hK, Int.sign_eq_one_of_pos hg, Int.one_mul, Int.one_mul] at this
theorem zero_KG {K g x y : Int} (hK : 0 < K) (hg : 0 < g) (h : K * x = g * y) : decide (x = 0) = decide (y = 0) := decide_eq_decide.2 ⟨fun e => by
    rw [e, Int.mul_zero] at h; exact (Int.mul_eq_zero.1 h.symm).resolve_left (by omega), fun e => by
    rw [e, Int.mul_zero] at h; exact (Int.mul_eq_zero.1 h).resolve_left (by omega)⟩
section
variable {r : RZ} {p q s p' q' s' : V3} {K g : Int} (hK : 0 < K) (hx : K * (normZ p' q' s').x = g * (normZ p q s).x) (hy : K * (normZ p' q' s').y = g * (normZ p q s).y) (hz : K * (normZ p' q' s').z = g * (normZ p q s).z)
  (hh : K * highZ r p' q' s' = g * highZ r p q s)
include hx hy hz
theorem slope_KG : K * slopeZ r p' q' s' = g * slopeZ r p q s := by
  unfold slopeZ V3.dot; grind
include hK
theorem rest_zero (hg : g = 0) : restB r p' q' s' = false := by
  have h : (normZ p' q' s').isZ = true := by
    subst hg
    rw [Int.zero_mul] at hx hy hz
    unfold V3.isZ
    rw [decide_eq_true ((Int.mul_eq_zero.1 hx).resolve_left (by omega)), decide_eq_true ((Int.mul_eq_zero.1 hy).resolve_left (by omega)), decide_eq_true ((Int.mul_eq_zero.1 hz).resolve_left (by omega))]; rfl
  unfold restB; rw [h]; simp
include hh
theorem rest_same (hg : 0 < g) : restB r p' q' s' = restB r p q s := by
  unfold restB V3.isZ
  rw [zero_KG hK hg hx, zero_KG hK hg hy, zero_KG hK hg hz, sign_KG hK hg (slope_KG hx hy hz)]
  have e : sgV (highZ r p' q' s') (normZ p' q' s').neg = sgV (highZ r p q s) (normZ p q s).neg := by
    refine sgV_scale (sign_KG hK hg hh) (sign_KG hK hg ?_) (sign_KG hK hg ?_) (sign_KG hK hg ?_) <;> simp only [V3.neg] <;> grind
  rw [e]
theorem cross_same (hg : 0 < g) (h1 : crossB r p q s = true) (h2 : crossB r p' q' s' = true) : crossN r p' q' s' = crossN r p q s ∧ crossD r p' q' s' = crossD r p q s := by
  have hs := slope_KG (r := r) hx hy hz
  have n1 := slope_nz h1
  have n2 := slope_nz h2
  have hw : r.w ≠ 0 := by
    unfold crossB permZ at h1
    intro e; rw [e] at h1; cases h1
  unfold crossN crossD
  rw [h1, h2, if_pos rfl, if_pos rfl, if_pos rfl, if_pos rfl]
  have k1 := frac_rat (n := highZ r p q s) (Int.mul_ne_zero hw n1)
  have k2 := frac_rat (n := highZ r p' q' s') (Int.mul_ne_zero hw n2)
  have e : (highZ r p' q' s' : Rat) / ((r.w * slopeZ r p' q' s' : Int) : Rat) = (highZ r p q s : Rat) / ((r.w * slopeZ r p q s : Int) : Rat) := by
    rw [← Rat.divInt_eq_div, ← Rat.divInt_eq_div, Rat.divInt_eq_divInt_iff (Int.mul_ne_zero hw n2) (Int.mul_ne_zero hw n1)]
    refine Int.eq_of_mul_eq_mul_left (show K ≠ 0 by omega) ?_
    have _ := hg
    grind
  rw [k1.1, k1.2, k2.1, k2.2, e]; exact ⟨rfl, rfl⟩
end
def lnX (M : Int) (d A : V3) : Int := (d.y * A.z - d.z * A.y) * M * M * M + d.z * M - d.y
def lnY (M : Int) (d A : V3) : Int := (d.z * A.x - d.x * A.z) * M * M * M - d.z * M * M + d.x
def lnZ (M : Int) (d A : V3) : Int := (d.x * A.y - d.y * A.x) * M * M * M + d.y * M * M - d.x * M
def ln0 (M : Int) (d A : V3) : Int := (d.z * A.y - d.y * A.z) * M * M + (d.x * A.z - d.z * A.x) * M + (d.y * A.x - d.x * A.y)
theorem sM_lin (M : Int) (d A O : V3) : sM M d A O = lnX M d A * O.x + lnY M d A * O.y + lnZ M d A * O.z + ln0 M d A := by
  simp only [sM, fM, V3.dot, V3.cross, V3.sub, lnX, lnY, lnZ, ln0]
  grind
section
variable {K a b c : Int} {o p q s : V3} (h : Mid K a b c o p q s)
include h
theorem mid_na : K * (normZ p q o).x = c * (normZ p q s).x ∧ K * (normZ p q o).y = c * (normZ p q s).y ∧ K * (normZ p q o).z = c * (normZ p q s).z := by
  obtain ⟨_, _, _, hK, _, hx, hy, hz⟩ := h
  simp only [normZ, V3.sub, V3.cross]
  refine ⟨?_, ?_, ?_⟩ <;> grind
theorem mid_nb : K * (normZ q s o).x = a * (normZ p q s).x ∧ K * (normZ q s o).y = a * (normZ p q s).y ∧ K * (normZ q s o).z = a * (normZ p q s).z := by
  obtain ⟨_, _, _, hK, _, hx, hy, hz⟩ := h
  simp only [normZ, V3.sub, V3.cross]
  refine ⟨?_, ?_, ?_⟩ <;> grind
theorem mid_nc : K * (normZ s p o).x = b * (normZ p q s).x ∧ K * (normZ s p o).y = b * (normZ p q s).y ∧ K * (normZ s p o).z = b * (normZ p q s).z := by
  obtain ⟨_, _, _, hK, _, hx, hy, hz⟩ := h
  simp only [normZ, V3.sub, V3.cross]
  refine ⟨?_, ?_, ?_⟩ <;> grind
theorem mid_ha (r : RZ) : K * highZ r p q o = c * highZ r p q s := by
  obtain ⟨h1, h2, h3⟩ := mid_na h
  unfold highZ V3.dot; grind
theorem mid_hb (r : RZ) : K * highZ r q s o = a * highZ r p q s := by
  obtain ⟨h1, h2, h3⟩ := mid_nb h
  rw [← high_rot r p q s]
  have e : normZ q s p = normZ p q s := norm_rot p q s
  unfold highZ V3.dot; rw [e]; grind
theorem mid_hc (r : RZ) : K * highZ r s p o = b * highZ r p q s := by
  obtain ⟨h1, h2, h3⟩ := mid_nc h
  rw [← high_rot r p q s, ← high_rot r q s p]
  have e : normZ s p q = normZ p q s := (norm_rot q s p).trans (norm_rot p q s)
  unfold highZ V3.dot; rw [e]; grind
theorem mid_s (M : Int) (r : RZ) (A : V3) : K * sM M r.d A (r.at o) = a * sM M r.d A (r.at p) + b * sM M r.d A (r.at q) + c * sM M r.d A (r.at s) := by
  obtain ⟨_, _, _, hK, _, hx, hy, hz⟩ := h
  have kx : K * (r.at o).x = a * (r.at p).x + b * (r.at q).x + c * (r.at s).x := by
    show K * (o.x * r.w - r.x) = a * (p.x * r.w - r.x) + b * (q.x * r.w - r.x) + c * (s.x * r.w - r.x)
    rw [Int.mul_sub, ← Int.mul_assoc, hx, hK]; clear hx; grind
  have ky : K * (r.at o).y = a * (r.at p).y + b * (r.at q).y + c * (r.at s).y := by
    show K * (o.y * r.w - r.y) = a * (p.y * r.w - r.y) + b * (q.y * r.w - r.y) + c * (s.y * r.w - r.y)
    rw [Int.mul_sub, ← Int.mul_assoc, hy, hK]; clear hy; grind
  have kz : K * (r.at o).z = a * (r.at p).z + b * (r.at q).z + c * (r.at s).z := by
    show K * (o.z * r.w - r.z) = a * (p.z * r.w - r.z) + b * (q.z * r.w - r.z) + c * (s.z * r.w - r.z)
    rw [Int.mul_sub, ← Int.mul_assoc, hz, hK]; clear hz; grind
  have hd : ∀ O : V3, sM M r.d A O = lnX M r.d A * O.x + lnY M r.d A * O.y + lnZ M r.d A * O.z + ln0 M r.d A := fun O => by clear hK hx hy hz kx ky kz; exact sM_lin M r.d A O
  rw [hd, hd, hd, hd]
  generalize lnX M r.d A = e1
  generalize lnY M r.d A = e2
  generalize lnZ M r.d A = e3
  generalize ln0 M r.d A = e0
  generalize r.at o = O at *
  generalize r.at p = P at *
  generalize r.at q = Q at *
  generalize r.at s = S at *
  have h0 : K * (e1 * O.x + e2 * O.y + e3 * O.z + e0) = e1 * (K * O.x) + e2 * (K * O.y) + e3 * (K * O.z) + K * e0 := by clear hK hx hy hz kx ky kz; grind
  rw [h0, kx, ky, kz, hK]
  clear hK hx hy hz kx ky kz h0
  grind
end
theorem sM_anti (M : Int) (d A B : V3) : sM M d B A = -sM M d A B := by
  simp only [sM, fM, V3.dot, V3.cross, V3.sub]; grind
theorem sM_self (M : Int) (d A : V3) : sM M d A A = 0 := by
  simp only [sM, fM, V3.dot, V3.cross, V3.sub]; grind
theorem pos_mul {c s : Int} (hc : 0 ≤ c) (h : 0 < c * s) : 0 < c ∧ 0 < s := by
  rcases Int.lt_trichotomy s 0 with h1 | h1 | h1
  · have := Int.mul_nonpos_of_nonneg_of_nonpos hc (Int.le_of_lt h1); omega
  · rw [h1, Int.mul_zero] at h; omega
  · refine ⟨?_, h1⟩
    rcases Int.lt_or_eq_of_le hc with h2 | h2
    · exact h2
    · rw [← h2, Int.zero_mul] at h; omega
theorem neg_mul' {c s : Int} (hc : 0 ≤ c) (h : c * s < 0) : 0 < c ∧ s < 0 := by
  have := pos_mul (s := -s) hc (by rw [Int.mul_neg]; omega)
  omega
def T3s (x y z : Int) : Prop := (0 < x ∧ 0 < y ∧ 0 < z) ∨ (x < 0 ∧ y < 0 ∧ z < 0)
theorem sub_T {K a b c s01 s12 s20 x0 x1 : Int} (ha : 0 ≤ a) (hb : 0 ≤ b) (hc : 0 ≤ c) (hp : 0 < K) (e0 : K * x0 = b * s01 - c * s20) (e1 : K * x1 = c * s12 - a * s01) (h : T3s s01 x1 (-x0)) : T3s s01 s12 s20 ∧ 0 < c := by
  rcases h with ⟨h1, h2, h3⟩ | ⟨h1, h2, h3⟩
  · have k1 := Int.mul_pos hp h2
    have k2 := Int.mul_pos hp h3
    rw [Int.mul_neg] at k2
    have k3 := Int.mul_nonneg ha (Int.le_of_lt h1)
    have k4 := Int.mul_nonneg hb (Int.le_of_lt h1)
    have m1 := pos_mul (s := s12) hc (by omega)
    have m2 := pos_mul (s := s20) hc (by omega)
    exact ⟨.inl ⟨h1, m1.2, m2.2⟩, m1.1⟩
  · have k1 := Int.mul_neg_of_pos_of_neg hp h2
    have k2 := Int.mul_neg_of_pos_of_neg hp h3
    rw [Int.mul_neg] at k2
    have k3 := Int.mul_nonpos_of_nonneg_of_nonpos ha (Int.le_of_lt h1)
    have k4 := Int.mul_nonpos_of_nonneg_of_nonpos hb (Int.le_of_lt h1)
    have m1 := neg_mul' (s := s12) hc (by omega)
    have m2 := neg_mul' (s := s20) hc (by omega)
    exact ⟨.inr ⟨h1, m1.2, m2.2⟩, m1.1⟩
theorem mixed3 {a b c x0 x1 x2 : Int} (ha : 0 ≤ a) (hb : 0 ≤ b) (hc : 0 ≤ c) (hp : 0 < a + b + c) (e : a * x0 + b * x1 + c * x2 = 0) : ¬ (0 < x0 ∧ 0 < x1 ∧ 0 < x2) ∧ ¬ (x0 < 0 ∧ x1 < 0 ∧ x2 < 0) := by
  have key : ∀ y0 y1 y2 : Int, a * y0 + b * y1 + c * y2 = 0 → ¬ (0 < y0 ∧ 0 < y1 ∧ 0 < y2) := by
    rintro y0 y1 y2 e ⟨h0, h1, h2⟩
    have k0 := Int.mul_nonneg ha (Int.le_of_lt h0)
    have k1 := Int.mul_nonneg hb (Int.le_of_lt h1)
    have k2 := Int.mul_nonneg hc (Int.le_of_lt h2)
    have z0 : a = 0 := (Int.mul_eq_zero.1 (by omega : a * y0 = 0)).resolve_right (by omega)
    have z1 : b = 0 := (Int.mul_eq_zero.1 (by omega : b * y1 = 0)).resolve_right (by omega)
    have z2 : c = 0 := (Int.mul_eq_zero.1 (by omega : c * y2 = 0)).resolve_right (by omega)
    omega
  refine ⟨key x0 x1 x2 e, fun h => key (-x0) (-x1) (-x2) (by rw [Int.mul_neg, Int.mul_neg, Int.mul_neg]; omega) ⟨by omega, by omega, by omega⟩⟩
theorem one_sub {K a b c s01 s12 s20 x0 x1 x2 : Int} (ha : 0 ≤ a) (hb : 0 ≤ b) (hc : 0 ≤ c) (hK : K = a + b + c) (hp : 0 < K) (e0 : K * x0 = b * s01 - c * s20) (e1 : K * x1 = c * s12 - a * s01) (e2 : K * x2 = a * s20 - b * s12)
    (h : T3s s01 s12 s20) (n0 : x0 ≠ 0) (n1 : x1 ≠ 0) (n2 : x2 ≠ 0) :
    (T3s s01 x1 (-x0) ∧ ¬ T3s s12 x2 (-x1) ∧ ¬ T3s s20 x0 (-x2)) ∨ (¬ T3s s01 x1 (-x0) ∧ T3s s12 x2 (-x1) ∧ ¬ T3s s20 x0 (-x2)) ∨ (¬ T3s s01 x1 (-x0) ∧ ¬ T3s s12 x2 (-x1) ∧ T3s s20 x0 (-x2)) := by
  have e : a * x0 + b * x1 + c * x2 = 0 := by
    refine (Int.mul_eq_zero.1 (?_ : K * (a * x0 + b * x1 + c * x2) = 0)).resolve_left (by omega)
    have : K * (a * x0 + b * x1 + c * x2) = a * (K * x0) + b * (K * x1) + c * (K * x2) := by clear e0 e1 e2 h hK; grind
    rw [this, e0, e1, e2]
    clear e0 e1 e2 h hK this
    grind
  have m := mixed3 ha hb hc (by omega) e
  clear e e0 e1 e2 ha hb hc hK hp
  unfold T3s at *
  omega
def bN (b : Bool) : Nat := if b = true then 1 else 0
theorem at_inj {r : RZ} (hw : r.w ≠ 0) {o p : V3} (h : r.at o = r.at p) : o = p := by
  have hx : o.x * r.w - r.x = p.x * r.w - r.x := congrArg V3.x h
  have hy : o.y * r.w - r.y = p.y * r.w - r.y := congrArg V3.y h
  have hz : o.z * r.w - r.z = p.z * r.w - r.z := congrArg V3.z h
  exact V3.ext' (Int.eq_of_mul_eq_mul_right hw (by omega)) (Int.eq_of_mul_eq_mul_right hw (by omega)) (Int.eq_of_mul_eq_mul_right hw (by omega))
/-- a corner that is not passed apart is the point itself -/
theorem zero_side {r : RZ} {p q s : V3} (hT : crossB r p q s = true) {o v : V3} (hn : (normZ p q s).dot ((r.at o).sub (r.at v)) = 0) {M : Int} {l : List V3} (hM : bigMs M r.d l) (h1 : r.at v ∈ l) (h2 : r.at o ∈ l) (h0 : sM M r.d (r.at v) (r.at o) = 0) : o = v := by
  have hs := slope_nz hT
  have hw : r.w ≠ 0 := by
    unfold crossB permZ at hT
    intro e; rw [e] at hT; cases hT
  obtain ⟨k1, k2, k3⟩ := sM_zero hM h1 h2 h0
  apply at_inj hw
  unfold slopeZ at hs
  simp only [V3.dot, V3.cross, V3.sub] at hn hs k1 k2 k3
  generalize (r.at o) = O at *
  generalize (r.at v) = V at *
  generalize (normZ p q s) = N at *
  have z : ∀ {x u : Int}, x ≠ 0 → x * u = 0 → u = 0 := fun hx h => (Int.mul_eq_zero.1 h).resolve_left hx
  apply V3.ext'
  · have := z (u := O.x - V.x) hs (by clear hM h1 h2 h0 hT hw hs; grind); omega
  · have := z (u := O.y - V.y) hs (by clear hM h1 h2 h0 hT hw hs; grind); omega
  · have := z (u := O.z - V.z) hs (by clear hM h1 h2 h0 hT hw hs; grind); omega
theorem flat1 (r : RZ) (p q : V3) : crossB r p q q = false := cross_flat r p q
theorem flat2 (r : RZ) (p q : V3) : crossB r q p q = false := by rw [crossB_rot r q q p, crossB_rot r p q q]; exact cross_flat r p q
section
variable {K a b c : Int} {o p q s : V3} (h : Mid K a b c o p q s) (r : RZ)
include h
theorem n_o : (normZ p q s).dot ((r.at o).sub (r.at p)) = 0 ∧ (normZ p q s).dot ((r.at o).sub (r.at q)) = 0 ∧ (normZ p q s).dot ((r.at o).sub (r.at s)) = 0 := by
  obtain ⟨_, _, _, hK, hp, hx, hy, hz⟩ := h
  have hq : (normZ p q s).dot (r.at q) = (normZ p q s).dot (r.at p) := by have := high_rot r p q s; unfold highZ at this; rwa [norm_rot] at this
  have hs : (normZ p q s).dot (r.at s) = (normZ p q s).dot (r.at p) := by
    have := high_rot r q s p
    unfold highZ at this
    rw [norm_rot q s p, norm_rot p q s] at this
    rw [this]; exact hq
  have lin : ∀ A B : V3, (normZ p q s).dot (A.sub B) = (normZ p q s).dot A - (normZ p q s).dot B := fun A B => by simp only [V3.dot, V3.sub]; clear hK hx hy hz hq hs; grind
  have ho : (normZ p q s).dot (r.at o) = (normZ p q s).dot (r.at p) := by
    refine Int.eq_of_mul_eq_mul_left (show K ≠ 0 by omega) ?_
    have kx : K * (r.at o).x = a * (r.at p).x + b * (r.at q).x + c * (r.at s).x := by
      show K * (o.x * r.w - r.x) = a * (p.x * r.w - r.x) + b * (q.x * r.w - r.x) + c * (s.x * r.w - r.x)
      rw [Int.mul_sub, ← Int.mul_assoc, hx, hK]; clear hx; grind
    have ky : K * (r.at o).y = a * (r.at p).y + b * (r.at q).y + c * (r.at s).y := by
      show K * (o.y * r.w - r.y) = a * (p.y * r.w - r.y) + b * (q.y * r.w - r.y) + c * (s.y * r.w - r.y)
      rw [Int.mul_sub, ← Int.mul_assoc, hy, hK]; clear hy; grind
    have kz : K * (r.at o).z = a * (r.at p).z + b * (r.at q).z + c * (r.at s).z := by
      show K * (o.z * r.w - r.z) = a * (p.z * r.w - r.z) + b * (q.z * r.w - r.z) + c * (s.z * r.w - r.z)
      rw [Int.mul_sub, ← Int.mul_assoc, hz, hK]; clear hz; grind
    have e1 : K * (normZ p q s).dot (r.at o) = a * (normZ p q s).dot (r.at p) + b * (normZ p q s).dot (r.at q) + c * (normZ p q s).dot (r.at s) := by
      simp only [V3.dot]
      generalize normZ p q s = N
      have : K * (N.x * (r.at o).x + N.y * (r.at o).y + N.z * (r.at o).z) = N.x * (K * (r.at o).x) + N.y * (K * (r.at o).y) + N.z * (K * (r.at o).z) := by clear kx ky kz hK hx hy hz hq hs lin; grind
      rw [this, kx, ky, kz]
      clear this kx ky kz hK hx hy hz hq hs lin
      grind
    rw [e1, hq, hs, hK]
    clear e1 kx ky kz hK hx hy hz hq hs lin
    grind
  rw [lin, lin, lin, ho, hq, hs]
  exact ⟨Int.sub_self _, Int.sub_self _, Int.sub_self _⟩
/-- a triangle that is divided at a point is crossed as often, and at the same parameter -/
theorem split_tri : (crossB r p q o = true → crossB r p q s = true ∧ crossN r p q o = crossN r p q s ∧ crossD r p q o = crossD r p q s) ∧
    (crossB r q s o = true → crossB r p q s = true ∧ crossN r q s o = crossN r p q s ∧ crossD r q s o = crossD r p q s) ∧
    (crossB r s p o = true → crossB r p q s = true ∧ crossN r s p o = crossN r p q s ∧ crossD r s p o = crossD r p q s) ∧
    (crossB r p q s = true → bN (crossB r p q o) + bN (crossB r q s o) + bN (crossB r s p o) = 1) := by
  obtain ⟨M, hM⟩ := exists_big r.d [r.at p, r.at q, r.at s, r.at o]
  have mp : r.at p ∈ [r.at p, r.at q, r.at s, r.at o] := by simp
  have mq : r.at q ∈ [r.at p, r.at q, r.at s, r.at o] := by simp
  have ms : r.at s ∈ [r.at p, r.at q, r.at s, r.at o] := by simp
  have mo : r.at o ∈ [r.at p, r.at q, r.at s, r.at o] := by simp
  have e0 := mid_s h M r (r.at p)
  have e1 := mid_s h M r (r.at q)
  have e2 := mid_s h M r (r.at s)
  rw [sM_self, sM_anti M r.d (r.at s) (r.at p)] at e0
  rw [sM_self, sM_anti M r.d (r.at p) (r.at q)] at e1
  rw [sM_self, sM_anti M r.d (r.at q) (r.at s)] at e2
  have pT := pass_M hM mp mq ms
  have pa := pass_M hM mp mq mo
  have pb := pass_M hM mq ms mo
  have pc := pass_M hM ms mp mo
  rw [sM_anti M r.d (r.at p) (r.at o)] at pa
  rw [sM_anti M r.d (r.at q) (r.at o)] at pb
  rw [sM_anti M r.d (r.at s) (r.at o)] at pc
  have hh := h
  obtain ⟨ha, hb, hc, hK, hp, -, -, -⟩ := hh
  obtain ⟨na1, na2, na3⟩ := mid_na h
  obtain ⟨nb1, nb2, nb3⟩ := mid_nb h
  obtain ⟨nc1, nc2, nc3⟩ := mid_nc h
  have zz : crossB r p q s = true → ¬ (o = p ∨ o = q ∨ o = s) → sM M r.d (r.at p) (r.at o) ≠ 0 ∧ sM M r.d (r.at q) (r.at o) ≠ 0 ∧ sM M r.d (r.at s) (r.at o) ≠ 0 := fun hT hne => by
    obtain ⟨o1, o2, o3⟩ := n_o h r
    exact ⟨fun e => hne (.inl (zero_side hT o1 hM mp mo e)), fun e => hne (.inr (.inl (zero_side hT o2 hM mq mo e))), fun e => hne (.inr (.inr (zero_side hT o3 hM ms mo e)))⟩
  have E0 : K * sM M r.d (r.at p) (r.at o) = b * sM M r.d (r.at p) (r.at q) - c * sM M r.d (r.at s) (r.at p) := by rw [e0]; grind
  have E1 : K * sM M r.d (r.at q) (r.at o) = c * sM M r.d (r.at q) (r.at s) - a * sM M r.d (r.at p) (r.at q) := by rw [e1]; grind
  have E2 : K * sM M r.d (r.at s) (r.at o) = a * sM M r.d (r.at s) (r.at p) - b * sM M r.d (r.at q) (r.at s) := by rw [e2]; grind
  clear e0 e1 e2
  have sa := fun hg => rest_same hp na1 na2 na3 (mid_ha h r) hg
  have sb := fun hg => rest_same hp nb1 nb2 nb3 (mid_hb h r) hg
  have sc := fun hg => rest_same hp nc1 nc2 nc3 (mid_hc h r) hg
  have ia : crossB r p q o = true → 0 < c ∧ crossB r p q s = true := fun hx => by
    rw [cross_rest, Bool.and_eq_true] at hx
    obtain ⟨h1, h2⟩ := sub_T ha hb hc hp E0 E1 (pa.1 hx.2)
    rw [cross_rest, Bool.and_eq_true]
    exact ⟨h2, (sa h2).symm.trans hx.1, pT.2 h1⟩
  have ib : crossB r q s o = true → 0 < a ∧ crossB r p q s = true := fun hx => by
    rw [cross_rest, Bool.and_eq_true] at hx
    obtain ⟨h1, h2⟩ := sub_T hb hc ha hp E1 E2 (pb.1 hx.2)
    rw [cross_rest, Bool.and_eq_true]
    refine ⟨h2, (sb h2).symm.trans hx.1, pT.2 ?_⟩
    unfold T3s at h1; omega
  have ic : crossB r s p o = true → 0 < b ∧ crossB r p q s = true := fun hx => by
    rw [cross_rest, Bool.and_eq_true] at hx
    obtain ⟨h1, h2⟩ := sub_T hc ha hb hp E2 E0 (pc.1 hx.2)
    rw [cross_rest, Bool.and_eq_true]
    refine ⟨h2, (sc h2).symm.trans hx.1, pT.2 ?_⟩
    unfold T3s at h1; omega
  refine ⟨fun hx => ?_, fun hx => ?_, fun hx => ?_, fun hT => ?_⟩
  · obtain ⟨hg, hT⟩ := ia hx
    exact ⟨hT, cross_same hp na1 na2 na3 (mid_ha h r) hg hT hx⟩
  · obtain ⟨hg, hT⟩ := ib hx
    exact ⟨hT, cross_same hp nb1 nb2 nb3 (mid_hb h r) hg hT hx⟩
  · obtain ⟨hg, hT⟩ := ic hx
    exact ⟨hT, cross_same hp nc1 nc2 nc3 (mid_hc h r) hg hT hx⟩
  · by_cases hne : o = p ∨ o = q ∨ o = s
    · rcases hne with rfl | rfl | rfl
      · rw [flat2, crossB_rot r o q s, flat1, hT]; rfl
      · rw [flat1, flat2, crossB_rot r o s p, crossB_rot r p o s, hT]; rfl
      · rw [flat1, flat2, hT]; rfl
    · obtain ⟨z0, z1, z2⟩ := zz hT hne
      have hT' := hT
      rw [cross_rest, Bool.and_eq_true] at hT'
      have one := one_sub ha hb hc hK hp E0 E1 E2 (pT.1 hT'.2) z0 z1 z2
      have ja : T3s (sM M r.d (r.at p) (r.at q)) (sM M r.d (r.at q) (r.at o)) (-sM M r.d (r.at p) (r.at o)) → crossB r p q o = true := fun ht => by
        have hg := (sub_T ha hb hc hp E0 E1 ht).2
        rw [cross_rest, Bool.and_eq_true]
        exact ⟨(sa hg).trans hT'.1, pa.2 ht⟩
      have jb : T3s (sM M r.d (r.at q) (r.at s)) (sM M r.d (r.at s) (r.at o)) (-sM M r.d (r.at q) (r.at o)) → crossB r q s o = true := fun ht => by
        have hg := (sub_T hb hc ha hp E1 E2 ht).2
        rw [cross_rest, Bool.and_eq_true]
        exact ⟨(sb hg).trans hT'.1, pb.2 ht⟩
      have jc : T3s (sM M r.d (r.at s) (r.at p)) (sM M r.d (r.at p) (r.at o)) (-sM M r.d (r.at s) (r.at o)) → crossB r s p o = true := fun ht => by
        have hg := (sub_T hc ha hb hp E2 E0 ht).2
        rw [cross_rest, Bool.and_eq_true]
        exact ⟨(sc hg).trans hT'.1, pc.2 ht⟩
      have ka : ¬ T3s (sM M r.d (r.at p) (r.at q)) (sM M r.d (r.at q) (r.at o)) (-sM M r.d (r.at p) (r.at o)) → crossB r p q o = false := fun ht => by
        rw [cross_rest]; cases hx : passZ r.d (r.at p) (r.at q) (r.at o)
        · simp
        · exact absurd (pa.1 hx) ht
      have kb : ¬ T3s (sM M r.d (r.at q) (r.at s)) (sM M r.d (r.at s) (r.at o)) (-sM M r.d (r.at q) (r.at o)) → crossB r q s o = false := fun ht => by
        rw [cross_rest]; cases hx : passZ r.d (r.at q) (r.at s) (r.at o)
        · simp
        · exact absurd (pb.1 hx) ht
      have kc : ¬ T3s (sM M r.d (r.at s) (r.at p)) (sM M r.d (r.at p) (r.at o)) (-sM M r.d (r.at s) (r.at o)) → crossB r s p o = false := fun ht => by
        rw [cross_rest]; cases hx : passZ r.d (r.at s) (r.at p) (r.at o)
        · simp
        · exact absurd (pc.1 hx) ht
      rcases one with ⟨t1, t2, t3⟩ | ⟨t1, t2, t3⟩ | ⟨t1, t2, t3⟩
      · rw [ja t1, kb t2, kc t3]; rfl
      · rw [ka t1, jb t2, kc t3]; rfl
      · rw [ka t1, kb t2, jc t3]; rfl
end
end Go.Proofs.YtefgchmbdijjdaaDoor
