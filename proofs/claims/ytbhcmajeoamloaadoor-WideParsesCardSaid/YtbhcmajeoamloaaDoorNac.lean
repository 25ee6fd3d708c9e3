/- Words of natural numbers: what is read by functions that hand back numbers. Numbers as arguments, canonical or not, for the reckoner. Quo, by the reckoner. Gcd, by the reckoner. Root, by the reckoner. Int, by the reckoner. Parse, by the reckoner. Parse, by the reckoner. Text, by the reckoner. Frac, by the reckoner. Fractions, by the reckoner: parts. Fractions, by the reckoner: CmpFrac, AddFrac, MulFrac. -/
import Derived.Test.YtbhcmajeoamloaaDoorNab
import Derived.Test.YtbhcmajeoamloaaDoorWka
import Derived.Test.YtbhcmajeoamloaaDoorWkb
import Derived.Test.YtbhcmajeoamloaaDoorNat8
namespace Go.Proofs.YtbhcmajeoamloaaDoor
open Go.RowKit
set_option maxRecDepth 100000

theorem wsC_cells (ρ : Rho) : ∀ l : List Nat, cellsL ρ (wsC l) = l.map fun d : Nat => Value.int .u64 (d : Int)
  | [] => rfl
  | d :: l => by rw [wsC, cellsL_cons, List.map_cons, ← wsC_cells ρ l]; rfl
theorem wat_wd {ρ : Rho} {w : World} {b off cap : Nat} {cs : List C} {l : List Nat} {nl : Bool} (hr : w.rangeAt (ρ b).1 (ρ b).2 (cellsL ρ cs)) (hw : WAt cs off l) (hs : SliOk nl l.length cap) : Wd .u64 w w.heap.size (nlA nl ⟨(ρ b).1, (ρ b).2 + off, none⟩) l := fun hn => by
  obtain ⟨_, A, B, rfl, rfl⟩ := hw
  rw [cellsL_append, cellsL_append, wsC_cells] at hr
  have h2 := range_sub hr
  rw [← sizeC_eq] at h2
  have hnl : nl = false := hs.pos hn
  subst hnl
  have hcell : ∀ k, k < l.length → w.cell? ((Addr.mk (ρ b).1 ((ρ b).2 + sizeC A) none).add k) = some (.int .u64 ((l[k]?.getD 0 : Nat) : Int)) := fun k hk => by
    rw [Addr.add_mid]
    exact h2 k _ (by rw [List.getElem?_map, List.getElem?_eq_getElem hk]; rfl)
  exact ⟨_, rfl, block_lt_of_cell (h2 0 _ (List.getElem?_eq_getElem (by rw [List.length_map]; exact hn))), hcell⟩
/-- words out of cells -/
def unW : List C → List Nat
  | .val (.int _ n) :: l => n.toNat :: unW l
  | _ => []
theorem unW_ws : ∀ l : List Nat, unW (wsC l) = l
  | [] => rfl
  | d :: l => by show (d : Int).toNat :: unW (wsC l) = _; rw [unW_ws l]; simp
def wsOf (cs : List C) (off len : Nat) : List Nat := match subC cs off (len * 1) with | some m => unW m | none => []
theorem wsOf_eq {cs : List C} {off : Nat} {l : List Nat} (h : WAt cs off l) : wsOf cs off l.length = l := by
  unfold wsOf; rw [h.all rfl]; exact unW_ws l
/-- the number of words -/
def wvC (neg : Bool) (n : Nat) : List C := [.val (.bool (neg && decide (n ≠ 0))), .val (.string ⟨(mag n).toArray⟩)]
def dWideN : Dr
  | [.c (.sli _ b off len _ _), .c (.val (.bool neg))], hf => (match hf b with
    | some blk => some (some (∃ l, WAt blk.cs off l ∧ l.length = len ∧ Dl WB l ∧ len ≤ 1000000000), .agg (wvC neg (val WB (wsOf blk.cs off len))))
    | none => none)
  | [.c (.val (.slice none 0 0)), .c (.val (.bool _))], _ => some (none, .agg (wvC false 0))
  | _, _ => none
theorem wvC_den (neg : Bool) (n : Nat) (ρ : Rho) : (SV.agg (wvC neg n)).den ρ = wv (neg && decide (n ≠ 0)) n := rfl
theorem spWideN : SpR Tryd.prog 56 dWideN := by
  refine ⟨⟨_, Tryd.func56, by kernel_rfl, by kernel_rfl⟩, fun args hf p v hd => ?_⟩
  unfold dWideN at hd
  split at hd
  · rename_i nl b off len cap hs neg
    split at hd
    · rename_i blk hb
      cases hd
      refine ⟨fun _ _ => rfl, fun hp ρ w hh => ?_⟩
      obtain ⟨l, hw, hlen, dl, hle⟩ := hp _ rfl
      subst hlen
      have hr := (hh b blk hb).1
      rw [wvC_den, wsOf_eq hw]
      exact wide_lst l (nlA nl ⟨(ρ b).1, (ρ b).2 + off, none⟩) l.length cap neg w dl (wat_wd hr hw hs) rfl hle hs.1 hs.2.1
    · cases hd
  · rename_i neg
    cases hd
    refine ⟨fun _ _ => rfl, fun _ ρ w _ => ?_⟩
    have := wide_lst [] none 0 0 neg w (Dl.nil _) (Wd.nil _ _ _ _) rfl (by decide) (by decide) (by decide)
    rw [wvC_den]
    have e : wv (neg && decide (val WB [] ≠ 0)) (val WB []) = wv (false && decide (0 ≠ 0)) 0 := by simp [val]
    rw [e] at this
    exact this
  · cases hd
end Go.Proofs.YtbhcmajeoamloaaDoor

namespace Go.Proofs.YtbhcmajeoamloaaDoor
open Go.RowKit
set_option maxRecDepth 100000

/-- a number among the arguments: how many bits, its value -/
structure NA where
  k : Nat
  z : Int
  h : Sm k z
def numOf : List C → Option NA
  | [.wid k z h] => some ⟨k, z, h⟩
  | [.val (.bool b), .val (.string s)] => some ⟨8 * s.size, ival b s.data.toList, Sm.ofBytes (Nat.le_of_eq Array.length_toList)⟩
  | _ => none
theorem numOf_ok {x : List C} {X : NA} (h : numOf x = some X) : ∃ b s, NumA x b s ∧ Num (X.k + 7) b s X.z := by
  unfold numOf at h
  split at h
  · cases h
    exact ⟨_, _, NumA.wid, num_wid (by assumption)⟩
  · rename_i b s
    cases h
    exact ⟨b, s, NumA.raw, rfl, Nat.le_add_right _ _⟩
  · cases h
theorem args2_den {x y : List C} {b c : Bool} {s t : ByteArray} (hx : NumA x b s) (hy : NumA y c t) (ρ : Rho) : (([.agg x, .agg y] : List SV).map (SV.den ρ)).toArray = #[.agg #[.bool b, .string s], .agg #[.bool c, .string t]] := by
  show #[(SV.agg x).den ρ, (SV.agg y).den ρ] = _
  rw [hx.den ρ, hy.den ρ]; rfl
theorem args1_den {x : List C} {b : Bool} {s : ByteArray} (hx : NumA x b s) (ρ : Rho) : (([.agg x] : List SV).map (SV.den ρ)).toArray = #[.agg #[.bool b, .string s]] := by
  show #[(SV.agg x).den ρ] = _
  rw [hx.den ρ]; rfl
def num2c (cap : Nat) (f : NA → NA → SV) : Dn
  | [.agg x, .agg y] => (match numOf x, numOf y with | some X, some Y => some (some (X.k ≤ cap ∧ Y.k ≤ cap), f X Y) | _, _ => none)
  | _ => none
def num1c (cap : Nat) (f : NA → SV) : Dn
  | [.agg x] => (match numOf x with | some X => some (some (X.k ≤ cap), f X) | none => none)
  | _ => none
abbrev num2 (f : NA → NA → SV) : Dn := num2c 80000000 f
abbrev num1 (f : NA → SV) : Dn := num1c 80000000 f
/-- functions of two numbers -/
theorem sp_num2 {f : FuncId} (hc : Callable Tryd.prog f) {cap : Nat} {g : NA → NA → SV} (hp : ∀ X Y ρ ρ', (g X Y).den ρ = (g X Y).den ρ')
    (h : ∀ X Y : NA, X.k ≤ cap → Y.k ≤ cap → ∀ b s c t, Num (X.k + 7) b s X.z → Num (Y.k + 7) c t Y.z → ∀ ρ w, Calls Tryd.prog f #[.agg #[.bool b, .string s], .agg #[.bool c, .string t]] w fun e w' => e = .returned ((g X Y).den ρ) ∧ Below w.heap.size w w') : SpOk Tryd.prog f (num2c cap g) := by
  refine ⟨hc, fun args p v hd => ?_⟩
  unfold num2c at hd
  split at hd
  · rename_i x y
    split at hd
    · rename_i X Y hX hY
      cases hd
      obtain ⟨b, s, nX, eX⟩ := numOf_ok hX
      obtain ⟨c, t, nY, eY⟩ := numOf_ok hY
      refine ⟨hp X Y, fun ho ρ w => ?_⟩
      obtain ⟨kX, kY⟩ := ho _ rfl
      rw [args2_den nX nY]
      exact h X Y kX kY b s c t eX eY ρ w
    · cases hd
  · cases hd
theorem sp_num1 {f : FuncId} (hc : Callable Tryd.prog f) {cap : Nat} {g : NA → SV} (hp : ∀ X ρ ρ', (g X).den ρ = (g X).den ρ')
    (h : ∀ X : NA, X.k ≤ cap → ∀ b s, Num (X.k + 7) b s X.z → ∀ ρ w, Calls Tryd.prog f #[.agg #[.bool b, .string s]] w fun e w' => e = .returned ((g X).den ρ) ∧ Below w.heap.size w w') : SpOk Tryd.prog f (num1c cap g) := by
  refine ⟨hc, fun args p v hd => ?_⟩
  unfold num1c at hd
  split at hd
  · rename_i x
    split at hd
    · rename_i X hX
      cases hd
      obtain ⟨b, s, nX, eX⟩ := numOf_ok hX
      refine ⟨hp X, fun ho ρ w => ?_⟩
      rw [args1_den nX]
      exact h X (ho _ rfl) b s eX ρ w
    · cases hd
  · cases hd
theorem ir_sign (z : Int) : IR z.sign := by unfold IR; rcases z with (_ | _) | _ <;> simp [Int.sign]
def dMulA : Dn := num2 fun X Y => .agg [.wid (X.k + Y.k) (X.z * Y.z) (X.h.mul Y.h)]
def dAddA : Dn := num2 fun X Y => .agg [.wid (X.k + Y.k + 1) (X.z + Y.z) (sm_addj X.h Y.h)]
def dSubA : Dn := num2 fun X Y => .agg [.wid (X.k + Y.k + 1) (X.z - Y.z) (sm_subj X.h Y.h)]
def dNegA : Dn := num1 fun X => .agg [.wid X.k (-X.z) X.h.neg]
def dSignA : Dn := num1 fun X => .c (.int X.z.sign (ir_sign _))
def dCmpA : Dn := num2 fun X Y => .c (.int (X.z - Y.z).sign (ir_sign _))
theorem spMulA : SpOk Tryd.prog 17 dMulA := sp_num2 ⟨_, Tryd.func17, by kernel_rfl, by kernel_rfl⟩ (fun _ _ _ _ => rfl) fun X Y kX kY b s c t nX nY ρ w => (Mul_any nX nY (by omega) (by omega) w).mono fun e w' he => gives_sp he ρ _
theorem spAddA : SpOk Tryd.prog 27 dAddA := sp_num2 ⟨_, Tryd.func27, by kernel_rfl, by kernel_rfl⟩ (fun _ _ _ _ => rfl) fun X Y kX kY b s c t nX nY ρ w => (Add_any nX nY (by omega) (by omega) w).mono fun e w' he => gives_sp he ρ _
theorem spSubA : SpOk Tryd.prog 29 dSubA := sp_num2 ⟨_, Tryd.func29, by kernel_rfl, by kernel_rfl⟩ (fun _ _ _ _ => rfl) fun X Y kX kY b s c t nX nY ρ w => (Sub_any nX nY (by omega) (by omega) w).mono fun e w' he => gives_sp he ρ _
theorem spNegA : SpOk Tryd.prog 28 dNegA := sp_num1 ⟨_, Tryd.func28, by kernel_rfl, by kernel_rfl⟩ (fun _ _ _ => rfl) fun X kX b s nX ρ w => (Neg_any nX (by omega) w).mono fun e w' he => gives_sp he ρ _
theorem spSignA : SpOk Tryd.prog 24 dSignA := sp_num1 ⟨_, Tryd.func24, by kernel_rfl, by kernel_rfl⟩ (fun _ _ _ => rfl) fun X kX b s nX ρ w => Sign_any nX (by omega) w
theorem spCmpA : SpOk Tryd.prog 34 dCmpA := sp_num2 ⟨_, Tryd.func34, by kernel_rfl, by kernel_rfl⟩ (fun _ _ _ _ => rfl) fun X Y kX kY b s c t nX nY ρ w => Cmp_any nX nY (by omega) (by omega) w
theorem spRMulA : SpOk Tryd.prog 18 dMulA := sp_num2 ⟨_, Tryd.func18, by kernel_rfl, by kernel_rfl⟩ (fun _ _ _ _ => rfl) fun X Y kX kY b s c t nX nY ρ w => (RMul_any nX nY (by omega) (by omega) w).mono fun e w' he => gives_sp he ρ _
theorem spRAddA : SpOk Tryd.prog 19 dAddA := sp_num2 ⟨_, Tryd.func19, by kernel_rfl, by kernel_rfl⟩ (fun _ _ _ _ => rfl) fun X Y kX kY b s c t nX nY ρ w => (RAdd_any nX nY (by omega) (by omega) w).mono fun e w' he => gives_sp he ρ _
theorem spRSubA : SpOk Tryd.prog 31 dSubA := sp_num2 ⟨_, Tryd.func31, by kernel_rfl, by kernel_rfl⟩ (fun _ _ _ _ => rfl) fun X Y kX kY b s c t nX nY ρ w => (RSub_any nX nY (by omega) (by omega) w).mono fun e w' he => gives_sp he ρ _
theorem spRNegA : SpOk Tryd.prog 32 dNegA := sp_num1 ⟨_, Tryd.func32, by kernel_rfl, by kernel_rfl⟩ (fun _ _ _ => rfl) fun X kX b s nX ρ w => (RNeg_any nX (by omega) w).mono fun e w' he => gives_sp he ρ _
theorem spRSignA : SpOk Tryd.prog 33 dSignA := sp_num1 ⟨_, Tryd.func33, by kernel_rfl, by kernel_rfl⟩ (fun _ _ _ => rfl) fun X kX b s nX ρ w => RSign_any nX (by omega) w
theorem spRCmpA : SpOk Tryd.prog 35 dCmpA := sp_num2 ⟨_, Tryd.func35, by kernel_rfl, by kernel_rfl⟩ (fun _ _ _ _ => rfl) fun X Y kX kY b s c t nX nY ρ w => RCmp_any nX nY (by omega) (by omega) w
def baseA : List (FuncId × Dn) := [(30, dFrom), (17, dMulA), (27, dAddA), (29, dSubA), (28, dNegA), (24, dSignA), (34, dCmpA), (48, dFrom), (18, dMulA), (19, dAddA), (31, dSubA), (32, dNegA), (33, dSignA), (35, dCmpA)]
theorem baseA_ok : AllOk baseA :=
  .cons (spFrom ⟨_, Tryd.func30, by kernel_rfl, by kernel_rfl⟩ From_any) <|
  .cons spMulA <|
  .cons spAddA <|
  .cons spSubA <|
  .cons spNegA <|
  .cons spSignA <|
  .cons spCmpA <|
  .cons (spFrom ⟨_, Tryd.func48, by kernel_rfl, by kernel_rfl⟩ RFrom_any) <|
  .cons spRMulA <|
  .cons spRAddA <|
  .cons spRSubA <|
  .cons spRNegA <|
  .cons spRSignA <|
  .cons spRCmpA .nil
end Go.Proofs.YtbhcmajeoamloaaDoor

namespace Go.Proofs.YtbhcmajeoamloaaDoor
open Go.RowKit
set_option maxRecDepth 100000

theorem pure_okH {P : Program} {E : Env} (hE : EOk P E) (hm : P.follows .mixedOrders = true) {H : FuncId → List SV → List Blk → (SV → List Blk → Prop) → Prop} (hH : HOk P H) {f : FuncId} {fn : Func} (hf : FnOk P f fn) {args : List SV} {v : SV} (hpure : ∀ ρ ρ', v.den ρ = v.den ρ') (hap : ∀ ρ ρ', args.map (SV.den ρ) = args.map (SV.den ρ'))
    (h : vcF E H fn args [] fun u _ => ∀ ρ, u.den ρ = v.den ρ) (ρ : Rho) (w : World) :
    Calls P f (args.map (SV.den ρ)).toArray w fun e w' => e = .returned (v.den ρ) ∧ Below w.heap.size w w' := by
  have hh : HRel w.heap.size ⟨w, fun _ => False, ρ⟩ (nthO []) ρ w := ⟨fun i b h => by simp [nthO] at h, fun i b h => by simp [nthO] at h, fun i j b c h => by simp [nthO] at h, fun ρ _ i b h => by simp [nthO] at h, Below.refl _ _, Nat.le_refl _, fun i h => h.elim⟩
  refine (fn_ok hE hm hH hf h w.heap.size _ ρ w hh (fun ρ' _ => hap ρ' ρ)).mono ?_
  rintro e w' ⟨u, hp', ρ1, hu, hh', -, he⟩
  have := he ρ1 (Agr.refl _ _)
  exact ⟨by rw [this, hu ρ1, hpure ρ1 ρ], hh'.bel⟩
def envN (un : Nat) (l : List (FuncId × Dn)) (r : List (FuncId × Dr)) (ord : Nat → Bool) : Env where
  T := tyT
  un := un
  D := fun f args hf => match lkD l f args with | some x => some x | none => lkR r f args hf
  O := oAll tyT
  ord := ord
theorem envN_ok {l : List (FuncId × Dn)} (hl : AllOk l) {r : List (FuncId × Dr)} (hr : AllR r) (un : Nat) (ord : Nat → Bool) : EOk Tryd.prog (envN un l r ord) := ⟨tyT_ok, (envR_ok hl hr un).D, oAll_ok tyT_ok⟩
def rdN : List (FuncId × Dr) := [(56, dWideN)]
theorem rdN_ok : AllR rdN := .cons spWideN .nil
def rawL (b : Bool) (s : ByteArray) : SV := .agg [.val (.bool b), .val (.string s)]
theorem sp_num2H {f : FuncId} {fn : Func} (hf : FnOk Tryd.prog f fn) {E : Env} (hE : EOk Tryd.prog E) {H : FuncId → List SV → List Blk → (SV → List Blk → Prop) → Prop} (hH : HOk Tryd.prog H) {g : NA → NA → SV} {cap : Nat} (hp : ∀ X Y ρ ρ', (g X Y).den ρ = (g X Y).den ρ')
    (h : ∀ X Y : NA, X.k ≤ cap → Y.k ≤ cap → ∀ b s c t, Num (X.k + 7) b s X.z → Num (Y.k + 7) c t Y.z → vcF E H fn [rawL b s, rawL c t] [] fun u _ => ∀ ρ, u.den ρ = (g X Y).den ρ) : SpOk Tryd.prog f (num2c cap g) :=
  sp_num2 hf.callable hp fun X Y kX kY b s c t nX nY ρ w => pure_okH hE mixed hH hf (hp X Y) (fun _ _ => rfl) (h X Y kX kY b s c t nX nY) ρ w
theorem sp_num1H {f : FuncId} {fn : Func} (hf : FnOk Tryd.prog f fn) {E : Env} (hE : EOk Tryd.prog E) {H : FuncId → List SV → List Blk → (SV → List Blk → Prop) → Prop} (hH : HOk Tryd.prog H) {g : NA → SV} {cap : Nat} (hp : ∀ X ρ ρ', (g X).den ρ = (g X).den ρ')
    (h : ∀ X : NA, X.k ≤ cap → ∀ b s, Num (X.k + 7) b s X.z → vcF E H fn [rawL b s] [] fun u _ => ∀ ρ, u.den ρ = (g X).den ρ) : SpOk Tryd.prog f (num1c cap g) :=
  sp_num1 hf.callable hp fun X kX b s nX ρ w => pure_okH hE mixed hH hf (hp X) (fun _ _ => rfl) (h X kX b s nX) ρ w
def SgnOf (b : Bool) (z : Int) : Prop := (b = true ∧ z ≤ 0) ∨ (b = false ∧ 0 ≤ z)
theorem quo_sign {b c : Bool} {y z : Int} (h1 : SgnOf b y) (h2 : SgnOf c z) (h0 : y.natAbs / z.natAbs ≠ 0) : ((!(b == c)) = true ↔ y.tdiv z < 0) := by
  obtain ⟨m, rfl | rfl⟩ := Int.eq_nat_or_neg y <;> obtain ⟨n, rfl | rfl⟩ := Int.eq_nat_or_neg z
  all_goals
    simp only [Int.natAbs_neg, Int.natAbs_natCast] at h0
    have hm : m ≠ 0 := fun e => by subst e; simp at h0
    have hn : n ≠ 0 := fun e => by subst e; simp at h0
    simp only [Int.neg_tdiv, Int.tdiv_neg, Int.neg_neg, ← Int.ofNat_tdiv]
    have hq : 0 < m / n := Nat.pos_of_ne_zero h0
    have eq := Int.natCast_ediv m n
    rcases h1 with ⟨rfl, h1⟩ | ⟨rfl, h1⟩ <;> rcases h2 with ⟨rfl, h2⟩ | ⟨rfl, h2⟩ <;> simp <;> omega
theorem rem_sign {b : Bool} {y z : Int} (h1 : SgnOf b y) (h0 : y.natAbs % z.natAbs ≠ 0) : (b = true ↔ y.tmod z < 0) := by
  obtain ⟨m, rfl | rfl⟩ := Int.eq_nat_or_neg y <;> obtain ⟨n, rfl | rfl⟩ := Int.eq_nat_or_neg z
  all_goals
    simp only [Int.natAbs_neg, Int.natAbs_natCast] at h0
    simp only [Int.neg_tmod, Int.tmod_neg, ← Int.ofNat_tmod]
    have hm : m ≠ 0 := fun e => by subst e; simp at h0
    rcases h1 with ⟨rfl, h1⟩ | ⟨rfl, h1⟩ <;> simp <;> omega
theorem Num.sgn {k : Nat} {b : Bool} {s : ByteArray} {z : Int} (h : Num k b s z) : SgnOf b z := ival_or h
theorem sm_quo {k : Nat} {y : Int} (h : Sm k y) (z : Int) : Sm k (y.tdiv z) := h.of_le (by rw [Int.natAbs_tdiv]; exact Nat.div_le_self _ _)
def remZ (y z : Int) : Int := if z = 0 then 0 else y.tmod z
theorem sm_rem {k : Nat} {y : Int} (h : Sm k y) (z : Int) : Sm k (remZ y z) := by
  unfold remZ
  split
  · exact Nat.pow_pos (by decide)
  · exact h.of_le (by rw [Int.natAbs_tmod]; exact Nat.mod_le _ _)
def quoV (X Y : NA) : SV := .tup [.agg [.wid X.k (X.z.tdiv Y.z) (sm_quo X.h _)], .agg [.wid X.k (remZ X.z Y.z) (sm_rem X.h _)], .c (.val (.bool (decide (Y.z ≠ 0))))]
def dQuoA : Dn := num2 quoV
theorem wv_agg {k : Nat} {z : Int} (h : Sm k z) {neg : Bool} {n : Nat} (hn : n = z.natAbs) (hs : n ≠ 0 → (neg = true ↔ z < 0)) (ρ : Rho) : (T1.agg (wvC neg n)).den ρ = (T1.agg [.wid k z h]).den ρ := by
  obtain ⟨h1, h2⟩ := can_wv neg n z hn hs
  show Value.agg #[.bool (neg && decide (n ≠ 0)), .string ⟨(mag n).toArray⟩] = Value.agg #[.bool (decide (z < 0)), .string ⟨(mag z.natAbs).toArray⟩]
  rw [h1, h2]
theorem wid_agg {k j : Nat} {z y : Int} (h : Sm k z) (h' : Sm j y) (e : z = y) (ρ : Rho) : (T1.agg [.wid k z h]).den ρ = (T1.agg [.wid j y h']).den ρ := by subst e; rfl
theorem tup3_den {a b c a' b' c' : T1} {ρ : Rho} (h1 : a.den ρ = a'.den ρ) (h2 : b.den ρ = b'.den ρ) (h3 : c.den ρ = c'.den ρ) : (SV.tup [a, b, c]).den ρ = (SV.tup [a', b', c']).den ρ := by
  show Value.tuple #[a.den ρ, b.den ρ, c.den ρ] = Value.tuple #[a'.den ρ, b'.den ρ, c'.den ρ]
  rw [h1, h2, h3]
theorem Num.len8 {k : Nat} {b : Bool} {s : ByteArray} {z : Int} (h : Num (k + 7) b s z) (hk : k ≤ 80000000) : (dig WB z.natAbs).length ≤ 80000000 := dig_len_of (k := k + 7) (h.sm) (by omega)
theorem Num.sz {k : Nat} {b : Bool} {s : ByteArray} {z : Int} (h : Num (k + 7) b s z) (hk : k ≤ 80000000) : s.size ≤ 300000000 := by have := h.2; omega
def quoC : List (FuncId × NewC) := [(54, cAbs), (64, cDiv)]
theorem quoC_ok : AllC Tryd.prog quoC := .cons csAbs <| .cons csDiv .nil
theorem wat_eq (o : OW) {n : Nat} (h : o.l = dig WB n) : WAt (wsC (o.l ++ o.r)) 0 (dig WB n) := by rw [← h]; exact WAt.ow o
theorem wsOf_ow (o : OW) : wsOf o.blk.cs 0 o.l.length = o.l := wsOf_eq (WAt.ow o)
theorem dl_eq {o : OW} {n : Nat} (h : o.l = dig WB n) : Dl WB o.l := by rw [h]; exact dig_Dl WB_two n
set_option maxHeartbeats 4000000 in
theorem spQuoA : SpOk Tryd.prog 22 dQuoA := sp_num2H ⟨Tryd.func22, by kernel_rfl, by kernel_rfl⟩ (envN_ok .nil rdN_ok 0 fun i => i == 3) (mix_ok quoC_ok (envN_ok .nil rdN_ok 0 fun i => i == 3) mixed noF_ok 0) (fun _ _ _ _ => rfl) fun X Y kX kY b s c t nX nY => by
  conv => whnf
  refine ⟨fun _ _ => rfl, trivial, ⟨_, c, t, rfl, rfl, NumA.raw, (nY.sz kY), fun oy hoy => ?_⟩⟩
  rw [nY.natAbs] at hoy
  conv => whnf
  refine bcase_intro (fun hz => ?_) (fun hz => ?_)
  · have hz : Y.z = 0 := by
      have h1 : oy.l.length = 0 := by have := of_decide_eq_true hz; omega
      rw [hoy] at h1
      have := (dig_len_zero WB_two).1 h1
      omega
    have e1 : (0 : Int) = X.z.tdiv Y.z := by rw [hz]; exact (Int.tdiv_zero _).symm
    have e2 : (0 : Int) = remZ X.z Y.z := by rw [hz]; rfl
    have e3 : ∀ ρ : Rho, (T1.c (.val (.bool false))).den ρ = (T1.c (.val (.bool (decide (Y.z ≠ 0))))).den ρ := fun _ => by rw [hz]; rfl
    conv => whnf
    refine ⟨?_, ?_, trivial⟩
    · conv => whnf
      refine ⟨?_, ?_, trivial⟩
      · conv => whnf
        refine ⟨?_, trivial⟩
        · conv => whnf
          refine ⟨?_, trivial⟩
          · conv => whnf
            refine ⟨?_, trivial⟩
            · conv => whnf
              exact fun ρ => tup3_den (wid_agg _ _ e1 ρ) (wid_agg _ _ e2 ρ) (e3 ρ)
      · conv => whnf
        refine ⟨?_, trivial⟩
        · conv => whnf
          refine ⟨?_, trivial⟩
          · conv => whnf
            refine ⟨?_, trivial⟩
            · conv => whnf
              exact fun ρ => tup3_den (wid_agg _ _ e1 ρ) (wid_agg _ _ e2 ρ) (e3 ρ)
    · conv => whnf
      refine ⟨?_, trivial⟩
      · conv => whnf
        refine ⟨?_, trivial⟩
        · conv => whnf
          refine ⟨?_, trivial⟩
          · conv => whnf
            refine ⟨?_, trivial⟩
            · conv => whnf
              exact fun ρ => tup3_den (wid_agg _ _ e1 ρ) (wid_agg _ _ e2 ρ) (e3 ρ)
  · have hz : Y.z ≠ 0 := fun e => of_decide_eq_false hz (by rw [hoy, e, Int.natAbs_zero, dig_zero]; rfl)
    have hn0 : 0 < Y.z.natAbs := by omega
    conv => whnf
    refine ⟨fun _ _ => rfl, trivial, ⟨_, b, s, rfl, rfl, NumA.raw, (nX.sz kX), fun ox hox => ?_⟩⟩
    rw [nX.natAbs] at hox
    have hqz : ∀ n : Nat, n = X.z.natAbs / Y.z.natAbs → n = (X.z.tdiv Y.z).natAbs := fun n e => by rw [e, Int.natAbs_tdiv]; rfl
    have hrz : X.z.natAbs % Y.z.natAbs = (remZ X.z Y.z).natAbs := by unfold remZ; rw [if_neg hz, Int.natAbs_tmod]
    have hrs : X.z.natAbs % Y.z.natAbs ≠ 0 → (b = true ↔ remZ X.z Y.z < 0) := fun h0 => by unfold remZ; rw [if_neg hz]; exact rem_sign nX.sgn h0
    conv => whnf
    refine ⟨⟨wsC_pure _, wsC_pure _, trivial⟩, ⟨_, _, _, _, _, _, _, X.z.natAbs, _, _, _, _, _, _, _, Y.z.natAbs, rfl, rfl, by rw [hox], by rw [hoy], wat_eq ox hox, wat_eq oy hoy, hn0, by rw [hox]; exact nX.len8 kX, by rw [hoy]; exact nY.len8 kY, fun hmn oq hoq => ?_, fun hmn oq or hoq hor => ?_⟩⟩
    · have hm0 : X.z.natAbs / Y.z.natAbs = 0 := Nat.div_eq_of_lt hmn
      have hm1 : X.z.natAbs % Y.z.natAbs = X.z.natAbs := Nat.mod_eq_of_lt hmn
      have hv : val WB ox.l = X.z.natAbs := by rw [hox, val_dig WB_two]
      conv => whnf
      refine ⟨⟨oq.l, WAt.ow oq, rfl, by rw [hoq]; exact Dl.nil _, by rw [hoq]; exact Nat.zero_le _⟩, ?_⟩
      conv => whnf
      refine ⟨⟨ox.l, WAt.ow ox, rfl, dl_eq hox, by rw [hox]; exact Nat.le_trans (nX.len8 kX) (by decide)⟩, ?_⟩
      conv => whnf
      refine fun ρ => tup3_den ?_ ?_ ?_
      · rw [wsOf_ow oq, hoq]
        exact wv_agg _ (hqz _ hm0.symm) (fun h => absurd rfl h) ρ
      · rw [wsOf_ow ox, hv]
        exact wv_agg _ (by rw [← hrz, hm1]) (fun h0 => hrs (by rw [hm1]; exact h0)) ρ
      · show Value.bool true = Value.bool (decide (Y.z ≠ 0))
        rw [decide_eq_true hz]
    · have hv1 : val WB oq.l = X.z.natAbs / Y.z.natAbs := by rw [hoq, val_dig WB_two]
      have hv2 : val WB or.l = X.z.natAbs % Y.z.natAbs := by rw [hor, val_dig WB_two]
      have hl1 : oq.l.length ≤ 1000000000 := by rw [hoq]; exact Nat.le_trans (dig_len_mono WB_two (Nat.div_le_self _ _)) (Nat.le_trans (nX.len8 kX) (by decide))
      have hl2 : or.l.length ≤ 1000000000 := by rw [hor]; exact Nat.le_trans (dig_len_mono WB_two (Nat.mod_le _ _)) (Nat.le_trans (nX.len8 kX) (by decide))
      conv => whnf
      refine ⟨⟨oq.l, WAt.ow oq, rfl, dl_eq hoq, hl1⟩, ?_⟩
      conv => whnf
      refine ⟨⟨or.l, WAt.ow or, rfl, dl_eq hor, hl2⟩, ?_⟩
      conv => whnf
      refine fun ρ => tup3_den ?_ ?_ ?_
      · rw [wsOf_ow oq, hv1]
        exact wv_agg _ (hqz _ rfl) (fun h0 => quo_sign nX.sgn nY.sgn h0) ρ
      · rw [wsOf_ow or, hv2]
        exact wv_agg _ hrz hrs ρ
      · show Value.bool true = Value.bool (decide (Y.z ≠ 0))
        rw [decide_eq_true hz]
end Go.Proofs.YtbhcmajeoamloaaDoor

namespace Go.Proofs.YtbhcmajeoamloaaDoor
open Go.RowKit
set_option maxRecDepth 100000

theorem sm_gcd {j k : Nat} {y z : Int} (h : Sm j y) (h' : Sm k z) : Sm (j + k) ((y.gcd z : Nat) : Int) := by
  have h1 : y.gcd z = Nat.gcd y.natAbs z.natAbs := rfl
  unfold Sm at *
  rw [Int.natAbs_natCast, h1]
  have hj : 2 ^ j ≤ 2 ^ (j + k) := Nat.pow_le_pow_right (by decide) (by omega)
  have hk : 2 ^ k ≤ 2 ^ (j + k) := Nat.pow_le_pow_right (by decide) (by omega)
  rcases Nat.eq_zero_or_pos y.natAbs with h0 | h0
  · rw [h0, Nat.gcd_zero_left]; omega
  · have := Nat.le_of_dvd h0 (Nat.gcd_dvd_left y.natAbs z.natAbs); omega
def gcdV (X Y : NA) : SV := .agg [.wid (X.k + Y.k) ((X.z.gcd Y.z : Nat) : Int) (sm_gcd X.h Y.h)]
def dGcdA : Dn := num2 gcdV
def GcdI (g : Nat) (ox oy : OW) : Prop := Nat.gcd (val WB ox.l) (val WB oy.l) = g ∧ ox.l = dig WB (val WB ox.l) ∧ oy.l = dig WB (val WB oy.l) ∧ ox.l.length ≤ 80000000 ∧ oy.l.length ≤ 80000000
theorem wv_sv {k : Nat} {z : Int} (h : Sm k z) {neg : Bool} {n : Nat} (hn : n = z.natAbs) (hs : n ≠ 0 → (neg = true ↔ z < 0)) (ρ : Rho) : (SV.agg (wvC neg n)).den ρ = (SV.agg [.wid k z h]).den ρ := wv_agg h hn hs ρ
set_option maxHeartbeats 8000000 in
theorem spGcdA : SpOk Tryd.prog 21 dGcdA := sp_num2H ⟨Tryd.func21, by kernel_rfl, by kernel_rfl⟩ (envN_ok .nil rdN_ok 0 fun i => i == 1) (mix_ok quoC_ok (envN_ok .nil rdN_ok 0 fun i => i == 1) mixed noF_ok 0) (fun _ _ _ _ => rfl) fun X Y kX kY b s c t nX nY => by
  conv => whnf
  refine ⟨?_, ?_, trivial⟩
  · conv => whnf
    refine ⟨?_, ?_, trivial⟩
    · conv => whnf
      refine ⟨fun _ _ => rfl, trivial, ⟨_, b, s, rfl, rfl, NumA.raw, (nX.sz kX), fun ox hox => ?_⟩⟩
      rw [nX.natAbs] at hox
      conv => whnf
      refine ⟨?_, trivial⟩
      · conv => whnf
        refine ⟨fun _ _ => rfl, trivial, ⟨_, c, t, rfl, rfl, NumA.raw, (nY.sz kY), fun oy hoy => ?_⟩⟩
        rw [nY.natAbs] at hoy
        have hvx : val WB ox.l = X.z.natAbs := by rw [hox, val_dig WB_two]
        have hvy : val WB oy.l = Y.z.natAbs := by rw [hoy, val_dig WB_two]
        conv => whnf
        refine loop_cut (G := {g : OW × OW × (Nat → Value) // GcdI (Nat.gcd X.z.natAbs Y.z.natAbs) g.1 g.2.1}) (X := {x : OW × OW // val WB x.1.l = (Nat.gcd X.z.natAbs Y.z.natAbs) ∧ x.1.l = dig WB (val WB x.1.l) ∧ x.1.l.length ≤ 80000000}) (fun g => (.c (.val (g.1.2.2 0)) :: .c (.val (g.1.2.2 1)) :: .c (.val (g.1.2.2 2)) :: .c (.val (g.1.2.2 3)) :: .c (.ptr 0 0) :: (g.1.1.sl 1) :: (g.1.2.1.sl 2) :: .c (.val (g.1.2.2 7)) :: .c (.val (g.1.2.2 8)) :: .c (.val (g.1.2.2 9)) :: .c (.val (g.1.2.2 10)) :: .c (.val (g.1.2.2 11)) :: .c (.val (g.1.2.2 12)) :: .c (.val (g.1.2.2 13)) :: .c (.val (g.1.2.2 14)) :: .c (.val (g.1.2.2 15)) :: .c (.val (g.1.2.2 16)) :: .c (.val (g.1.2.2 17)) :: .c (.val (g.1.2.2 18)) :: .c (.val (g.1.2.2 19)) :: .c (.val (g.1.2.2 20)) :: .c (.val (g.1.2.2 21)) :: .c (.val (g.1.2.2 22)) :: .c (.val (g.1.2.2 23)) :: .c (.val (g.1.2.2 24)) :: .c (.val (g.1.2.2 25)) :: [])) (fun g => [⟨27, false, [.wid 0 0 (by unfold Sm; decide)], 0⟩, g.1.1.blk, g.1.2.1.blk]) (fun g => val WB g.1.2.1.l) 0 (fun x j => (j 0 :: j 1 :: j 2 :: j 3 :: .c (.ptr 0 0) :: (x.1.1.sl 1) :: j 6 :: j 7 :: j 8 :: j 9 :: j 10 :: j 11 :: j 12 :: j 13 :: j 14 :: j 15 :: j 16 :: j 17 :: j 18 :: j 19 :: j 20 :: j 21 :: j 22 :: j 23 :: j 24 :: j 25 :: [])) (fun x => [⟨27, false, [.wid 0 0 (by unfold Sm; decide)], 0⟩, x.1.1.blk, x.1.2.blk]) ?_ ?_ ?_
        · refine ⟨[2, 3, 4], [4, 5, 6], [0, 1, 2], fun vs => ?_⟩
          conv => whnf
          refine ⟨fun _ _ => rfl, wsC_pure _, wsC_pure _, ?_⟩
          conv => whnf
          refine ⟨_, _, ?_, ?_, ⟨(ox, oy, vs), by rw [hvx, hvy], by rw [hvx]; exact hox, by rw [hvy]; exact hoy, by rw [hox]; exact nX.len8 kX, by rw [hoy]; exact nY.len8 kY⟩, rfl, rfl⟩
          · exact ⟨fun _ => rfl, fun _ => rfl, fun _ => rfl, fun _ => rfl, fun _ => rfl, fun _ => rfl, fun _ => rfl, fun _ => rfl, fun _ => rfl, fun _ => rfl, fun _ => rfl, fun _ => rfl, fun _ => rfl, fun _ => rfl, fun _ => rfl, fun _ => rfl, fun _ => rfl, fun _ => rfl, fun _ => rfl, fun _ => rfl, fun _ => rfl, fun _ => rfl, fun _ => rfl, fun _ => rfl, fun _ => rfl, fun _ => rfl, trivial⟩
          · exact ⟨⟨rfl, rfl, rfl, fun _ => rfl⟩, ⟨rfl, rfl, rfl, fun _ => rfl⟩, ⟨rfl, rfl, rfl, fun _ => rfl⟩, trivial⟩
        · intro Qx hqx
          rintro ⟨⟨ox, oy, vs3⟩, h1, h2, h3, h4, h5⟩
          have h1 : Nat.gcd (val WB ox.l) (val WB oy.l) = (Nat.gcd X.z.natAbs Y.z.natAbs) := h1
          have h2 : ox.l = dig WB (val WB ox.l) := h2
          have h3 : oy.l = dig WB (val WB oy.l) := h3
          have h4 : ox.l.length ≤ 80000000 := h4
          have h5 : oy.l.length ≤ 80000000 := h5
          conv => whnf
          refine bcase_intro (fun h0 => ?_) (fun h0 => ?_)
          · have h0 : 0 < oy.l.length := nz_gt h0
            have hn0 : 0 < val WB oy.l := by
              rcases Nat.eq_zero_or_pos (val WB oy.l) with h1 | h1
              · rw [h1, dig_zero] at h3; rw [h3] at h0; exact absurd h0 (Nat.lt_irrefl 0)
              · exact h1
            conv => whnf
            refine ⟨⟨wsC_pure _, wsC_pure _, trivial⟩, ⟨_, _, _, _, _, _, _, val WB ox.l, _, _, _, _, _, _, _, val WB oy.l, rfl, rfl, (congrArg List.length h2).symm, (congrArg List.length h3).symm, wat_eq ox h2, wat_eq oy h3, hn0, h4, h5, fun hmn oq hoq => ?_, fun hmn oq or hoq hor => ?_⟩⟩
            · conv => whnf
              refine ⟨[0, 2, 1], [4, 5, 6], [0, 1, 2], fun vs2 => ?_⟩
              conv => whnf
              refine ⟨fun _ _ => rfl, wsC_pure _, wsC_pure _, ?_⟩
              conv => whnf
              refine ⟨_, _, ?_, ?_, ⟨(oy, ox, vs2), by rw [Nat.gcd_comm]; exact h1, h3, h2, h5, h4⟩, hmn, rfl, rfl⟩
              · exact ⟨fun _ => rfl, fun _ => rfl, fun _ => rfl, fun _ => rfl, fun _ => rfl, fun _ => rfl, fun _ => rfl, fun _ => rfl, fun _ => rfl, fun _ => rfl, fun _ => rfl, fun _ => rfl, fun _ => rfl, fun _ => rfl, fun _ => rfl, fun _ => rfl, fun _ => rfl, fun _ => rfl, fun _ => rfl, fun _ => rfl, fun _ => rfl, fun _ => rfl, fun _ => rfl, fun _ => rfl, fun _ => rfl, fun _ => rfl, trivial⟩
              · exact ⟨⟨rfl, rfl, rfl, fun _ => rfl⟩, ⟨rfl, rfl, rfl, fun _ => rfl⟩, ⟨rfl, rfl, rfl, fun _ => rfl⟩, trivial⟩
            · have hv2 : val WB or.l = val WB ox.l % val WB oy.l := by rw [hor, val_dig WB_two]
              have hl2 : or.l.length ≤ 80000000 := by rw [hor]; exact Nat.le_trans (dig_len_mono WB_two (Nat.mod_le _ _)) (by rw [← h2]; exact h4)
              conv => whnf
              refine ⟨[0, 2, 4], [4, 5, 6], [0, 1, 2], fun vs2 => ?_⟩
              conv => whnf
              refine ⟨fun _ _ => rfl, wsC_pure _, wsC_pure _, ?_⟩
              conv => whnf
              refine ⟨_, _, ?_, ?_, ⟨(oy, or, vs2), by rw [hv2, Nat.gcd_comm, ← Nat.gcd_rec, Nat.gcd_comm]; exact h1, h3, by rw [hv2]; exact hor, h5, hl2⟩, by show val WB or.l < val WB oy.l; rw [hv2]; exact Nat.mod_lt _ hn0, rfl, rfl⟩
              · exact ⟨fun _ => rfl, fun _ => rfl, fun _ => rfl, fun _ => rfl, fun _ => rfl, fun _ => rfl, fun _ => rfl, fun _ => rfl, fun _ => rfl, fun _ => rfl, fun _ => rfl, fun _ => rfl, fun _ => rfl, fun _ => rfl, fun _ => rfl, fun _ => rfl, fun _ => rfl, fun _ => rfl, fun _ => rfl, fun _ => rfl, fun _ => rfl, fun _ => rfl, fun _ => rfl, fun _ => rfl, fun _ => rfl, fun _ => rfl, trivial⟩
              · exact ⟨⟨rfl, rfl, rfl, fun _ => rfl⟩, ⟨rfl, rfl, rfl, fun _ => rfl⟩, ⟨rfl, rfl, rfl, fun _ => rfl⟩, trivial⟩
          · have h0 : oy.l.length = 0 := len_zero h0
            conv => whnf
            exact hqx ⟨(ox, oy), by rw [← h1, List.eq_nil_of_length_eq_zero h0]; exact (Nat.gcd_zero_right _).symm, h2, h4⟩ (fun i => nth uv (_ :: _ :: _ :: _ :: uv :: uv :: _ :: _ :: _ :: _ :: _ :: _ :: _ :: _ :: _ :: _ :: _ :: _ :: _ :: _ :: _ :: _ :: _ :: _ :: _ :: _ :: []) i)
        · rintro ⟨⟨ox, oy⟩, h1, h2, h4⟩ jj
          have h1 : val WB ox.l = (Nat.gcd X.z.natAbs Y.z.natAbs) := h1
          have h2 : ox.l = dig WB (val WB ox.l) := h2
          have h4 : ox.l.length ≤ 80000000 := h4
          conv => whnf
          refine ⟨⟨ox.l, WAt.ow ox, rfl, by rw [h2]; exact dig_Dl WB_two _, Nat.le_trans h4 (by decide)⟩, ?_⟩
          conv => whnf
          intro ρ
          rw [wsOf_ow ox]
          exact wv_sv _ h1 (fun _ => ⟨fun h => (by cases h), fun h => absurd h (by omega)⟩) ρ
    · conv => whnf
      refine ⟨?_, trivial⟩
      · conv => whnf
        refine ⟨fun _ _ => rfl, trivial, ⟨_, b, s, rfl, rfl, NumA.raw, (nX.sz kX), fun ox hox => ?_⟩⟩
        rw [nX.natAbs] at hox
        conv => whnf
        refine ⟨fun _ _ => rfl, trivial, ⟨_, c, t, rfl, rfl, NumA.raw, (nY.sz kY), fun oy hoy => ?_⟩⟩
        rw [nY.natAbs] at hoy
        have hvx : val WB ox.l = X.z.natAbs := by rw [hox, val_dig WB_two]
        have hvy : val WB oy.l = Y.z.natAbs := by rw [hoy, val_dig WB_two]
        conv => whnf
        refine loop_cut (G := {g : OW × OW × (Nat → Value) // GcdI (Nat.gcd X.z.natAbs Y.z.natAbs) g.1 g.2.1}) (X := {x : OW × OW // val WB x.1.l = (Nat.gcd X.z.natAbs Y.z.natAbs) ∧ x.1.l = dig WB (val WB x.1.l) ∧ x.1.l.length ≤ 80000000}) (fun g => (.c (.val (g.1.2.2 0)) :: .c (.val (g.1.2.2 1)) :: .c (.val (g.1.2.2 2)) :: .c (.val (g.1.2.2 3)) :: .c (.ptr 0 0) :: (g.1.1.sl 1) :: (g.1.2.1.sl 2) :: .c (.val (g.1.2.2 7)) :: .c (.val (g.1.2.2 8)) :: .c (.val (g.1.2.2 9)) :: .c (.val (g.1.2.2 10)) :: .c (.val (g.1.2.2 11)) :: .c (.val (g.1.2.2 12)) :: .c (.val (g.1.2.2 13)) :: .c (.val (g.1.2.2 14)) :: .c (.val (g.1.2.2 15)) :: .c (.val (g.1.2.2 16)) :: .c (.val (g.1.2.2 17)) :: .c (.val (g.1.2.2 18)) :: .c (.val (g.1.2.2 19)) :: .c (.val (g.1.2.2 20)) :: .c (.val (g.1.2.2 21)) :: .c (.val (g.1.2.2 22)) :: .c (.val (g.1.2.2 23)) :: .c (.val (g.1.2.2 24)) :: .c (.val (g.1.2.2 25)) :: [])) (fun g => [⟨27, false, [.wid 0 0 (by unfold Sm; decide)], 0⟩, g.1.1.blk, g.1.2.1.blk]) (fun g => val WB g.1.2.1.l) 0 (fun x j => (j 0 :: j 1 :: j 2 :: j 3 :: .c (.ptr 0 0) :: (x.1.1.sl 1) :: j 6 :: j 7 :: j 8 :: j 9 :: j 10 :: j 11 :: j 12 :: j 13 :: j 14 :: j 15 :: j 16 :: j 17 :: j 18 :: j 19 :: j 20 :: j 21 :: j 22 :: j 23 :: j 24 :: j 25 :: [])) (fun x => [⟨27, false, [.wid 0 0 (by unfold Sm; decide)], 0⟩, x.1.1.blk, x.1.2.blk]) ?_ ?_ ?_
        · refine ⟨[2, 3, 4], [4, 5, 6], [0, 1, 2], fun vs => ?_⟩
          conv => whnf
          refine ⟨fun _ _ => rfl, wsC_pure _, wsC_pure _, ?_⟩
          conv => whnf
          refine ⟨_, _, ?_, ?_, ⟨(ox, oy, vs), by rw [hvx, hvy], by rw [hvx]; exact hox, by rw [hvy]; exact hoy, by rw [hox]; exact nX.len8 kX, by rw [hoy]; exact nY.len8 kY⟩, rfl, rfl⟩
          · exact ⟨fun _ => rfl, fun _ => rfl, fun _ => rfl, fun _ => rfl, fun _ => rfl, fun _ => rfl, fun _ => rfl, fun _ => rfl, fun _ => rfl, fun _ => rfl, fun _ => rfl, fun _ => rfl, fun _ => rfl, fun _ => rfl, fun _ => rfl, fun _ => rfl, fun _ => rfl, fun _ => rfl, fun _ => rfl, fun _ => rfl, fun _ => rfl, fun _ => rfl, fun _ => rfl, fun _ => rfl, fun _ => rfl, fun _ => rfl, trivial⟩
          · exact ⟨⟨rfl, rfl, rfl, fun _ => rfl⟩, ⟨rfl, rfl, rfl, fun _ => rfl⟩, ⟨rfl, rfl, rfl, fun _ => rfl⟩, trivial⟩
        · intro Qx hqx
          rintro ⟨⟨ox, oy, vs3⟩, h1, h2, h3, h4, h5⟩
          have h1 : Nat.gcd (val WB ox.l) (val WB oy.l) = (Nat.gcd X.z.natAbs Y.z.natAbs) := h1
          have h2 : ox.l = dig WB (val WB ox.l) := h2
          have h3 : oy.l = dig WB (val WB oy.l) := h3
          have h4 : ox.l.length ≤ 80000000 := h4
          have h5 : oy.l.length ≤ 80000000 := h5
          conv => whnf
          refine bcase_intro (fun h0 => ?_) (fun h0 => ?_)
          · have h0 : 0 < oy.l.length := nz_gt h0
            have hn0 : 0 < val WB oy.l := by
              rcases Nat.eq_zero_or_pos (val WB oy.l) with h1 | h1
              · rw [h1, dig_zero] at h3; rw [h3] at h0; exact absurd h0 (Nat.lt_irrefl 0)
              · exact h1
            conv => whnf
            refine ⟨⟨wsC_pure _, wsC_pure _, trivial⟩, ⟨_, _, _, _, _, _, _, val WB ox.l, _, _, _, _, _, _, _, val WB oy.l, rfl, rfl, (congrArg List.length h2).symm, (congrArg List.length h3).symm, wat_eq ox h2, wat_eq oy h3, hn0, h4, h5, fun hmn oq hoq => ?_, fun hmn oq or hoq hor => ?_⟩⟩
            · conv => whnf
              refine ⟨[0, 2, 1], [4, 5, 6], [0, 1, 2], fun vs2 => ?_⟩
              conv => whnf
              refine ⟨fun _ _ => rfl, wsC_pure _, wsC_pure _, ?_⟩
              conv => whnf
              refine ⟨_, _, ?_, ?_, ⟨(oy, ox, vs2), by rw [Nat.gcd_comm]; exact h1, h3, h2, h5, h4⟩, hmn, rfl, rfl⟩
              · exact ⟨fun _ => rfl, fun _ => rfl, fun _ => rfl, fun _ => rfl, fun _ => rfl, fun _ => rfl, fun _ => rfl, fun _ => rfl, fun _ => rfl, fun _ => rfl, fun _ => rfl, fun _ => rfl, fun _ => rfl, fun _ => rfl, fun _ => rfl, fun _ => rfl, fun _ => rfl, fun _ => rfl, fun _ => rfl, fun _ => rfl, fun _ => rfl, fun _ => rfl, fun _ => rfl, fun _ => rfl, fun _ => rfl, fun _ => rfl, trivial⟩
              · exact ⟨⟨rfl, rfl, rfl, fun _ => rfl⟩, ⟨rfl, rfl, rfl, fun _ => rfl⟩, ⟨rfl, rfl, rfl, fun _ => rfl⟩, trivial⟩
            · have hv2 : val WB or.l = val WB ox.l % val WB oy.l := by rw [hor, val_dig WB_two]
              have hl2 : or.l.length ≤ 80000000 := by rw [hor]; exact Nat.le_trans (dig_len_mono WB_two (Nat.mod_le _ _)) (by rw [← h2]; exact h4)
              conv => whnf
              refine ⟨[0, 2, 4], [4, 5, 6], [0, 1, 2], fun vs2 => ?_⟩
              conv => whnf
              refine ⟨fun _ _ => rfl, wsC_pure _, wsC_pure _, ?_⟩
              conv => whnf
              refine ⟨_, _, ?_, ?_, ⟨(oy, or, vs2), by rw [hv2, Nat.gcd_comm, ← Nat.gcd_rec, Nat.gcd_comm]; exact h1, h3, by rw [hv2]; exact hor, h5, hl2⟩, by show val WB or.l < val WB oy.l; rw [hv2]; exact Nat.mod_lt _ hn0, rfl, rfl⟩
              · exact ⟨fun _ => rfl, fun _ => rfl, fun _ => rfl, fun _ => rfl, fun _ => rfl, fun _ => rfl, fun _ => rfl, fun _ => rfl, fun _ => rfl, fun _ => rfl, fun _ => rfl, fun _ => rfl, fun _ => rfl, fun _ => rfl, fun _ => rfl, fun _ => rfl, fun _ => rfl, fun _ => rfl, fun _ => rfl, fun _ => rfl, fun _ => rfl, fun _ => rfl, fun _ => rfl, fun _ => rfl, fun _ => rfl, fun _ => rfl, trivial⟩
              · exact ⟨⟨rfl, rfl, rfl, fun _ => rfl⟩, ⟨rfl, rfl, rfl, fun _ => rfl⟩, ⟨rfl, rfl, rfl, fun _ => rfl⟩, trivial⟩
          · have h0 : oy.l.length = 0 := len_zero h0
            conv => whnf
            exact hqx ⟨(ox, oy), by rw [← h1, List.eq_nil_of_length_eq_zero h0]; exact (Nat.gcd_zero_right _).symm, h2, h4⟩ (fun i => nth uv (_ :: _ :: _ :: _ :: uv :: uv :: _ :: _ :: _ :: _ :: _ :: _ :: _ :: _ :: _ :: _ :: _ :: _ :: _ :: _ :: _ :: _ :: _ :: _ :: _ :: _ :: []) i)
        · rintro ⟨⟨ox, oy⟩, h1, h2, h4⟩ jj
          have h1 : val WB ox.l = (Nat.gcd X.z.natAbs Y.z.natAbs) := h1
          have h2 : ox.l = dig WB (val WB ox.l) := h2
          have h4 : ox.l.length ≤ 80000000 := h4
          conv => whnf
          refine ⟨⟨ox.l, WAt.ow ox, rfl, by rw [h2]; exact dig_Dl WB_two _, Nat.le_trans h4 (by decide)⟩, ?_⟩
          conv => whnf
          intro ρ
          rw [wsOf_ow ox]
          exact wv_sv _ h1 (fun _ => ⟨fun h => (by cases h), fun h => absurd h (by omega)⟩) ρ
  · conv => whnf
    refine ⟨?_, trivial⟩
    · conv => whnf
      refine ⟨?_, trivial⟩
      · conv => whnf
        refine ⟨fun _ _ => rfl, trivial, ⟨_, b, s, rfl, rfl, NumA.raw, (nX.sz kX), fun ox hox => ?_⟩⟩
        rw [nX.natAbs] at hox
        conv => whnf
        refine ⟨fun _ _ => rfl, trivial, ⟨_, c, t, rfl, rfl, NumA.raw, (nY.sz kY), fun oy hoy => ?_⟩⟩
        rw [nY.natAbs] at hoy
        have hvx : val WB ox.l = X.z.natAbs := by rw [hox, val_dig WB_two]
        have hvy : val WB oy.l = Y.z.natAbs := by rw [hoy, val_dig WB_two]
        conv => whnf
        refine loop_cut (G := {g : OW × OW × (Nat → Value) // GcdI (Nat.gcd X.z.natAbs Y.z.natAbs) g.1 g.2.1}) (X := {x : OW × OW // val WB x.1.l = (Nat.gcd X.z.natAbs Y.z.natAbs) ∧ x.1.l = dig WB (val WB x.1.l) ∧ x.1.l.length ≤ 80000000}) (fun g => (.c (.val (g.1.2.2 0)) :: .c (.val (g.1.2.2 1)) :: .c (.val (g.1.2.2 2)) :: .c (.val (g.1.2.2 3)) :: .c (.ptr 0 0) :: (g.1.1.sl 1) :: (g.1.2.1.sl 2) :: .c (.val (g.1.2.2 7)) :: .c (.val (g.1.2.2 8)) :: .c (.val (g.1.2.2 9)) :: .c (.val (g.1.2.2 10)) :: .c (.val (g.1.2.2 11)) :: .c (.val (g.1.2.2 12)) :: .c (.val (g.1.2.2 13)) :: .c (.val (g.1.2.2 14)) :: .c (.val (g.1.2.2 15)) :: .c (.val (g.1.2.2 16)) :: .c (.val (g.1.2.2 17)) :: .c (.val (g.1.2.2 18)) :: .c (.val (g.1.2.2 19)) :: .c (.val (g.1.2.2 20)) :: .c (.val (g.1.2.2 21)) :: .c (.val (g.1.2.2 22)) :: .c (.val (g.1.2.2 23)) :: .c (.val (g.1.2.2 24)) :: .c (.val (g.1.2.2 25)) :: [])) (fun g => [⟨27, false, [.wid 0 0 (by unfold Sm; decide)], 0⟩, g.1.1.blk, g.1.2.1.blk]) (fun g => val WB g.1.2.1.l) 0 (fun x j => (j 0 :: j 1 :: j 2 :: j 3 :: .c (.ptr 0 0) :: (x.1.1.sl 1) :: j 6 :: j 7 :: j 8 :: j 9 :: j 10 :: j 11 :: j 12 :: j 13 :: j 14 :: j 15 :: j 16 :: j 17 :: j 18 :: j 19 :: j 20 :: j 21 :: j 22 :: j 23 :: j 24 :: j 25 :: [])) (fun x => [⟨27, false, [.wid 0 0 (by unfold Sm; decide)], 0⟩, x.1.1.blk, x.1.2.blk]) ?_ ?_ ?_
        · refine ⟨[2, 3, 4], [4, 5, 6], [0, 1, 2], fun vs => ?_⟩
          conv => whnf
          refine ⟨fun _ _ => rfl, wsC_pure _, wsC_pure _, ?_⟩
          conv => whnf
          refine ⟨_, _, ?_, ?_, ⟨(ox, oy, vs), by rw [hvx, hvy], by rw [hvx]; exact hox, by rw [hvy]; exact hoy, by rw [hox]; exact nX.len8 kX, by rw [hoy]; exact nY.len8 kY⟩, rfl, rfl⟩
          · exact ⟨fun _ => rfl, fun _ => rfl, fun _ => rfl, fun _ => rfl, fun _ => rfl, fun _ => rfl, fun _ => rfl, fun _ => rfl, fun _ => rfl, fun _ => rfl, fun _ => rfl, fun _ => rfl, fun _ => rfl, fun _ => rfl, fun _ => rfl, fun _ => rfl, fun _ => rfl, fun _ => rfl, fun _ => rfl, fun _ => rfl, fun _ => rfl, fun _ => rfl, fun _ => rfl, fun _ => rfl, fun _ => rfl, fun _ => rfl, trivial⟩
          · exact ⟨⟨rfl, rfl, rfl, fun _ => rfl⟩, ⟨rfl, rfl, rfl, fun _ => rfl⟩, ⟨rfl, rfl, rfl, fun _ => rfl⟩, trivial⟩
        · intro Qx hqx
          rintro ⟨⟨ox, oy, vs3⟩, h1, h2, h3, h4, h5⟩
          have h1 : Nat.gcd (val WB ox.l) (val WB oy.l) = (Nat.gcd X.z.natAbs Y.z.natAbs) := h1
          have h2 : ox.l = dig WB (val WB ox.l) := h2
          have h3 : oy.l = dig WB (val WB oy.l) := h3
          have h4 : ox.l.length ≤ 80000000 := h4
          have h5 : oy.l.length ≤ 80000000 := h5
          conv => whnf
          refine bcase_intro (fun h0 => ?_) (fun h0 => ?_)
          · have h0 : 0 < oy.l.length := nz_gt h0
            have hn0 : 0 < val WB oy.l := by
              rcases Nat.eq_zero_or_pos (val WB oy.l) with h1 | h1
              · rw [h1, dig_zero] at h3; rw [h3] at h0; exact absurd h0 (Nat.lt_irrefl 0)
              · exact h1
            conv => whnf
            refine ⟨⟨wsC_pure _, wsC_pure _, trivial⟩, ⟨_, _, _, _, _, _, _, val WB ox.l, _, _, _, _, _, _, _, val WB oy.l, rfl, rfl, (congrArg List.length h2).symm, (congrArg List.length h3).symm, wat_eq ox h2, wat_eq oy h3, hn0, h4, h5, fun hmn oq hoq => ?_, fun hmn oq or hoq hor => ?_⟩⟩
            · conv => whnf
              refine ⟨[0, 2, 1], [4, 5, 6], [0, 1, 2], fun vs2 => ?_⟩
              conv => whnf
              refine ⟨fun _ _ => rfl, wsC_pure _, wsC_pure _, ?_⟩
              conv => whnf
              refine ⟨_, _, ?_, ?_, ⟨(oy, ox, vs2), by rw [Nat.gcd_comm]; exact h1, h3, h2, h5, h4⟩, hmn, rfl, rfl⟩
              · exact ⟨fun _ => rfl, fun _ => rfl, fun _ => rfl, fun _ => rfl, fun _ => rfl, fun _ => rfl, fun _ => rfl, fun _ => rfl, fun _ => rfl, fun _ => rfl, fun _ => rfl, fun _ => rfl, fun _ => rfl, fun _ => rfl, fun _ => rfl, fun _ => rfl, fun _ => rfl, fun _ => rfl, fun _ => rfl, fun _ => rfl, fun _ => rfl, fun _ => rfl, fun _ => rfl, fun _ => rfl, fun _ => rfl, fun _ => rfl, trivial⟩
              · exact ⟨⟨rfl, rfl, rfl, fun _ => rfl⟩, ⟨rfl, rfl, rfl, fun _ => rfl⟩, ⟨rfl, rfl, rfl, fun _ => rfl⟩, trivial⟩
            · have hv2 : val WB or.l = val WB ox.l % val WB oy.l := by rw [hor, val_dig WB_two]
              have hl2 : or.l.length ≤ 80000000 := by rw [hor]; exact Nat.le_trans (dig_len_mono WB_two (Nat.mod_le _ _)) (by rw [← h2]; exact h4)
              conv => whnf
              refine ⟨[0, 2, 4], [4, 5, 6], [0, 1, 2], fun vs2 => ?_⟩
              conv => whnf
              refine ⟨fun _ _ => rfl, wsC_pure _, wsC_pure _, ?_⟩
              conv => whnf
              refine ⟨_, _, ?_, ?_, ⟨(oy, or, vs2), by rw [hv2, Nat.gcd_comm, ← Nat.gcd_rec, Nat.gcd_comm]; exact h1, h3, by rw [hv2]; exact hor, h5, hl2⟩, by show val WB or.l < val WB oy.l; rw [hv2]; exact Nat.mod_lt _ hn0, rfl, rfl⟩
              · exact ⟨fun _ => rfl, fun _ => rfl, fun _ => rfl, fun _ => rfl, fun _ => rfl, fun _ => rfl, fun _ => rfl, fun _ => rfl, fun _ => rfl, fun _ => rfl, fun _ => rfl, fun _ => rfl, fun _ => rfl, fun _ => rfl, fun _ => rfl, fun _ => rfl, fun _ => rfl, fun _ => rfl, fun _ => rfl, fun _ => rfl, fun _ => rfl, fun _ => rfl, fun _ => rfl, fun _ => rfl, fun _ => rfl, fun _ => rfl, trivial⟩
              · exact ⟨⟨rfl, rfl, rfl, fun _ => rfl⟩, ⟨rfl, rfl, rfl, fun _ => rfl⟩, ⟨rfl, rfl, rfl, fun _ => rfl⟩, trivial⟩
          · have h0 : oy.l.length = 0 := len_zero h0
            conv => whnf
            exact hqx ⟨(ox, oy), by rw [← h1, List.eq_nil_of_length_eq_zero h0]; exact (Nat.gcd_zero_right _).symm, h2, h4⟩ (fun i => nth uv (_ :: _ :: _ :: _ :: uv :: uv :: _ :: _ :: _ :: _ :: _ :: _ :: _ :: _ :: _ :: _ :: _ :: _ :: _ :: _ :: _ :: _ :: _ :: _ :: _ :: _ :: []) i)
        · rintro ⟨⟨ox, oy⟩, h1, h2, h4⟩ jj
          have h1 : val WB ox.l = (Nat.gcd X.z.natAbs Y.z.natAbs) := h1
          have h2 : ox.l = dig WB (val WB ox.l) := h2
          have h4 : ox.l.length ≤ 80000000 := h4
          conv => whnf
          refine ⟨⟨ox.l, WAt.ow ox, rfl, by rw [h2]; exact dig_Dl WB_two _, Nat.le_trans h4 (by decide)⟩, ?_⟩
          conv => whnf
          intro ρ
          rw [wsOf_ow ox]
          exact wv_sv _ h1 (fun _ => ⟨fun h => (by cases h), fun h => absurd h (by omega)⟩) ρ
end Go.Proofs.YtbhcmajeoamloaaDoor

namespace Go.Proofs.YtbhcmajeoamloaaDoor
open Go.RowKit
set_option maxRecDepth 100000

/-- the square root, rounded down -/
def isq : Nat → Nat
  | 0 => 0
  | n + 1 => if (isq n + 1) * (isq n + 1) ≤ n + 1 then isq n + 1 else isq n
theorem isq_spec : ∀ n, isq n * isq n ≤ n ∧ n < (isq n + 1) * (isq n + 1)
  | 0 => ⟨Nat.le_refl _, by decide⟩
  | n + 1 => by
    obtain ⟨h1, h2⟩ := isq_spec n
    unfold isq
    split
    · rename_i h
      refine ⟨h, ?_⟩
      have h3 : (isq n + 1 + 1) * (isq n + 1 + 1) = (isq n + 1) * (isq n + 1) + 2 * (isq n + 1) + 1 := by grind
      omega
    · rename_i h; exact ⟨by omega, by omega⟩
theorem isq_le (n : Nat) : isq n ≤ n := by
  have h := (isq_spec n).1
  rcases Nat.eq_zero_or_pos (isq n) with h0 | h0
  · omega
  · exact Nat.le_trans (Nat.le_mul_of_pos_left _ h0) h
theorem isq_eq {n r : Nat} (h1 : r * r ≤ n) (h2 : n < (r + 1) * (r + 1)) : isq n = r := by
  obtain ⟨h3, h4⟩ := isq_spec n
  rcases Nat.lt_trichotomy (isq n) r with h | h | h
  · have : (isq n + 1) * (isq n + 1) ≤ r * r := Nat.mul_le_mul h h
    omega
  · exact h
  · have : (r + 1) * (r + 1) ≤ isq n * isq n := Nat.mul_le_mul h h
    omega
def rootZ (z : Int) : Int := if z < 0 then 0 else (isq z.natAbs : Nat)
theorem sm_root {k : Nat} {z : Int} (h : Sm k z) : Sm k (rootZ z) := by
  unfold rootZ
  split
  · exact Nat.pow_pos (by decide)
  · exact h.of_le (by rw [Int.natAbs_natCast]; exact isq_le _)
def rootV (X : NA) : SV := .tup [.agg [.wid X.k (rootZ X.z) (sm_root X.h)], .c (.val (.bool (decide (0 ≤ X.z))))]
def dRootA : Dn := num1 rootV
def RootI (x : Nat) (r : OW) : Prop := x < (val WB r.l + 1) * (val WB r.l + 1) ∧ r.l = dig WB (val WB r.l) ∧ 0 < val WB r.l ∧ r.l.length ≤ 80000000
theorem half_make {n : Nat} (h : n ≤ 80000000) : IntKind.i64.wrap ((IntKind.i64.wrap ((n : Int) + 1)).tdiv 2) = (((n + 1) / 2 : Nat) : Int) := by
  rw [wrap_id (z := (n : Int) + 1) (by unfold IR; omega), Int.tdiv_eq_ediv_of_nonneg (by omega), wrap_id (by unfold IR; omega)]; omega
/-- where Newton's way begins -/
def OW.start (n cap : Nat) (h : SliOk false (n + 1) cap) : OW := ⟨List.replicate n 0 ++ [1], [], false, cap, by rw [List.length_append, List.length_replicate]; exact h, by rw [List.append_nil, List.length_append, List.length_replicate]; exact h.1⟩
theorem start_val (n : Nat) : val WB (List.replicate n 0 ++ [1]) = WB ^ n := by rw [val_append, val_replicate, List.length_replicate]; simp [val]
theorem start_dig (n : Nat) : List.replicate n 0 ++ [1] = dig WB (val WB (List.replicate n 0 ++ [1])) := by
  refine (dig_unique WB_two ((Dl.replicate WB_pos n).append (Dl.one (by rw [WB_eq]; decide))) (.inr ?_)).symm
  rw [List.length_append, List.length_replicate, List.getD_eq_getElem?_getD, List.getElem?_append_right (by rw [List.length_replicate]; simp), List.length_replicate]
  simp
theorem RootI.start {x cap : Nat} (hl : (dig WB x).length ≤ 80000000) {h : SliOk false (((dig WB x).length + 1) / 2 + 1) cap} : RootI x (OW.start (((dig WB x).length + 1) / 2) cap h) := by
  refine ⟨?_, start_dig _, ?_, ?_⟩
  · show x < (val WB (List.replicate _ 0 ++ [1]) + 1) * (val WB (List.replicate _ 0 ++ [1]) + 1)
    rw [start_val]
    have h1 := lt_of_dig_length WB_two x
    have h2 : WB ^ (dig WB x).length ≤ WB ^ (((dig WB x).length + 1) / 2) * WB ^ (((dig WB x).length + 1) / 2) := by
      rw [← Nat.pow_add]; exact Nat.pow_le_pow_right WB_pos (by omega)
    have h3 : WB ^ (((dig WB x).length + 1) / 2) * WB ^ (((dig WB x).length + 1) / 2) ≤ (WB ^ (((dig WB x).length + 1) / 2) + 1) * (WB ^ (((dig WB x).length + 1) / 2) + 1) := Nat.mul_le_mul (Nat.le_succ _) (Nat.le_succ _)
    omega
  · show 0 < val WB (List.replicate _ 0 ++ [1])
    rw [start_val]; exact Nat.pow_pos WB_pos
  · show (List.replicate _ 0 ++ [1]).length ≤ _
    rw [List.length_append, List.length_replicate]; simp; omega
theorem RootI.next {x : Nat} {r : OW} (h : RootI x r) (hx : 0 < x) {on : OW} (ho : on.l = dig WB ((val WB r.l + x / val WB r.l) / 2)) (hlt : (val WB r.l + x / val WB r.l) / 2 < val WB r.l) : RootI x on := by
  obtain ⟨h1, h2, h3, h4⟩ := h
  have hv : val WB on.l = (val WB r.l + x / val WB r.l) / 2 := by rw [ho, val_dig WB_two]
  refine ⟨?_, by rw [hv]; exact ho, ?_, ?_⟩
  · rw [hv]; exact isqrt_step h3 rfl rfl
  · rw [hv]
    rcases Nat.lt_or_ge 1 (val WB r.l) with h5 | h5
    · generalize x / val WB r.l = q; omega
    · have e : val WB r.l = 1 := by omega
      rw [e, Nat.div_one]; omega
  · rw [ho]
    refine Nat.le_trans (dig_len_mono WB_two (Nat.le_of_lt hlt)) ?_
    rw [← h2]; exact h4
theorem RootI.done {x : Nat} {r : OW} (h : RootI x r) (hge : val WB r.l ≤ (val WB r.l + x / val WB r.l) / 2) : isq x = val WB r.l := by
  obtain ⟨h1, h2, h3, h4⟩ := h
  refine isq_eq ?_ h1
  have h5 : val WB r.l ≤ x / val WB r.l := by omega
  exact (Nat.le_div_iff_mul_le h3).1 h5
theorem dig_len_add {a b L : Nat} (h1 : (dig WB a).length ≤ L) (h2 : (dig WB b).length ≤ L) : (dig WB (a + b)).length ≤ L + 1 := by
  refine dig_length_le WB_two ?_
  have h6 := lt_of_dig_length WB_two a
  have h7 := lt_of_dig_length WB_two b
  have h8 : WB ^ (dig WB a).length ≤ WB ^ L := Nat.pow_le_pow_right WB_pos h1
  have h9 : WB ^ (dig WB b).length ≤ WB ^ L := Nat.pow_le_pow_right WB_pos h2
  have h12 : WB ^ L * 2 ≤ WB ^ L * WB := Nat.mul_le_mul_left _ WB_two
  rw [Nat.pow_succ]
  omega
def rootC : List (FuncId × NewC) := (67, cAdd) :: (76, cSmall) :: (71, cCmp) :: quoC
theorem rootC_ok : AllC Tryd.prog rootC := .cons csAdd <| .cons csSmall <| .cons csCmp quoC_ok
theorem cmpE_nneg {m n : Nat} : decide (0 ≤ cmpE m n) = decide (n ≤ m) := by
  unfold cmpE
  split
  · rename_i h; rw [decide_eq_false (by omega : ¬ n ≤ m)]; rfl
  · rename_i h; rw [decide_eq_true (by omega : n ≤ m)]; split <;> rfl
theorem tup2_sv {a b a' b' : T1} {ρ : Rho} (h1 : a.den ρ = a'.den ρ) (h2 : b.den ρ = b'.den ρ) : (SV.tup [a, b]).den ρ = (SV.tup [a', b']).den ρ := tup2_den h1 h2
set_option maxHeartbeats 8000000 in
theorem spRootA : SpOk Tryd.prog 52 dRootA := sp_num1H ⟨Tryd.func52, by kernel_rfl, by kernel_rfl⟩ (envN_ok .nil rdN_ok 0 fun _ => false) (mix_ok rootC_ok (envN_ok .nil rdN_ok 0 fun _ => false) mixed noF_ok 0) (fun _ _ _ => rfl) fun X kX b s nX => by
  conv => whnf
  refine ⟨fun _ _ => rfl, trivial, ⟨_, b, s, rfl, rfl, NumA.raw, (nX.sz kX), fun ox hox => ?_⟩⟩
  rw [nX.natAbs] at hox
  conv => whnf
  refine bcase_intro (fun hz => ?_) (fun hz => ?_)
  · have hz : X.z = 0 := by
      have h1 : ox.l.length = 0 := by have := of_decide_eq_true hz; omega
      rw [hox] at h1
      have := (dig_len_zero WB_two).1 h1
      omega
    conv => whnf
    refine fun ρ => tup2_sv (wid_agg _ _ (by rw [hz]; rfl) ρ) ?_
    show Value.bool true = Value.bool (decide (0 ≤ X.z))
    rw [hz]; rfl
  · have hz : X.z ≠ 0 := fun e => of_decide_eq_false hz (by rw [hox, e, Int.natAbs_zero, dig_zero]; rfl)
    have hm0 : 0 < X.z.natAbs := by omega
    have hx8 : (dig WB X.z.natAbs).length ≤ 80000000 := nX.len8 kX
    have hol : ox.l.length ≤ 80000000 := by rw [hox]; exact hx8
    conv => whnf
    refine bcase_intro (fun hb => ?_) (fun hb => ?_)
    · have hz0 : X.z < 0 := by rcases nX.sgn with ⟨_, h⟩ | ⟨h, _⟩; omega; rw [hb] at h; cases h
      conv => whnf
      refine fun ρ => tup2_sv (wid_agg _ _ (by unfold rootZ; rw [if_pos hz0]) ρ) ?_
      show Value.bool false = Value.bool (decide (0 ≤ X.z))
      rw [decide_eq_false (by omega)]
    · have hz0 : ¬ X.z < 0 := by rcases nX.sgn with ⟨h, _⟩ | ⟨_, h⟩; rw [hb] at h; cases h; omega
      conv => whnf
      refine ⟨rfl, (ox.l.length + 1) / 2, (ox.l.length + 1) / 2, half_make hol, half_make hol, Nat.le_refl _, by omega, fun h2 => ?_⟩
      conv => whnf
      refine .inl ?_
      conv => whnf
      refine ⟨rfl, ?_⟩
      conv => whnf
      refine ⟨⟨rfl, rfl, by rw [Nat.mul_one]; exact sizeC_rep rfl _, fun _ => by rw [sizeC_rep rfl, Nat.sub_self, Nat.mul_one]; rfl, by omega⟩, fun cap2 hcap2 => ?_⟩
      have hcap2 : SliOk false ((ox.l.length + 1) / 2 + 1) cap2 := hcap2
      have hstart : RootI X.z.natAbs (OW.start ((ox.l.length + 1) / 2) cap2 hcap2) := by
        revert hcap2
        rw [hox]
        exact fun hcap2 => RootI.start hx8
      conv => whnf
      refine loop_st (G := {g : OW × (Nat → Value) // RootI X.z.natAbs g.1}) (fun g => (.c (.val (g.1.2 0)) :: .c (.val (g.1.2 1)) :: .c (.ptr 0 0) :: .c (.val (g.1.2 3)) :: (ox.sl 1) :: (g.1.1.sl 2) :: .c (.val (g.1.2 6)) :: .c (.val (g.1.2 7)) :: .c (.val (g.1.2 8)) :: .c (.val (g.1.2 9)) :: .c (.val (g.1.2 10)) :: .c (.val (g.1.2 11)) :: .c (.val (g.1.2 12)) :: .c (.val (g.1.2 13)) :: .c (.val (g.1.2 14)) :: .c (.val (g.1.2 15)) :: .c (.val (g.1.2 16)) :: .c (.val (g.1.2 17)) :: .c (.val (g.1.2 18)) :: .c (.val (g.1.2 19)) :: .c (.val (g.1.2 20)) :: .c (.val (g.1.2 21)) :: .c (.val (g.1.2 22)) :: .c (.val (g.1.2 23)) :: .c (.val (g.1.2 24)) :: .c (.val (g.1.2 25)) :: .c (.val (g.1.2 26)) :: .c (.val (g.1.2 27)) :: .c (.val (g.1.2 28)) :: .c (.val (g.1.2 29)) :: .c (.val (g.1.2 30)) :: .c (.val (g.1.2 31)) :: .c (.val (g.1.2 32)) :: .c (.val (g.1.2 33)) :: .c (.val (g.1.2 34)) :: .c (.val (g.1.2 35)) :: .c (.val (g.1.2 36)) :: .c (.val (g.1.2 37)) :: .c (.val (g.1.2 38)) :: .c (.val (g.1.2 39)) :: .c (.val (g.1.2 40)) :: .c (.val (g.1.2 41)) :: .c (.val (g.1.2 42)) :: .c (.val (g.1.2 43)) :: .c (.val (g.1.2 44)) :: .c (.val (g.1.2 45)) :: [])) (fun g => [⟨27, false, [.wid 0 0 (by unfold Sm; decide)], 0⟩, ox.blk, g.1.1.blk]) (fun g => val WB g.1.1.l) ?_ ?_
      · refine ⟨[1, 2, 5], [2, 4, 5], [0, 1, 2], fun vs => ?_⟩
        conv => whnf
        refine ⟨fun _ _ => rfl, wsC_pure _, pureL_append (rep_pure _) (fun _ _ => rfl), ?_⟩
        conv => whnf
        refine ⟨_, _, ?_, ?_, ⟨(OW.start ((ox.l.length + 1) / 2) cap2 hcap2, vs), hstart⟩, rfl, rfl⟩
        · exact ⟨fun _ => rfl, fun _ => rfl, fun _ => rfl, fun _ => rfl, fun _ => rfl, fun ρ => by show Value.slice _ _ _ = Value.slice _ _ _; rw [show (OW.start ((ox.l.length + 1) / 2) cap2 hcap2).l.length = (ox.l.length + 1) / 2 + 1 from by show (List.replicate _ 0 ++ [1]).length = _; rw [List.length_append, List.length_replicate]; rfl]; rfl, fun _ => rfl, fun _ => rfl, fun _ => rfl, fun _ => rfl, fun _ => rfl, fun _ => rfl, fun _ => rfl, fun _ => rfl, fun _ => rfl, fun _ => rfl, fun _ => rfl, fun _ => rfl, fun _ => rfl, fun _ => rfl, fun _ => rfl, fun _ => rfl, fun _ => rfl, fun _ => rfl, fun _ => rfl, fun _ => rfl, fun _ => rfl, fun _ => rfl, fun _ => rfl, fun _ => rfl, fun _ => rfl, fun _ => rfl, fun _ => rfl, fun _ => rfl, fun _ => rfl, fun _ => rfl, fun _ => rfl, fun _ => rfl, fun _ => rfl, fun _ => rfl, fun _ => rfl, fun _ => rfl, fun _ => rfl, fun _ => rfl, fun _ => rfl, fun _ => rfl, trivial⟩
        · exact ⟨⟨rfl, rfl, rfl, fun _ => rfl⟩, ⟨rfl, rfl, rfl, fun _ => rfl⟩, ⟨rfl, rfl, by show (cap2 - ((ox.l.length + 1) / 2 + 1)) * 1 = cap2 - ((List.replicate _ 0 ++ [1]) ++ []).length; rw [List.append_nil, List.length_append, List.length_replicate]; simp, fun ρ => by show cellsL ρ (repX _ (wC 0) ++ [wC 1]) = cellsL ρ (wsC ((List.replicate _ 0 ++ [1]) ++ [])); rw [List.append_nil, wsC_append, ← wsC_rep]; rfl⟩, trivial⟩
      · rintro ⟨⟨r, vs⟩, hr⟩
        have hr : RootI X.z.natAbs r := hr
        have hr2 := hr.2.1
        have hr3 := hr.2.2.1
        have hr4 := hr.2.2.2
        conv => whnf
        refine ⟨⟨wsC_pure _, wsC_pure _, trivial⟩, ⟨_, _, _, _, _, _, _, X.z.natAbs, _, _, _, _, _, _, _, val WB r.l, rfl, rfl, (congrArg List.length hox).symm, (congrArg List.length hr2).symm, wat_eq ox hox, wat_eq r hr2, hr3, by rw [hox]; exact hx8, hr4, fun hmn oq hoq => ?_, fun hmn oq or hoq hor => ?_⟩⟩
        · have hoqv : val WB oq.l = X.z.natAbs / val WB r.l := by rw [hoq, Nat.div_eq_of_lt hmn]; rfl
          have hoqd : Dl WB oq.l := by rw [hoq]; exact Dl.nil _
          have hoql : oq.l.length ≤ 80000000 := by rw [hoq]; exact Nat.zero_le _
          conv => whnf
          refine ⟨⟨wsC_pure _, wsC_pure _, trivial⟩, ⟨_, _, _, _, _, _, _, r.l, _, _, _, _, _, _, _, oq.l, rfl, rfl, rfl, rfl, WAt.ow r, WAt.ow oq, by rw [hr2]; exact dig_Dl WB_two _, hoqd, Nat.le_trans hr4 (by decide), Nat.le_trans hoql (by decide), trivial, fun os _ hos => ?_⟩⟩
          conv => whnf
          have hosv : val WB os.l = val WB r.l + X.z.natAbs / val WB r.l := by rw [hos, val_dig WB_two, hoqv]
          have hosl : os.l.length ≤ 100000000 := by
            rw [hos, hoqv]
            exact Nat.le_trans (dig_len_add (L := 80000000) (by rw [← hr2]; exact hr4) (Nat.le_trans (dig_len_mono WB_two (Nat.div_le_self _ _)) hx8)) (by decide)
          refine ⟨⟨wsC_pure _, trivial⟩, ⟨_, _, _, _, _, _, _, os.l, 2, rfl, rfl, rfl, WAt.ow os, by rw [hos]; exact dig_Dl WB_two _, hosl, by decide, by decide, fun on hon => ?_⟩⟩
          conv => whnf
          rw [hosv] at hon
          have honv : val WB on.l = (val WB r.l + X.z.natAbs / val WB r.l) / 2 := by rw [hon, val_dig WB_two]
          refine ⟨⟨wsC_pure _, wsC_pure _, trivial⟩, ⟨_, _, _, _, _, _, _, (val WB r.l + X.z.natAbs / val WB r.l) / 2, _, _, _, _, _, _, _, val WB r.l, rfl, rfl, (congrArg List.length hon).symm, (congrArg List.length hr2).symm, wat_eq on hon, wat_eq r hr2, ?_⟩⟩
          conv => whnf
          refine bcase_intro (fun hge => ?_) (fun hge => ?_)
          · have hge : val WB r.l ≤ (val WB r.l + X.z.natAbs / val WB r.l) / 2 := of_decide_eq_true (cmpE_nneg.symm.trans hge)
            conv => whnf
            refine ⟨⟨r.l, WAt.ow r, rfl, by rw [hr2]; exact dig_Dl WB_two _, Nat.le_trans hr4 (by decide)⟩, ?_⟩
            conv => whnf
            refine fun ρ => tup2_sv ?_ ?_
            · rw [wsOf_ow r, ← hr.done hge]
              refine wv_agg _ ?_ (fun _ => ⟨fun h => (by cases h), fun h => ?_⟩) ρ
              · unfold rootZ; rw [if_neg hz0]; rfl
              · exact absurd h (by unfold rootZ; rw [if_neg hz0]; omega)
            · show Value.bool true = Value.bool (decide (0 ≤ X.z))
              rw [decide_eq_true (by omega)]
          · have hlt : (val WB r.l + X.z.natAbs / val WB r.l) / 2 < val WB r.l := Nat.lt_of_not_le (of_decide_eq_false (cmpE_nneg.symm.trans hge))
            conv => whnf
            refine ⟨[0, 1, 5], [2, 4, 5], [0, 1, 2], fun vs2 => ?_⟩
            conv => whnf
            refine ⟨fun _ _ => rfl, wsC_pure _, wsC_pure _, ?_⟩
            conv => whnf
            refine ⟨_, _, ?_, ?_, ⟨(on, vs2), hr.next hm0 hon hlt⟩, by show val WB on.l < val WB r.l; rw [honv]; exact hlt, rfl, rfl⟩
            · exact ⟨fun _ => rfl, fun _ => rfl, fun _ => rfl, fun _ => rfl, fun _ => rfl, fun _ => rfl, fun _ => rfl, fun _ => rfl, fun _ => rfl, fun _ => rfl, fun _ => rfl, fun _ => rfl, fun _ => rfl, fun _ => rfl, fun _ => rfl, fun _ => rfl, fun _ => rfl, fun _ => rfl, fun _ => rfl, fun _ => rfl, fun _ => rfl, fun _ => rfl, fun _ => rfl, fun _ => rfl, fun _ => rfl, fun _ => rfl, fun _ => rfl, fun _ => rfl, fun _ => rfl, fun _ => rfl, fun _ => rfl, fun _ => rfl, fun _ => rfl, fun _ => rfl, fun _ => rfl, fun _ => rfl, fun _ => rfl, fun _ => rfl, fun _ => rfl, fun _ => rfl, fun _ => rfl, fun _ => rfl, fun _ => rfl, fun _ => rfl, fun _ => rfl, fun _ => rfl, trivial⟩
            · exact ⟨⟨rfl, rfl, rfl, fun _ => rfl⟩, ⟨rfl, rfl, rfl, fun _ => rfl⟩, ⟨rfl, rfl, rfl, fun _ => rfl⟩, trivial⟩
        · have hoqv : val WB oq.l = X.z.natAbs / val WB r.l := by rw [hoq, val_dig WB_two]
          have hoqd : Dl WB oq.l := by rw [hoq]; exact dig_Dl WB_two _
          have hoql : oq.l.length ≤ 80000000 := by rw [hoq]; exact Nat.le_trans (dig_len_mono WB_two (Nat.div_le_self _ _)) hx8
          conv => whnf
          refine ⟨⟨wsC_pure _, wsC_pure _, trivial⟩, ⟨_, _, _, _, _, _, _, r.l, _, _, _, _, _, _, _, oq.l, rfl, rfl, rfl, rfl, WAt.ow r, WAt.ow oq, by rw [hr2]; exact dig_Dl WB_two _, hoqd, Nat.le_trans hr4 (by decide), Nat.le_trans hoql (by decide), trivial, fun os _ hos => ?_⟩⟩
          conv => whnf
          have hosv : val WB os.l = val WB r.l + X.z.natAbs / val WB r.l := by rw [hos, val_dig WB_two, hoqv]
          have hosl : os.l.length ≤ 100000000 := by
            rw [hos, hoqv]
            exact Nat.le_trans (dig_len_add (L := 80000000) (by rw [← hr2]; exact hr4) (Nat.le_trans (dig_len_mono WB_two (Nat.div_le_self _ _)) hx8)) (by decide)
          refine ⟨⟨wsC_pure _, trivial⟩, ⟨_, _, _, _, _, _, _, os.l, 2, rfl, rfl, rfl, WAt.ow os, by rw [hos]; exact dig_Dl WB_two _, hosl, by decide, by decide, fun on hon => ?_⟩⟩
          conv => whnf
          rw [hosv] at hon
          have honv : val WB on.l = (val WB r.l + X.z.natAbs / val WB r.l) / 2 := by rw [hon, val_dig WB_two]
          refine ⟨⟨wsC_pure _, wsC_pure _, trivial⟩, ⟨_, _, _, _, _, _, _, (val WB r.l + X.z.natAbs / val WB r.l) / 2, _, _, _, _, _, _, _, val WB r.l, rfl, rfl, (congrArg List.length hon).symm, (congrArg List.length hr2).symm, wat_eq on hon, wat_eq r hr2, ?_⟩⟩
          conv => whnf
          refine bcase_intro (fun hge => ?_) (fun hge => ?_)
          · have hge : val WB r.l ≤ (val WB r.l + X.z.natAbs / val WB r.l) / 2 := of_decide_eq_true (cmpE_nneg.symm.trans hge)
            conv => whnf
            refine ⟨⟨r.l, WAt.ow r, rfl, by rw [hr2]; exact dig_Dl WB_two _, Nat.le_trans hr4 (by decide)⟩, ?_⟩
            conv => whnf
            refine fun ρ => tup2_sv ?_ ?_
            · rw [wsOf_ow r, ← hr.done hge]
              refine wv_agg _ ?_ (fun _ => ⟨fun h => (by cases h), fun h => ?_⟩) ρ
              · unfold rootZ; rw [if_neg hz0]; rfl
              · exact absurd h (by unfold rootZ; rw [if_neg hz0]; omega)
            · show Value.bool true = Value.bool (decide (0 ≤ X.z))
              rw [decide_eq_true (by omega)]
          · have hlt : (val WB r.l + X.z.natAbs / val WB r.l) / 2 < val WB r.l := Nat.lt_of_not_le (of_decide_eq_false (cmpE_nneg.symm.trans hge))
            conv => whnf
            refine ⟨[0, 1, 6], [2, 4, 5], [0, 1, 2], fun vs2 => ?_⟩
            conv => whnf
            refine ⟨fun _ _ => rfl, wsC_pure _, wsC_pure _, ?_⟩
            conv => whnf
            refine ⟨_, _, ?_, ?_, ⟨(on, vs2), hr.next hm0 hon hlt⟩, by show val WB on.l < val WB r.l; rw [honv]; exact hlt, rfl, rfl⟩
            · exact ⟨fun _ => rfl, fun _ => rfl, fun _ => rfl, fun _ => rfl, fun _ => rfl, fun _ => rfl, fun _ => rfl, fun _ => rfl, fun _ => rfl, fun _ => rfl, fun _ => rfl, fun _ => rfl, fun _ => rfl, fun _ => rfl, fun _ => rfl, fun _ => rfl, fun _ => rfl, fun _ => rfl, fun _ => rfl, fun _ => rfl, fun _ => rfl, fun _ => rfl, fun _ => rfl, fun _ => rfl, fun _ => rfl, fun _ => rfl, fun _ => rfl, fun _ => rfl, fun _ => rfl, fun _ => rfl, fun _ => rfl, fun _ => rfl, fun _ => rfl, fun _ => rfl, fun _ => rfl, fun _ => rfl, fun _ => rfl, fun _ => rfl, fun _ => rfl, fun _ => rfl, fun _ => rfl, fun _ => rfl, fun _ => rfl, fun _ => rfl, fun _ => rfl, fun _ => rfl, trivial⟩
            · exact ⟨⟨rfl, rfl, rfl, fun _ => rfl⟩, ⟨rfl, rfl, rfl, fun _ => rfl⟩, ⟨rfl, rfl, rfl, fun _ => rfl⟩, trivial⟩
end Go.Proofs.YtbhcmajeoamloaaDoor

namespace Go.Proofs.YtbhcmajeoamloaaDoor
open Go.RowKit
set_option maxRecDepth 100000

def intZ (z : Int) : Int := if IR z then z else 0
theorem ir_intZ (z : Int) : IR (intZ z) := by unfold intZ; split; assumption; decide
def intV (X : NA) : SV := .tup [.c (.int (intZ X.z) (ir_intZ _)), .c (.val (.bool (decide (IR X.z))))]
def dIntA : Dn := num1 intV
theorem int_t1 {a b : Int} {ha : IR a} {hb : IR b} (e : a = b) (ρ : Rho) : (T1.c (.int a ha)).den ρ = (T1.c (.int b hb)).den ρ := by subst e; rfl
theorem bool_t1 {a b : Bool} (e : a = b) (ρ : Rho) : (T1.c (.val (.bool a))).den ρ = (T1.c (.val (.bool b))).den ρ := by subst e; rfl
theorem int_no {z : Int} (h : ¬ IR z) : (0 : Int) = intZ z ∧ false = decide (IR z) := ⟨by unfold intZ; rw [if_neg h], (decide_eq_false h).symm⟩
theorem int_yes {z y : Int} (h : IR z) (e : y = z) : y = intZ z ∧ true = decide (IR z) := ⟨by unfold intZ; rw [if_pos h]; exact e, (decide_eq_true h).symm⟩
theorem neg_back {m : Nat} (h : m ≤ 9223372036854775808) : IntKind.i64.wrap (IntKind.u64.wrap (0 - (m : Int))) = -(m : Int) := by
  unfold IntKind.wrap; simp [IntKind.bits, IntKind.signed]; split <;> omega
theorem pos_back {m : Nat} (h : m < 9223372036854775808) : IntKind.i64.wrap (m : Int) = (m : Int) := wrap_id (by unfold IR; omega)
theorem gt_two {k : Nat} (h : decide ((2 : Int) < (k : Int)) = true) : 2 < k := by have := of_decide_eq_true h; omega
theorem ngt_two {k : Nat} (h : decide ((2 : Int) < (k : Int)) = false) : k ≤ 2 := by have := of_decide_eq_false h; omega
theorem le_63 {m : Nat} (h : decide ((m : Int) ≤ 9223372036854775808) = true) : m ≤ 9223372036854775808 := by have := of_decide_eq_true h; omega
theorem nle_63 {m : Nat} (h : decide ((m : Int) ≤ 9223372036854775808) = false) : 9223372036854775808 < m := by have := of_decide_eq_false h; omega
theorem ge_63 {m : Nat} (h : decide ((9223372036854775808 : Int) ≤ (m : Int)) = true) : 9223372036854775808 ≤ m := by have := of_decide_eq_true h; omega
theorem nge_63 {m : Nat} (h : decide ((9223372036854775808 : Int) ≤ (m : Int)) = false) : m < 9223372036854775808 := by have := of_decide_eq_false h; omega
def IntI (l : List Nat) (i m : Nat) : Prop := i ≤ l.length ∧ m = val WB (l.take i) ∧ m < WB ^ i
theorem or_low {m w i : Nat} (hm : m < WB ^ i) : m ||| (w * 2 ^ (32 * i)) = m + WB ^ i * w := by
  have e : WB ^ i = 2 ^ (32 * i) := by rw [Nat.pow_mul]; rfl
  rw [e] at hm ⊢
  rw [Nat.or_comm, ← Nat.shiftLeft_eq, ← Nat.shiftLeft_add_eq_or_of_lt hm, Nat.shiftLeft_eq, Nat.mul_comm w]; omega
theorem IntI.step {l : List Nat} {i m : Nat} (h : IntI l i m) (hl : l.length ≤ 2) {hi : i < l.length} (dl : Dl WB l) : IntI l (i + 1) (m ||| (l[i] * 2 ^ (32 * i))) ∧ l[i] * 2 ^ (32 * i) < 18446744073709551616 ∧ m < 18446744073709551616 := by
  obtain ⟨h1, h2, h3⟩ := h
  have hw : l[i] < 4294967296 := dl.get i hi
  have hi2 : i < 2 := by omega
  have e := or_low (w := l[i]) h3
  refine ⟨⟨hi, ?_, ?_⟩, ?_, ?_⟩
  · rw [e, val_take_succ WB l i hi, h2]
  · rw [e, Nat.pow_succ]
    have h4 : WB ^ i * (l[i] + 1) ≤ WB ^ i * WB := Nat.mul_le_mul_left _ (by rw [WB_eq]; exact hw)
    rw [Nat.mul_add] at h4
    omega
  · have h6 : 2 ^ (32 * i) ≤ 2 ^ 32 := Nat.pow_le_pow_right (by decide) (by omega)
    have h7 := Nat.mul_le_mul (show l[i] ≤ 4294967295 by omega) h6
    omega
  · have h6 : WB ^ i ≤ WB ^ 1 := Nat.pow_le_pow_right WB_pos (by omega)
    have h7 : WB ^ 1 = 4294967296 := by rw [Nat.pow_one, WB_eq]
    omega
theorem wrap_32i {i : Nat} (h : i < 2) : IntKind.i64.wrap (32 * (i : Int)) = ((32 * i : Nat) : Int) := by
  rw [wrap_id (by unfold IR; omega)]; omega
set_option maxHeartbeats 8000000 in
theorem spIntA : SpOk Tryd.prog 46 dIntA := sp_num1H ⟨Tryd.func46, by kernel_rfl, by kernel_rfl⟩ (envN_ok .nil rdN_ok 0 fun _ => false) (mix_ok rootC_ok (envN_ok .nil rdN_ok 0 fun _ => false) mixed noF_ok 0) (fun _ _ _ => rfl) fun X kX b s nX => by
  conv => whnf
  refine ⟨fun _ _ => rfl, trivial, ⟨_, b, s, rfl, rfl, NumA.raw, (nX.sz kX), fun ox hox => ?_⟩⟩
  rw [nX.natAbs] at hox
  have hvx : val WB ox.l = X.z.natAbs := by rw [hox, val_dig WB_two]
  have dlx := dl_eq hox
  conv => whnf
  refine bcase_intro (fun h2 => ?_) (fun h2 => ?_)
  · have h2 : 2 < ox.l.length := gt_two h2
    obtain ⟨r1, r2⟩ := int_no (z := X.z) (by
      have h3 : 0 < X.z.natAbs := by
        rcases Nat.eq_zero_or_pos X.z.natAbs with h4 | h4
        · rw [hox, h4, dig_zero] at h2; exact absurd h2 (by decide)
        · exact h4
      have h5 := le_of_dig_length WB_two h3
      rw [← hox] at h5
      have h6 : WB ^ 2 ≤ WB ^ (ox.l.length - 1) := Nat.pow_le_pow_right WB_pos (by omega)
      have h7 : WB ^ 2 = 18446744073709551616 := by rw [WB_eq]
      unfold IR; omega)
    conv => whnf
    exact fun ρ => tup2_sv (int_t1 r1 ρ) (bool_t1 r2 ρ)
  · have hl2 : ox.l.length ≤ 2 := ngt_two h2
    conv => whnf
    refine loop_cut (G := {g : Nat × Nat × (Nat → Value) // IntI ox.l g.1 g.2.1}) (X := {m : Nat // m = X.z.natAbs}) (fun g => (.c (.val (g.1.2.2 0)) :: .c (.ptr 0 0) :: .c (.val (g.1.2.2 2)) :: .c (.val (g.1.2.2 3)) :: .c (.val (g.1.2.2 4)) :: .c (wC g.1.2.1) :: .c (.val (g.1.2.2 6)) :: .c (.val (g.1.2.2 7)) :: .c (.val (g.1.2.2 8)) :: .c (.val (g.1.2.2 9)) :: .c (.val (g.1.2.2 10)) :: .c (.val (g.1.2.2 11)) :: .c (.val (g.1.2.2 12)) :: (ox.sl 1) :: .c (.int (ox.l.length : Nat) ox.ok.ir) :: .c (.int (g.1.1 : Nat) (ltI ox.ok g.2.1)) :: .c (.val (g.1.2.2 16)) :: .c (.val (g.1.2.2 17)) :: .c (.val (g.1.2.2 18)) :: .c (.val (g.1.2.2 19)) :: .c (.val (g.1.2.2 20)) :: .c (.val (g.1.2.2 21)) :: .c (.val (g.1.2.2 22)) :: .c (.val (g.1.2.2 23)) :: .c (.val (g.1.2.2 24)) :: .c (.val (g.1.2.2 25)) :: .c (.val (g.1.2.2 26)) :: .c (.val (g.1.2.2 27)) :: .c (.val (g.1.2.2 28)) :: .c (.val (g.1.2.2 29)) :: .c (.val (g.1.2.2 30)) :: .c (.val (g.1.2.2 31)) :: .c (.val (g.1.2.2 32)) :: .c (.val (g.1.2.2 33)) :: .c (.val (g.1.2.2 34)) :: .c (.val (g.1.2.2 35)) :: .c (.val (g.1.2.2 36)) :: .c (.val (g.1.2.2 37)) :: .c (.val (g.1.2.2 38)) :: .c (.val (g.1.2.2 39)) :: .c (.val (g.1.2.2 40)) :: .c (.val (g.1.2.2 41)) :: [])) (fun g => [⟨27, false, [.val (.bool b), .val (.string s)], 0⟩, ox.blk]) (fun g => ox.l.length - g.1.1) 0 (fun x j => (j 0 :: .c (.ptr 0 0) :: j 2 :: j 3 :: j 4 :: .c (wC x.1) :: j 6 :: j 7 :: j 8 :: j 9 :: j 10 :: j 11 :: j 12 :: j 13 :: j 14 :: j 15 :: j 16 :: j 17 :: j 18 :: j 19 :: j 20 :: j 21 :: j 22 :: j 23 :: j 24 :: j 25 :: j 26 :: j 27 :: j 28 :: j 29 :: j 30 :: j 31 :: j 32 :: j 33 :: j 34 :: j 35 :: j 36 :: j 37 :: j 38 :: j 39 :: j 40 :: j 41 :: [])) (fun x => [⟨27, false, [.val (.bool b), .val (.string s)], 0⟩, ox.blk]) ?_ ?_ ?_
    · refine ⟨[0, 1], [1, 5, 13, 14, 15], [0, 1], fun vs => ?_⟩
      conv => whnf
      refine ⟨fun _ _ => rfl, wsC_pure _, ?_⟩
      conv => whnf
      refine ⟨_, _, ?_, ?_, ⟨(0, 0, vs), Nat.zero_le _, rfl, Nat.one_pos⟩, rfl, rfl⟩
      · exact ⟨fun _ => rfl, fun _ => rfl, fun _ => rfl, fun _ => rfl, fun _ => rfl, fun _ => rfl, fun _ => rfl, fun _ => rfl, fun _ => rfl, fun _ => rfl, fun _ => rfl, fun _ => rfl, fun _ => rfl, fun _ => rfl, fun _ => rfl, fun _ => rfl, fun _ => rfl, fun _ => rfl, fun _ => rfl, fun _ => rfl, fun _ => rfl, fun _ => rfl, fun _ => rfl, fun _ => rfl, fun _ => rfl, fun _ => rfl, fun _ => rfl, fun _ => rfl, fun _ => rfl, fun _ => rfl, fun _ => rfl, fun _ => rfl, fun _ => rfl, fun _ => rfl, fun _ => rfl, fun _ => rfl, fun _ => rfl, fun _ => rfl, fun _ => rfl, fun _ => rfl, fun _ => rfl, fun _ => rfl, trivial⟩
      · exact ⟨⟨rfl, rfl, rfl, fun _ => rfl⟩, ⟨rfl, rfl, rfl, fun _ => rfl⟩, trivial⟩
    · intro Qx hqx
      rintro ⟨⟨i, m, vs⟩, hI⟩
      have hI : IntI ox.l i m := hI
      conv => whnf
      refine bcase_intro (fun hlt => ?_) (fun hlt => ?_)
      · have hlt : i < ox.l.length := n_lt hlt
        have hi2 : i < 2 := by omega
        obtain ⟨hI2, hw1, hw2⟩ := hI.step hl2 (hi := hlt) dlx
        have e1 := or_natE (y := (m : Int)) (n := (ox.l[i]'hlt) * 2 ^ (32 * i)) rfl rfl hw2 hw1
        conv => whnf
        conv =>
          arg 2
          tactic' =>
            apply eff_index_sli (ho := ?how1) (hT := ?hTw1) (hx := ?hxw1) (hk := ?hkw1) (hlt := ?hltw1)
            case how1 => rfl
            case hTw1 => rfl
            case hxw1 => rfl
            case hkw1 => rfl
            case hltw1 => exact hlt
        conv => whnf
        conv =>
          arg 2
          tactic' =>
            apply eff_load_sub (m := [wC (ox.l[i]'hlt)]) (ho := ?how2) (hT := ?hTw2) (hx := ?hxw2) (hb := ?hbw2) (hm := ?hmw2) (hv := ?hvw2)
            case how2 => rfl
            case hTw2 => rfl
            case hxw2 => rfl
            case hbw2 => rfl
            case hmw2 => exact (WAt.ow ox).get hlt
            case hvw2 => rfl
        conv => whnf
        conv =>
          arg 2
          tactic' =>
            apply eff_bini (v := .int .u64 (((ox.l[i]'hlt) * 2 ^ (32 * i) : Nat) : Int)) (ho := ?how3) (hx := ?hxw3) (hy := ?hyw3) (hb := ?hbw3)
            case how3 => rfl
            case hxw3 => rfl
            case hyw3 => rfl
            case hbw3 => exact shl_pure rfl (wrap_32i hi2) (by omega) hw1
        conv => whnf
        refine ⟨[0, 1], [1, 5, 13, 14, 15], [0, 1], fun vs2 => ?_⟩
        conv => whnf
        refine ⟨fun _ _ => rfl, wsC_pure _, ?_⟩
        conv => whnf
        refine ⟨_, _, ?_, ?_, ⟨(i + 1, m ||| ((ox.l[i]'hlt) * 2 ^ (32 * i)), vs2), hI2⟩, (by omega : ox.l.length - (i + 1) < ox.l.length - i), rfl, rfl⟩
        · exact ⟨fun _ => rfl, fun _ => rfl, fun _ => rfl, fun _ => rfl, fun _ => rfl, fun _ => congrArg (Value.int .u64) e1, fun _ => rfl, fun _ => rfl, fun _ => rfl, fun _ => rfl, fun _ => rfl, fun _ => rfl, fun _ => rfl, fun _ => rfl, fun _ => rfl, sint_eq (wrap_add1 hlt ox.ok.ir) _ _, fun _ => rfl, fun _ => rfl, fun _ => rfl, fun _ => rfl, fun _ => rfl, fun _ => rfl, fun _ => rfl, fun _ => rfl, fun _ => rfl, fun _ => rfl, fun _ => rfl, fun _ => rfl, fun _ => rfl, fun _ => rfl, fun _ => rfl, fun _ => rfl, fun _ => rfl, fun _ => rfl, fun _ => rfl, fun _ => rfl, fun _ => rfl, fun _ => rfl, fun _ => rfl, fun _ => rfl, fun _ => rfl, fun _ => rfl, trivial⟩
        · exact ⟨⟨rfl, rfl, rfl, fun _ => rfl⟩, ⟨rfl, rfl, rfl, fun _ => rfl⟩, trivial⟩
      · have hke : i = ox.l.length := Nat.le_antisymm hI.1 (n_ge hlt)
        have hm : m = X.z.natAbs := by have := hI.2.1; rw [hke, List.take_length, hvx] at this; exact this
        conv => whnf
        exact hqx ⟨m, hm⟩ (fun i => nth uv (_ :: uv :: _ :: _ :: _ :: uv :: _ :: _ :: _ :: _ :: _ :: _ :: _ :: _ :: _ :: _ :: _ :: _ :: _ :: _ :: _ :: _ :: _ :: _ :: _ :: _ :: _ :: _ :: _ :: _ :: _ :: _ :: _ :: _ :: _ :: _ :: _ :: _ :: _ :: _ :: _ :: _ :: []) i)
    · rintro ⟨m, hm⟩ jj
      conv => whnf
      refine bcase_intro (fun hb => ?_) (fun hb => ?_)
      · have hz : X.z = -(m : Int) := by rcases nX.sgn with ⟨_, h⟩ | ⟨h, _⟩; omega; rw [hb] at h; cases h
        conv => whnf
        refine bcase_intro (fun hle => ?_) (fun hle => ?_)
        · have hle : m ≤ 9223372036854775808 := le_63 hle
          obtain ⟨r1, r2⟩ := int_yes (z := X.z) (by unfold IR; omega) ((neg_back hle).trans hz.symm)
          conv => whnf
          exact fun ρ => tup2_sv (int_t1 r1 ρ) (bool_t1 r2 ρ)
        · have hle : 9223372036854775808 < m := nle_63 hle
          obtain ⟨r1, r2⟩ := int_no (z := X.z) (by unfold IR; omega)
          conv => whnf
          refine bcase_intro (fun hge => ?_) (fun hge => ?_)
          · conv => whnf
            exact fun ρ => tup2_sv (int_t1 r1 ρ) (bool_t1 r2 ρ)
          · have hge : m < 9223372036854775808 := nge_63 hge
            omega
      · have hz : X.z = (m : Int) := by rcases nX.sgn with ⟨h, _⟩ | ⟨_, h⟩; rw [hb] at h; cases h; omega
        conv => whnf
        refine bcase_intro (fun hge => ?_) (fun hge => ?_)
        · have hge : 9223372036854775808 ≤ m := ge_63 hge
          obtain ⟨r1, r2⟩ := int_no (z := X.z) (by unfold IR; omega)
          conv => whnf
          exact fun ρ => tup2_sv (int_t1 r1 ρ) (bool_t1 r2 ρ)
        · have hge : m < 9223372036854775808 := nge_63 hge
          obtain ⟨r1, r2⟩ := int_yes (z := X.z) (by unfold IR; omega) ((pos_back hge).trans hz.symm)
          conv => whnf
          exact fun ρ => tup2_sv (int_t1 r1 ρ) (bool_t1 r2 ρ)
end Go.Proofs.YtbhcmajeoamloaaDoor

namespace Go.Proofs.YtbhcmajeoamloaaDoor
open Go.RowKit
set_option maxRecDepth 100000

theorem eff_slice_str {T : TypeId → Option TI} {op : Op} {ev : Operand → SV} {hp : Nat → Option Blk} {t : TypeId} {x : Operand} {lo hi : Option Operand} (ho : op = .slice t x lo hi none) {sz : Nat} {ag : Bool} {z : List C} {eq : Option (List K)} (hT : T t = some ⟨sz, ag, z, .string, eq⟩)
    {s : ByteArray} (hx : ev x = .c (.val (.string s))) {l k : Nat} (hl : bndO (lo.map ev) 0 = some l) (hk : bndO (hi.map ev) s.size = some k) (hle : l ≤ k ∧ k ≤ s.size) : eff T op ev hp = some (.val (.c (.val (.string (s.extract l k))))) := by
  subst ho
  simp only [eff, hT, hx, hl, hk]
  rw [if_pos hle]
def cutB (s p : ByteArray) : Bool := cond (decide ((p.size : Int) ≤ (s.size : Int))) ((s.extract 0 p.size).toList == p.toList) false
def cutS (s p : ByteArray) : ByteArray := cond (cutB s p) (s.extract p.size s.size) s
def cutV (s p : ByteArray) : SV := .tup [.c (.val (.string (cutS s p))), .c (.val (.bool (cutB s p)))]
def dCut : Dn
  | [.c (.val (.string s)), .c (.val (.string p))] => some (some (IR s.size ∧ IR p.size), cutV s p)
  | _ => none
theorem str_t1 {a b : ByteArray} (e : a = b) (ρ : Rho) : (T1.c (.val (.string a))).den ρ = (T1.c (.val (.string b))).den ρ := by subst e; rfl
theorem le_size {p s : ByteArray} (h : decide ((p.size : Int) ≤ (s.size : Int)) = true) : p.size ≤ s.size := by have := of_decide_eq_true h; omega
theorem cut_no {s p : ByteArray} (h : decide ((p.size : Int) ≤ (s.size : Int)) = false) : cutB s p = false := by unfold cutB; rw [h]; rfl
theorem cut_eq {s p : ByteArray} (h : decide ((p.size : Int) ≤ (s.size : Int)) = true) : cutB s p = ((s.extract 0 p.size).toList == p.toList) := by unfold cutB; rw [h]; rfl
noncomputable def fxCut : FuncId → Option Func := lk [(83, Tryd.f83), (91, Tryd.f91)]
theorem fxCut_ok : ∀ f fn, fxCut f = some fn → FnOk Tryd.prog f fn := lkF_ok fun x hx => by
  simp only [List.mem_cons, List.not_mem_nil, or_false] at hx
  rcases hx with rfl | rfl
  · exact ⟨Tryd.func83, by kernel_rfl, by kernel_rfl⟩
  · exact ⟨Tryd.func91, by kernel_rfl, by kernel_rfl⟩
set_option maxHeartbeats 4000000 in
theorem spCut : SpOk Tryd.prog 66 dCut := by
  refine ⟨⟨_, Tryd.func66, by kernel_rfl, by kernel_rfl⟩, fun args q v hd => ?_⟩
  unfold dCut at hd
  split at hd
  · rename_i s p
    cases hd
    refine ⟨fun _ _ => rfl, fun hp ρ w => ?_⟩
    obtain ⟨h1, h2⟩ := hp _ rfl
    refine pure_okH (envN_ok .nil .nil 0 fun _ => false) mixed (mix_ok .nil (envN_ok .nil .nil 0 fun _ => false) mixed fxCut_ok 2) ⟨Tryd.func66, by kernel_rfl, by kernel_rfl⟩ (v := cutV s p) (fun _ _ => rfl) (fun _ _ => rfl) ?_ ρ w
    conv => whnf
    conv =>
      arg 2
      tactic' =>
        apply eff_len_str (ho := ?how1) (hc := ?hcw1) (ha := ?haw1) (ht := ?htw1) (hT := ?hTw1) (hx := ?hxw1) (h := ?hw1)
        case how1 => rfl
        case hcw1 => rfl
        case haw1 => rfl
        case htw1 => rfl
        case hTw1 => rfl
        case hxw1 => rfl
        case hw1 => exact h1
    conv => whnf
    conv =>
      arg 2
      tactic' =>
        apply eff_len_str (ho := ?how2) (hc := ?hcw2) (ha := ?haw2) (ht := ?htw2) (hT := ?hTw2) (hx := ?hxw2) (h := ?hw2)
        case how2 => rfl
        case hcw2 => rfl
        case haw2 => rfl
        case htw2 => rfl
        case hTw2 => rfl
        case hxw2 => rfl
        case hw2 => exact h2
    conv => whnf
    refine bcase_intro (fun hc => ?_) (fun hc => ?_)
    · have hle := le_size hc
      have he := cut_eq hc
      conv => whnf
      conv =>
        arg 2
        tactic' =>
          apply eff_len_str (ho := ?how3) (hc := ?hcw3) (ha := ?haw3) (ht := ?htw3) (hT := ?hTw3) (hx := ?hxw3) (h := ?hw3)
          case how3 => rfl
          case hcw3 => rfl
          case haw3 => rfl
          case htw3 => rfl
          case hTw3 => rfl
          case hxw3 => rfl
          case hw3 => exact h2
      conv => whnf
      conv =>
        arg 2
        tactic' =>
          apply eff_slice_str (ho := ?how4) (hT := ?hTw4) (hx := ?hxw4) (hl := ?hlw4) (hk := ?hkw4) (hle := ?hlew4)
          case how4 => rfl
          case hTw4 => rfl
          case hxw4 => rfl
          case hlw4 => rfl
          case hkw4 => rfl
          case hlew4 => exact ⟨Nat.zero_le _, hle⟩
      conv => whnf
      refine bcase_intro (fun hb => ?_) (fun hb => ?_)
      · have hb2 : cutB s p = false := by rw [he]; simpa using hb
        conv => whnf
        exact fun ρ => tup2_sv (str_t1 (by unfold cutS; rw [hb2]; rfl) ρ) (bool_t1 (hb2.symm) ρ)
      · have hb2 : cutB s p = true := by rw [he]; simpa using hb
        conv => whnf
        conv =>
          arg 2
          tactic' =>
            apply eff_len_str (ho := ?how5) (hc := ?hcw5) (ha := ?haw5) (ht := ?htw5) (hT := ?hTw5) (hx := ?hxw5) (h := ?hw5)
            case how5 => rfl
            case hcw5 => rfl
            case haw5 => rfl
            case htw5 => rfl
            case hTw5 => rfl
            case hxw5 => rfl
            case hw5 => exact h2
        conv => whnf
        conv =>
          arg 2
          tactic' =>
            apply eff_slice_str (ho := ?how6) (hT := ?hTw6) (hx := ?hxw6) (hl := ?hlw6) (hk := ?hkw6) (hle := ?hlew6)
            case how6 => rfl
            case hTw6 => rfl
            case hxw6 => rfl
            case hlw6 => rfl
            case hkw6 => rfl
            case hlew6 => exact ⟨hle, Nat.le_refl _⟩
        conv => whnf
        exact fun ρ => tup2_sv (str_t1 (by unfold cutS; rw [hb2]; rfl) ρ) (bool_t1 (hb2.symm) ρ)
    · have hb2 := cut_no hc
      conv => whnf
      exact fun ρ => tup2_sv (str_t1 (by unfold cutS; rw [hb2]; rfl) ρ) (bool_t1 (hb2.symm) ρ)
  · cases hd
end Go.Proofs.YtbhcmajeoamloaaDoor

namespace Go.Proofs.YtbhcmajeoamloaaDoor
open Go.RowKit
set_option maxRecDepth 100000

/-- digits in decimal -/
def parseG (acc : Nat) : List UInt8 → Option Nat
  | [] => some acc
  | c :: l => if c.toNat < 48 ∨ 57 < c.toNat then none else parseG (acc * 10 + (c.toNat - 48)) l
theorem parseG_lt : ∀ {l : List UInt8} {acc n : Nat}, parseG acc l = some n → n < (acc + 1) * 10 ^ l.length
  | [], acc, n, h => by simp [parseG] at h; subst h; simp
  | c :: l, acc, n, h => by
    unfold parseG at h
    split at h
    · cases h
    · rename_i hc
      have h1 := parseG_lt h
      have h2 : acc * 10 + (c.toNat - 48) + 1 ≤ (acc + 1) * 10 := by omega
      have h3 : (acc * 10 + (c.toNat - 48) + 1) * 10 ^ l.length ≤ (acc + 1) * 10 * 10 ^ l.length := Nat.mul_le_mul_right _ h2
      rw [List.length_cons, Nat.pow_succ, Nat.mul_comm (10 ^ l.length), ← Nat.mul_assoc]
      omega
def dash : ByteArray := ⟨#[45]⟩
def parseT (s : ByteArray) : List UInt8 := (cutS s dash).data.toList
def parseN (s : ByteArray) : Option Nat := if (parseT s).length ≤ 10000 then parseG 0 (parseT s) else none
def parseZ (s : ByteArray) : Int := match parseN s with | some n => if cutB s dash then -(n : Int) else n | none => 0
def parseOk (s : ByteArray) : Bool := (parseN s).isSome && !((cutS s dash).toList == (⟨#[]⟩ : ByteArray).toList)
theorem pow_dec {n l L : Nat} (h : n < 10 ^ l) (hl : l ≤ L) : n < 2 ^ (4 * L) := by
  have h2 : 10 ^ l ≤ 10 ^ L := Nat.pow_le_pow_right (by decide) hl
  have h3 : 10 ^ L ≤ 16 ^ L := Nat.pow_le_pow_left (by decide) _
  have h4 : 16 ^ L = 2 ^ (4 * L) := by rw [show 16 = 2 ^ 4 from rfl, ← Nat.pow_mul]
  omega
theorem sm_zero (k : Nat) : Sm k 0 := Nat.pow_pos (by decide)
theorem sm_signed {k n : Nat} (b : Bool) (h : n < 2 ^ k) : Sm k (if b then -(n : Int) else n) := by unfold Sm; split <;> omega
theorem sm_parse4 (s : ByteArray) : Sm (4 * 10000) (parseZ s) := by
  unfold parseZ
  split
  · rename_i n hn
    unfold parseN at hn
    split at hn
    · rename_i hl
      have h1 := parseG_lt hn
      rw [Nat.zero_add, Nat.one_mul] at h1
      have h2 := pow_dec h1 hl
      exact sm_signed _ h2
    · cases hn
  · exact sm_zero _
theorem sm_parse (s : ByteArray) : Sm 40000 (parseZ s) := sm_parse4 s
def parseV (s : ByteArray) : SV := .tup [.agg [.wid 40000 (parseZ s) (sm_parse s)], .c (.val (.bool (parseOk s)))]
def dParse : Dn
  | [.c (.val (.string s))] => some (some (s.size ≤ 10000), parseV s)
  | _ => none
theorem bsC_pure (l : List UInt8) : PureL (bsC l) := fun ρ ρ' => by
  have h : cellsL ρ (bsC l) = cellsL ρ' (bsC l) := by rw [bsC_cells, bsC_cells]
  exact h
theorem bsC_get {l : List UInt8} {i : Nat} (h : i < l.length) : subC (bsC l) (0 + i * 1) 1 = some [.val (.int .u8 (l[i].toNat : Int))] := by
  have e : bsC l = bsC (l.take i) ++ ([C.val (.int .u8 (l[i].toNat : Int))] ++ bsC (l.drop (i + 1))) := by
    have h : l = l.take i ++ (l[i] :: l.drop (i + 1)) := by rw [← List.drop_eq_getElem_cons h, List.take_append_drop]
    rw [show bsC l = bsC (l.take i ++ (l[i] :: l.drop (i + 1))) by rw [← h]]
    unfold bsC
    rw [List.map_append, List.map_cons]; rfl
  have s : sizeC (bsC (l.take i)) = 0 + i * 1 := by rw [bsC_size, List.length_take]; omega
  rw [e, ← s]
  exact subC_app _ [_] _
theorem cut_le (s p : ByteArray) : (cutS s p).size ≤ s.size := by
  unfold cutS
  cases cutB s p
  · exact Nat.le_refl _
  · show (s.extract _ _).size ≤ _
    rw [ByteArray.size_extract]; omega
def ParI (l : List UInt8) (i : Nat) (x : OW) : Prop := i ≤ l.length ∧ x.l = dig WB (val WB x.l) ∧ val WB x.l < 10 ^ i ∧ parseG 0 l = parseG (val WB x.l) (l.drop i)
theorem ParI.len {l : List UInt8} {i : Nat} {x : OW} (h : ParI l i x) (hl : l.length ≤ 10000) : x.l.length ≤ 10000 := by
  obtain ⟨h1, h2, h3, -⟩ := h
  rw [h2]
  refine Nat.le_trans (dig_length_le WB_two (k := i) (Nat.lt_of_lt_of_le h3 (Nat.pow_le_pow_left (by rw [WB_eq]; decide) _))) (by omega)
theorem ParI.bad {l : List UInt8} {i : Nat} {x : OW} (h : ParI l i x) {hi : i < l.length} (hb : l[i].toNat < 48 ∨ 57 < l[i].toNat) : parseG 0 l = none := by
  rw [h.2.2.2, List.drop_eq_getElem_cons hi]
  unfold parseG
  rw [if_pos hb]
theorem ParI.step {l : List UInt8} {i : Nat} {x o : OW} (h : ParI l i x) {hi : i < l.length} (hb : ¬ (l[i].toNat < 48 ∨ 57 < l[i].toNat)) (ho : o.l = dig WB (val WB x.l * 10 + (l[i].toNat - 48))) : ParI l (i + 1) o := by
  have hv : val WB o.l = val WB x.l * 10 + (l[i].toNat - 48) := by rw [ho, val_dig WB_two]
  obtain ⟨h1, h2, h3, h4⟩ := h
  refine ⟨hi, by rw [hv]; exact ho, by rw [hv, Nat.pow_succ]; omega, ?_⟩
  rw [h4, List.drop_eq_getElem_cons hi, hv]
  conv => lhs; unfold parseG
  rw [if_neg hb]
theorem lt_48 {c : UInt8} (h : decide ((c.toNat : Int) < 48) = true) : c.toNat < 48 := by have := of_decide_eq_true h; omega
theorem nlt_48 {c : UInt8} (h : decide ((c.toNat : Int) < 48) = false) : 48 ≤ c.toNat := by have := of_decide_eq_false h; omega
theorem gt_57 {c : UInt8} (h : decide ((57 : Int) < (c.toNat : Int)) = true) : 57 < c.toNat := by have := of_decide_eq_true h; omega
theorem ngt_57 {c : UInt8} (h : decide ((57 : Int) < (c.toNat : Int)) = false) : c.toNat ≤ 57 := by have := of_decide_eq_false h; omega
theorem digit_u64 {c : UInt8} (h : 48 ≤ c.toNat) : IntKind.u64.wrap (IntKind.u8.wrap ((c.toNat : Int) - 48)) = ((c.toNat - 48 : Nat) : Int) := by
  have h2 := UInt8.toNat_lt c
  unfold IntKind.wrap; simp [IntKind.bits, IntKind.signed]; omega
def parC : List (FuncId × NewC) := (67, cAdd) :: lessC
theorem parC_ok : AllC Tryd.prog parC := .cons csAdd lessC_ok
def cutD : List (FuncId × Dn) := [(66, dCut)]
theorem cutD_ok : AllOk cutD := .cons spCut .nil
theorem par_none {s : ByteArray} (h : parseG 0 (cutS s dash).data.toList = none) : (0 : Int) = parseZ s ∧ false = parseOk s := by
  have hn : parseN s = none := by unfold parseN; split; exact h; rfl
  exact ⟨by unfold parseZ; rw [hn], by unfold parseOk; rw [hn]; rfl⟩
theorem par_some {s : ByteArray} {n : Nat} (hl : (cutS s dash).data.toList.length ≤ 10000) (h : parseG 0 (cutS s dash).data.toList = some n) : n = (parseZ s).natAbs ∧ (n ≠ 0 → (cutB s dash = true ↔ parseZ s < 0)) ∧ (!((cutS s dash).toList == (⟨#[]⟩ : ByteArray).toList)) = parseOk s := by
  have hn : parseN s = some n := by unfold parseN; rw [if_pos (show (parseT s).length ≤ 10000 from hl)]; exact h
  refine ⟨?_, fun h0 => ?_, by unfold parseOk; rw [hn]; rfl⟩
  · unfold parseZ; rw [hn]; simp only; split <;> omega
  · unfold parseZ; rw [hn]; simp only
    cases cutB s dash <;> simp <;> omega
set_option maxHeartbeats 8000000 in
theorem spParse : SpOk Tryd.prog 25 dParse := by
  refine ⟨⟨_, Tryd.func25, by kernel_rfl, by kernel_rfl⟩, fun args q v hd => ?_⟩
  unfold dParse at hd
  split at hd
  · rename_i s
    cases hd
    refine ⟨fun _ _ => rfl, fun hp ρ w => ?_⟩
    have hp : s.size ≤ 10000 := hp _ rfl
    refine pure_okH (envN_ok cutD_ok rdN_ok 0 fun _ => false) mixed (mix_ok parC_ok (envN_ok cutD_ok rdN_ok 0 fun _ => false) mixed noF_ok 0) ⟨Tryd.func25, by kernel_rfl, by kernel_rfl⟩ (v := parseV s) (fun _ _ => rfl) (fun _ _ => rfl) ?_ ρ w
    have hsz : IR s.size := by unfold IR; omega
    have hts := cut_le s dash
    have hs10 : (cutS s dash).data.toList.length ≤ 10000 := by rw [Array.length_toList]; exact Nat.le_trans hts hp
    conv => whnf
    refine ⟨⟨hsz, by decide⟩, ?_⟩
    conv => whnf
    refine ⟨Nat.le_trans (Nat.le_trans hts hp) (by decide), fun cap hcap => ?_⟩
    conv => whnf
    refine loop_st (G := {g : Nat × OW × (Nat → Value) // ParI (cutS s dash).data.toList g.1 g.2.1}) (fun g => (.c (.val (g.1.2.2 0)) :: .c (.val (g.1.2.2 1)) :: .c (.ptr 0 0) :: .c (.val (g.1.2.2 3)) :: .c (.val (.string (cutS s dash))) :: .c (.val (.bool (cutB s dash))) :: (g.1.2.1.sl 2) :: .c (.val (g.1.2.2 7)) :: .c (.val (g.1.2.2 8)) :: .c (.val (g.1.2.2 9)) :: .c (.val (g.1.2.2 10)) :: .c (.val (g.1.2.2 11)) :: .c (.val (g.1.2.2 12)) :: .c (.val (g.1.2.2 13)) :: .c (.val (g.1.2.2 14)) :: .c (.sli false 1 0 (cutS s dash).size cap hcap) :: .c (.int ((cutS s dash).size : Nat) hcap.ir) :: .c (.int (g.1.1 : Nat) (ltI hcap (Nat.le_trans g.2.1 (Nat.le_of_eq Array.length_toList)))) :: .c (.val (g.1.2.2 18)) :: .c (.val (g.1.2.2 19)) :: .c (.val (g.1.2.2 20)) :: .c (.val (g.1.2.2 21)) :: .c (.val (g.1.2.2 22)) :: .c (.val (g.1.2.2 23)) :: .c (.val (g.1.2.2 24)) :: .c (.val (g.1.2.2 25)) :: .c (.val (g.1.2.2 26)) :: .c (.val (g.1.2.2 27)) :: .c (.val (g.1.2.2 28)) :: .c (.val (g.1.2.2 29)) :: .c (.val (g.1.2.2 30)) :: .c (.val (g.1.2.2 31)) :: .c (.val (g.1.2.2 32)) :: .c (.val (g.1.2.2 33)) :: .c (.val (g.1.2.2 34)) :: .c (.val (g.1.2.2 35)) :: .c (.val (g.1.2.2 36)) :: .c (.val (g.1.2.2 37)) :: .c (.val (g.1.2.2 38)) :: .c (.val (g.1.2.2 39)) :: .c (.val (g.1.2.2 40)) :: .c (.val (g.1.2.2 41)) :: .c (.val (g.1.2.2 42)) :: [])) (fun g => [⟨27, false, [.wid 0 0 (by unfold Sm; decide)], 0⟩, ⟨5, true, bsC (cutS s dash).data.toList, 0⟩, g.1.2.1.blk]) (fun g => (cutS s dash).size - g.1.1) ?_ ?_
    · refine ⟨[0, 1, 1000 + 79], [2, 4, 5, 6, 15, 16, 17], [0, 1, 2], fun vs => ?_⟩
      conv => whnf
      refine ⟨fun _ _ => rfl, bsC_pure _, ?_⟩
      conv => whnf
      refine ⟨_, _, ?_, ?_, ⟨(0, OW.nil, vs), Nat.zero_le _, by show [] = dig WB 0; rw [dig_zero], Nat.one_pos, rfl⟩, rfl, rfl⟩
      · exact ⟨fun _ => rfl, fun _ => rfl, fun _ => rfl, fun _ => rfl, fun _ => rfl, fun _ => rfl, fun _ => rfl, fun _ => rfl, fun _ => rfl, fun _ => rfl, fun _ => rfl, fun _ => rfl, fun _ => rfl, fun _ => rfl, fun _ => rfl, fun _ => rfl, fun _ => rfl, fun _ => rfl, fun _ => rfl, fun _ => rfl, fun _ => rfl, fun _ => rfl, fun _ => rfl, fun _ => rfl, fun _ => rfl, fun _ => rfl, fun _ => rfl, fun _ => rfl, fun _ => rfl, fun _ => rfl, fun _ => rfl, fun _ => rfl, fun _ => rfl, fun _ => rfl, fun _ => rfl, fun _ => rfl, fun _ => rfl, fun _ => rfl, fun _ => rfl, fun _ => rfl, fun _ => rfl, fun _ => rfl, fun _ => rfl, trivial⟩
      · exact ⟨⟨rfl, rfl, rfl, fun _ => rfl⟩, ⟨rfl, rfl, rfl, fun _ => rfl⟩, ⟨rfl, rfl, rfl, fun _ => rfl⟩, trivial⟩
    · rintro ⟨⟨i, x, vs⟩, hI⟩
      have hI : ParI (cutS s dash).data.toList i x := hI
      have hlen := hI.len hs10
      conv => whnf
      refine bcase_intro (fun hlt => ?_) (fun hlt => ?_)
      · have hlt : i < (cutS s dash).size := n_lt hlt
        have hil : i < (cutS s dash).data.toList.length := Nat.lt_of_lt_of_eq hlt Array.length_toList.symm
        conv => whnf
        conv =>
          arg 2
          tactic' =>
            apply eff_index_sli (ho := ?how7) (hT := ?hTw7) (hx := ?hxw7) (hk := ?hkw7) (hlt := ?hltw7)
            case how7 => rfl
            case hTw7 => rfl
            case hxw7 => rfl
            case hkw7 => rfl
            case hltw7 => exact hlt
        conv => whnf
        conv =>
          arg 2
          tactic' =>
            apply eff_load_sub (m := [.val (.int .u8 (((cutS s dash).data.toList[i]'hil).toNat : Int))]) (ho := ?how8) (hT := ?hTw8) (hx := ?hxw8) (hb := ?hbw8) (hm := ?hmw8) (hv := ?hvw8)
            case how8 => rfl
            case hTw8 => rfl
            case hxw8 => rfl
            case hbw8 => rfl
            case hmw8 => exact bsC_get hil
            case hvw8 => rfl
        conv => whnf
        refine bcase_intro (fun hc1 => ?_) (fun hc1 => ?_)
        · have hc1 : ((cutS s dash).data.toList[i]'hil).toNat < 48 := lt_48 hc1
          have hn : parseG 0 (cutS s dash).data.toList = none := hI.bad (hi := hil) (.inl hc1)
          obtain ⟨hbz, hbo⟩ := par_none hn
          conv => whnf
          exact fun ρ => tup2_sv (wid_agg _ _ hbz ρ) (bool_t1 hbo ρ)
        · have hc1 : 48 ≤ ((cutS s dash).data.toList[i]'hil).toNat := nlt_48 hc1
          conv => whnf
          refine bcase_intro (fun hc2 => ?_) (fun hc2 => ?_)
          · have hc2 : 57 < ((cutS s dash).data.toList[i]'hil).toNat := gt_57 hc2
            have hn : parseG 0 (cutS s dash).data.toList = none := hI.bad (hi := hil) (.inr hc2)
            obtain ⟨hbz, hbo⟩ := par_none hn
            conv => whnf
            exact fun ρ => tup2_sv (wid_agg _ _ hbz ρ) (bool_t1 hbo ρ)
          · have hc2 : ((cutS s dash).data.toList[i]'hil).toNat ≤ 57 := ngt_57 hc2
            have hng : ¬ (((cutS s dash).data.toList[i]'hil).toNat < 48 ∨ 57 < ((cutS s dash).data.toList[i]'hil).toNat) := by omega
            have hd : ((cutS s dash).data.toList[i]'hil).toNat - 48 < 4294967296 := by omega
            have e1 := digit_u64 hc1
            conv => whnf
            refine ⟨⟨wsC_pure _, wsC_pure [10], trivial⟩, ⟨_, _, _, _, _, _, _, x.l, _, _, _, _, _, _, _, [10], rfl, rfl, rfl, rfl, WAt.ow x, WAt.mk' [10], by rw [hI.2.1]; exact dig_Dl WB_two _, Dl.word (by decide), Nat.le_trans hlen (by decide), by decide, trivial, fun om _ hom => ?_⟩⟩
            conv => whnf
            rw [val_word] at hom
            have homl : om.l.length ≤ 100000000 := by
              rw [hom]
              refine Nat.le_trans (dig_length_le WB_two (k := i + 1) ?_) (by omega)
              have h7 := hI.2.2.1
              have h8 : val WB x.l * 10 < 10 ^ (i + 1) := by rw [Nat.pow_succ]; omega
              exact Nat.lt_of_lt_of_le h8 (Nat.pow_le_pow_left (by rw [WB_eq]; decide) _)
            refine ⟨⟨word_pure, trivial⟩, ⟨_, _, _, _, _, _, _, [((cutS s dash).data.toList[i]'hil).toNat - 48], rfl, rfl, rfl, WAt.word e1, fun h9 => ?_⟩⟩
            conv => whnf
            refine ⟨⟨wsC_pure _, word_pure, trivial⟩, ⟨_, _, _, _, _, _, _, om.l, _, _, _, _, _, _, _, dig WB (val WB [((cutS s dash).data.toList[i]'hil).toNat - 48]), rfl, rfl, rfl, tlen_dig (Dl.word hd), WAt.ow om, WAt.wordn e1 hd, by rw [hom]; exact dig_Dl WB_two _, dig_Dl WB_two _, homl, Nat.le_trans (tlen_le1 _) (by decide), trivial, fun oa _ hoa => ?_⟩⟩
            conv => whnf
            rw [hom, val_dig WB_two, val_dig WB_two, val_word] at hoa
            refine ⟨[0, 1, 6], [2, 4, 5, 6, 15, 16, 17], [0, 1, 2], fun vs2 => ?_⟩
            conv => whnf
            refine ⟨fun _ _ => rfl, bsC_pure _, wsC_pure _, ?_⟩
            conv => whnf
            refine ⟨_, _, ?_, ?_, ⟨(i + 1, oa, vs2), hI.step (hi := hil) hng hoa⟩, (by omega : (cutS s dash).size - (i + 1) < (cutS s dash).size - i), rfl, rfl⟩
            · exact ⟨fun _ => rfl, fun _ => rfl, fun _ => rfl, fun _ => rfl, fun _ => rfl, fun _ => rfl, fun _ => rfl, fun _ => rfl, fun _ => rfl, fun _ => rfl, fun _ => rfl, fun _ => rfl, fun _ => rfl, fun _ => rfl, fun _ => rfl, fun _ => rfl, fun _ => rfl, sint_eq (wrap_add1 hlt hcap.ir) _ _, fun _ => rfl, fun _ => rfl, fun _ => rfl, fun _ => rfl, fun _ => rfl, fun _ => rfl, fun _ => rfl, fun _ => rfl, fun _ => rfl, fun _ => rfl, fun _ => rfl, fun _ => rfl, fun _ => rfl, fun _ => rfl, fun _ => rfl, fun _ => rfl, fun _ => rfl, fun _ => rfl, fun _ => rfl, fun _ => rfl, fun _ => rfl, fun _ => rfl, fun _ => rfl, fun _ => rfl, fun _ => rfl, trivial⟩
            · exact ⟨⟨rfl, rfl, rfl, fun _ => rfl⟩, ⟨rfl, rfl, rfl, fun _ => rfl⟩, ⟨rfl, rfl, rfl, fun _ => rfl⟩, trivial⟩
      · have hke : i = (cutS s dash).data.toList.length := Nat.le_antisymm hI.1 (by rw [Array.length_toList]; exact n_ge hlt)
        have hn : parseG 0 (cutS s dash).data.toList = some (val WB x.l) := by
          have := hI.2.2.2
          rwa [hke, List.drop_of_length_le (Nat.le_refl _)] at this
        conv => whnf
        refine ⟨⟨x.l, WAt.ow x, rfl, by rw [hI.2.1]; exact dig_Dl WB_two _, Nat.le_trans hlen (by decide)⟩, ?_⟩
        conv => whnf
        obtain ⟨hz1, hz2, hz3⟩ := par_some hs10 hn
        refine fun ρ => tup2_sv ?_ (bool_t1 hz3 ρ)
        rw [wsOf_ow]
        exact wv_agg _ hz1 hz2 ρ
  · cases hd
end Go.Proofs.YtbhcmajeoamloaaDoor

namespace Go.Proofs.YtbhcmajeoamloaaDoor
open Go.RowKit
set_option maxRecDepth 100000

def decC (d : Nat) : UInt8 := UInt8.ofNat (48 + d)
/-- a number in decimal -/
def decL (n : Nat) : List UInt8 := ((dig 10 n).map decC).reverse
def textL (z : Int) : List UInt8 := if z = 0 then [48] else if z < 0 then 45 :: decL z.natAbs else decL z.natAbs
def textV (X : NA) : SV := .c (.val (.string ⟨(textL X.z).toArray⟩))
def dTextA : Dn := num1 textV
theorem bsC_rep : ∀ n : Nat, repX n (.val (.int .u8 0)) = bsC (List.replicate n 0)
  | 0 => rfl
  | n + 1 => by
    show C.val (.int .u8 0) :: repX n (.val (.int .u8 0)) = C.val (.int .u8 0) :: bsC (List.replicate n 0)
    rw [bsC_rep n]
theorem bsC_append (a b : List UInt8) : bsC (a ++ b) = bsC a ++ bsC b := by unfold bsC; rw [List.map_append]
theorem splice_bs {l : List UInt8} {k : Nat} (hk : k < l.length) (c : UInt8) : spliceC (bsC l) (0 + k * 1) [.val (.int .u8 (c.toNat : Int))] = some (bsC (l.set k c)) := by
  have e : bsC l = bsC (l.take k) ++ ([C.val (.int .u8 (l[k].toNat : Int))] ++ bsC (l.drop (k + 1))) := by
    have h : l = l.take k ++ (l[k] :: l.drop (k + 1)) := by rw [← List.drop_eq_getElem_cons hk, List.take_append_drop]
    rw [show bsC l = bsC (l.take k ++ (l[k] :: l.drop (k + 1))) by rw [← h], bsC_append]
    rfl
  have s : sizeC (bsC (l.take k)) = 0 + k * 1 := by rw [bsC_size, List.length_take]; omega
  rw [e, ← s, spliceC_app (bsC (l.take k)) [.val (.int .u8 (l[k].toNat : Int))] (bsC (l.drop (k + 1))) [.val (.int .u8 (c.toNat : Int))] rfl, List.set_eq_take_append_cons_drop, if_pos hk, bsC_append]
  rfl
theorem eff_slice3 {T : TypeId → Option TI} {op : Op} {ev : Operand → SV} {hp : Nat → Option Blk} {t : TypeId} {x y1 y2 y3 : Operand} (ho : op = .slice t x (some y1) (some y2) (some y3)) {sz : Nat} {ag : Bool} {z : List C} {e : TypeId} {esz : Nat} {ez : List C} {eq : Option (List K)} (hT : T t = some ⟨sz, ag, z, .slice e esz ez, eq⟩)
    {nl : Bool} {b off len cap : Nat} {hl : SliOk nl len cap} (hx : ev x = .c (.sli nl b off len cap hl)) {l k m : Nat} {h1 : IR l} {h2 : IR k} {h3 : IR m} (e1 : ev y1 = .c (.int l h1)) (e2 : ev y2 = .c (.int k h2)) (e3 : ev y3 = .c (.int m h3)) (hc : l ≤ k ∧ k ≤ m ∧ m ≤ cap) :
    eff T op ev hp = some (.val (.c (.sli nl b (slOff off esz l m) (k - l) (m - l) (hl.sub hc)))) := by
  subst ho
  simp only [eff, hT, hx, Option.map, bndO, e1, e2, e3]
  show (if hc : _ then _ else _) = _
  rw [dif_pos ⟨hc, rfl⟩]
theorem bs_drop (l : List UInt8) {k : Nat} (hk : k ≤ l.length) : subC (bsC l) k (l.length - k) = some (bsC (l.drop k)) := by
  have e : bsC l = bsC (l.take k) ++ (bsC (l.drop k) ++ []) := by rw [List.append_nil, ← bsC_append, List.take_append_drop]
  have s : sizeC (bsC (l.take k)) = k := by rw [bsC_size, List.length_take]; omega
  have s2 : sizeC (bsC (l.drop k)) = l.length - k := by rw [bsC_size, List.length_drop]
  have := subC_app (bsC (l.take k)) (bsC (l.drop k)) []
  rw [s, s2, ← e] at this
  exact this
/-- the buffer behind some digits -/
structure TxtI (n B : Nat) (x : OW) (at_ : Nat) (bl : List UInt8) (D : List Nat) : Prop where
  hl : bl.length = B
  hx : x.l = dig WB (val WB x.l)
  hD : dig 10 n = D ++ dig 10 (val WB x.l)
  hat : at_ + D.length = B
  hb : bl.drop at_ = (D.map decC).reverse
  hn : val WB x.l ≤ n
theorem TxtI.room {n B at_ : Nat} {x : OW} {bl : List UInt8} {D : List Nat} (h : TxtI n B x at_ bl D) (hB : (dig 10 n).length + 1 ≤ B) : 1 ≤ at_ ∧ (0 < val WB x.l → 2 ≤ at_) := by
  have h1 := congrArg List.length h.hD
  rw [List.length_append] at h1
  have h2 := h.hat
  refine ⟨by omega, fun h0 => ?_⟩
  have : (dig 10 (val WB x.l)).length ≠ 0 := fun e => by have := (dig_len_zero (by decide : 2 ≤ 10)).1 e; omega
  omega
theorem TxtI.step {n B at_ : Nat} {x o : OW} {bl : List UInt8} {D : List Nat} (h : TxtI n B x at_ bl D) (hB : (dig 10 n).length + 1 ≤ B) (h0 : 0 < val WB x.l) (ho : o.l = dig WB (val WB x.l / 10)) : TxtI n B o (at_ - 1) (bl.set (at_ - 1) (decC (val WB x.l % 10))) (D ++ [val WB x.l % 10]) := by
  have hv : val WB o.l = val WB x.l / 10 := by rw [ho, val_dig WB_two]
  obtain ⟨r1, r2⟩ := h.room hB
  have hl := h.hl
  have hat := h.hat
  refine ⟨by rw [List.length_set]; exact hl, by rw [hv]; exact ho, ?_, by rw [List.length_append]; simp; omega, ?_, by rw [hv]; exact Nat.le_trans (Nat.div_le_self _ _) h.hn⟩
  · rw [h.hD, hv, List.append_assoc, dig_pos (by decide) h0]; rfl
  · rw [List.drop_eq_getElem_cons (by rw [List.length_set]; omega), List.getElem_set_self, List.drop_set, if_pos (by omega), show at_ - 1 + 1 = at_ by omega, h.hb, List.map_append, List.reverse_append]
    rfl
theorem dec_byte {d : Nat} (_ : d < 10) : IntKind.u8.wrap (IntKind.u64.wrap (48 + (d : Int))) = ((decC d).toNat : Int) := by
  unfold decC
  rw [UInt8.toNat_ofNat']
  unfold IntKind.wrap; simp [IntKind.bits, IntKind.signed]
theorem buf_make {n : Nat} (h : n ≤ 80000000) : IntKind.i64.wrap (1 + IntKind.i64.wrap (10 * (n : Int))) = ((1 + 10 * n : Nat) : Int) := by
  rw [wrap_id (z := 10 * (n : Int)) (by unfold IR; omega), wrap_id (by unfold IR; omega)]; omega
theorem dec_len (n : Nat) : (dig 10 n).length ≤ 10 * (dig WB n).length := by
  refine dig_length_le (by decide) ?_
  have h1 := lt_of_dig_length WB_two n
  have h2 : WB ^ (dig WB n).length ≤ (10 ^ 10) ^ (dig WB n).length := Nat.pow_le_pow_left (by decide : WB ≤ 10 ^ 10) _
  rw [Nat.pow_mul]
  omega
def textC : List (FuncId × NewC) := [(54, cAbs), (76, cSmall)]
theorem textC_ok : AllC Tryd.prog textC := .cons csAbs <| .cons csSmall .nil
set_option maxHeartbeats 8000000 in
theorem spTextA : SpOk Tryd.prog 49 dTextA := sp_num1H ⟨Tryd.func49, by kernel_rfl, by kernel_rfl⟩ (envN_ok .nil rdN_ok 0 fun _ => false) (mix_ok textC_ok (envN_ok .nil rdN_ok 0 fun _ => false) mixed noF_ok 0) (fun _ _ _ => rfl) fun X kX b s nX => by
  conv => whnf
  refine ⟨fun _ _ => rfl, trivial, ⟨_, b, s, rfl, rfl, NumA.raw, (nX.sz kX), fun ox hox => ?_⟩⟩
  rw [nX.natAbs] at hox
  have hvx : val WB ox.l = X.z.natAbs := by rw [hox, val_dig WB_two]
  have hx8 := nX.len8 kX
  conv => whnf
  refine bcase_intro (fun hz => ?_) (fun hz => ?_)
  · have hz : X.z = 0 := by
      have h1 : ox.l.length = 0 := by have := of_decide_eq_true hz; omega
      rw [hox] at h1
      have := (dig_len_zero WB_two).1 h1
      omega
    conv => whnf
    exact fun ρ => by
      have e : textL X.z = [48] := by unfold textL; rw [if_pos hz]
      show Value.string ⟨#[48]⟩ = Value.string ⟨(textL X.z).toArray⟩
      rw [e]
  · have hz : X.z ≠ 0 := fun e => of_decide_eq_false hz (by rw [hox, e, Int.natAbs_zero, dig_zero]; rfl)
    have hol : ox.l.length ≤ 80000000 := by rw [hox]; exact hx8
    have hbuf : (dig 10 X.z.natAbs).length + 1 ≤ (1 + 10 * ox.l.length) := by
      have := dec_len X.z.natAbs
      rw [← hox] at this
      omega
    conv => whnf
    refine ⟨rfl, (1 + 10 * ox.l.length), (1 + 10 * ox.l.length), buf_make hol, buf_make hol, Nat.le_refl _, by omega, fun h2 => ?_⟩
    conv => whnf
    refine loop_cut (G := {g : OW × Nat × List UInt8 × (Nat → Value) // ∃ D, TxtI X.z.natAbs (1 + 10 * ox.l.length) g.1 g.2.1 g.2.2.1 D}) (X := {x : OW × Nat × List UInt8 // 1 ≤ x.2.1 ∧ x.2.1 < (1 + 10 * ox.l.length) ∧ x.2.2.length = (1 + 10 * ox.l.length) ∧ x.2.2.drop x.2.1 = decL X.z.natAbs}) (fun g => (.c (.val (g.1.2.2.2 0)) :: .c (.ptr 0 0) :: .c (.val (g.1.2.2.2 2)) :: (g.1.1.sl 1) :: .c (.sli false 2 0 (1 + 10 * ox.l.length) (1 + 10 * ox.l.length) h2) :: .c (.int (g.1.2.1 : Nat) (ltI h2 (by have := g.2.choose_spec.hat; omega))) :: .c (.val (g.1.2.2.2 6)) :: .c (.val (g.1.2.2.2 7)) :: .c (.val (g.1.2.2.2 8)) :: .c (.val (g.1.2.2.2 9)) :: .c (.val (g.1.2.2.2 10)) :: .c (.val (g.1.2.2.2 11)) :: .c (.val (g.1.2.2.2 12)) :: .c (.val (g.1.2.2.2 13)) :: .c (.val (g.1.2.2.2 14)) :: .c (.val (g.1.2.2.2 15)) :: .c (.val (g.1.2.2.2 16)) :: .c (.val (g.1.2.2.2 17)) :: .c (.val (g.1.2.2.2 18)) :: .c (.val (g.1.2.2.2 19)) :: .c (.val (g.1.2.2.2 20)) :: .c (.val (g.1.2.2.2 21)) :: .c (.val (g.1.2.2.2 22)) :: .c (.val (g.1.2.2.2 23)) :: .c (.val (g.1.2.2.2 24)) :: .c (.val (g.1.2.2.2 25)) :: .c (.val (g.1.2.2.2 26)) :: .c (.val (g.1.2.2.2 27)) :: .c (.val (g.1.2.2.2 28)) :: .c (.val (g.1.2.2.2 29)) :: .c (.val (g.1.2.2.2 30)) :: .c (.val (g.1.2.2.2 31)) :: .c (.val (g.1.2.2.2 32)) :: .c (.val (g.1.2.2.2 33)) :: .c (.val (g.1.2.2.2 34)) :: .c (.val (g.1.2.2.2 35)) :: .c (.val (g.1.2.2.2 36)) :: .c (.val (g.1.2.2.2 37)) :: .c (.val (g.1.2.2.2 38)) :: .c (.val (g.1.2.2.2 39)) :: .c (.val (g.1.2.2.2 40)) :: .c (.val (g.1.2.2.2 41)) :: .c (.val (g.1.2.2.2 42)) :: .c (.val (g.1.2.2.2 43)) :: .c (.val (g.1.2.2.2 44)) :: .c (.val (g.1.2.2.2 45)) :: .c (.val (g.1.2.2.2 46)) :: .c (.val (g.1.2.2.2 47)) :: .c (.val (g.1.2.2.2 48)) :: .c (.val (g.1.2.2.2 49)) :: [])) (fun g => [⟨27, false, [.val (.bool b), .val (.string s)], 0⟩, g.1.1.blk, ⟨5, false, bsC g.1.2.2.1, 0⟩]) (fun g => val WB g.1.1.l) 0 (fun x j => (j 0 :: .c (.ptr 0 0) :: j 2 :: j 3 :: .c (.sli false 2 0 (1 + 10 * ox.l.length) (1 + 10 * ox.l.length) h2) :: .c (.int (x.1.2.1 : Nat) (ltI h2 (Nat.le_of_lt x.2.2.1))) :: j 6 :: j 7 :: j 8 :: j 9 :: j 10 :: j 11 :: j 12 :: j 13 :: j 14 :: j 15 :: j 16 :: j 17 :: j 18 :: j 19 :: j 20 :: j 21 :: j 22 :: j 23 :: j 24 :: j 25 :: j 26 :: j 27 :: j 28 :: j 29 :: j 30 :: j 31 :: j 32 :: j 33 :: j 34 :: j 35 :: j 36 :: j 37 :: j 38 :: j 39 :: j 40 :: j 41 :: j 42 :: j 43 :: j 44 :: j 45 :: j 46 :: j 47 :: j 48 :: j 49 :: [])) (fun x => [⟨27, false, [.val (.bool b), .val (.string s)], 0⟩, x.1.1.blk, ⟨5, false, bsC x.1.2.2, 0⟩]) ?_ ?_ ?_
    · refine ⟨[0, 1, 2], [1, 3, 4, 5], [0, 1, 2], fun vs => ?_⟩
      conv => whnf
      refine ⟨fun _ _ => rfl, wsC_pure _, (by rw [bsC_rep]; exact bsC_pure _), ?_⟩
      conv => whnf
      refine ⟨_, _, ?_, ?_, ⟨(ox, (1 + 10 * ox.l.length), List.replicate (1 + 10 * ox.l.length) 0, vs), [], by rw [List.length_replicate], by rw [hvx]; exact hox, by rw [hvx, List.nil_append], rfl, by rw [List.drop_of_length_le (by rw [List.length_replicate]; exact Nat.le_refl _)]; rfl, Nat.le_of_eq hvx⟩, rfl, rfl⟩
      · exact ⟨fun _ => rfl, fun _ => rfl, fun _ => rfl, fun _ => rfl, fun _ => rfl, fun _ => rfl, fun _ => rfl, fun _ => rfl, fun _ => rfl, fun _ => rfl, fun _ => rfl, fun _ => rfl, fun _ => rfl, fun _ => rfl, fun _ => rfl, fun _ => rfl, fun _ => rfl, fun _ => rfl, fun _ => rfl, fun _ => rfl, fun _ => rfl, fun _ => rfl, fun _ => rfl, fun _ => rfl, fun _ => rfl, fun _ => rfl, fun _ => rfl, fun _ => rfl, fun _ => rfl, fun _ => rfl, fun _ => rfl, fun _ => rfl, fun _ => rfl, fun _ => rfl, fun _ => rfl, fun _ => rfl, fun _ => rfl, fun _ => rfl, fun _ => rfl, fun _ => rfl, fun _ => rfl, fun _ => rfl, fun _ => rfl, fun _ => rfl, fun _ => rfl, fun _ => rfl, fun _ => rfl, fun _ => rfl, fun _ => rfl, fun _ => rfl, trivial⟩
      · exact ⟨⟨rfl, rfl, rfl, fun _ => rfl⟩, ⟨rfl, rfl, rfl, fun _ => rfl⟩, ⟨rfl, rfl, Nat.sub_self _, fun ρ => by rw [← bsC_rep]⟩, trivial⟩
    · intro Qx hqx
      rintro ⟨⟨x, at_, bl, vs⟩, D, hI⟩
      have hI : TxtI X.z.natAbs (1 + 10 * ox.l.length) x at_ bl D := hI
      conv => whnf
      refine bcase_intro (fun h0 => ?_) (fun h0 => ?_)
      · have h0 : 0 < x.l.length := nz_gt h0
        have hn0 : 0 < val WB x.l := by
          rcases Nat.eq_zero_or_pos (val WB x.l) with h1 | h1
          · have h3 := hI.hx; rw [h1, dig_zero] at h3; rw [h3] at h0; exact absurd h0 (Nat.lt_irrefl 0)
          · exact h1
        have hxl : x.l.length ≤ 100000000 := by rw [hI.hx]; exact Nat.le_trans (dig_len_mono WB_two hI.hn) (Nat.le_trans hx8 (by decide))
        obtain ⟨r1, r2⟩ := hI.room hbuf
        have hata := hI.hat
        have hbl := hI.hl
        have hir : IR ((at_ - 1 : Nat) : Int) := ltI h2 (by omega)
        have ha1 : at_ - 1 < (1 + 10 * ox.l.length) := by omega
        have ha2 : at_ - 1 < bl.length := by omega
        have ed := dec_byte (Nat.mod_lt (val WB x.l) (by decide : 0 < 10))
        conv => whnf
        refine ⟨⟨wsC_pure _, trivial⟩, ⟨_, _, _, _, _, _, _, x.l, 10, rfl, rfl, rfl, WAt.ow x, by rw [hI.hx]; exact dig_Dl WB_two _, hxl, by decide, by decide, fun ox2 hox2 => ?_⟩⟩
        conv => whnf
        conv =>
          arg 2
          tactic' =>
            apply eff_index_sli (hi := hir) (ho := ?how1) (hT := ?hTw1) (hx := ?hxw1) (hk := ?hkw1) (hlt := ?hltw1)
            case how1 => rfl
            case hTw1 => rfl
            case hxw1 => rfl
            case hkw1 => exact cint (wrap_pred r1 (ltI h2 (by omega))) hir
            case hltw1 => exact ha1
        conv => whnf
        conv =>
          arg 2
          tactic' =>
            apply eff_store_at (l := [.val (.int .u8 ((decC (val WB x.l % 10)).toNat : Int))]) (cs := bsC (bl.set (at_ - 1) (decC (val WB x.l % 10)))) (ho := ?how2) (hT := ?hTw2) (hx := ?hxw2) (hy := ?hyw2) (hl := ?hlw2) (hb := ?hbw2) (hro := ?hrow2) (hs := ?hsw2)
            case how2 => rfl
            case hTw2 => rfl
            case hxw2 => rfl
            case hyw2 => exact congrArg (fun z => some [C.val (.int .u8 z)]) ed
            case hlw2 => exact ⟨rfl, rfl⟩
            case hbw2 => rfl
            case hrow2 => rfl
            case hsw2 => exact splice_bs ha2 _
        conv => whnf
        rw [forceL_eq]
        conv => whnf
        refine ⟨[0, 3, 2], [1, 3, 4, 5], [0, 1, 2], fun vs2 => ?_⟩
        conv => whnf
        refine ⟨fun _ _ => rfl, wsC_pure _, bsC_pure _, ?_⟩
        conv => whnf
        refine ⟨_, _, ?_, ?_, ⟨(ox2, at_ - 1, bl.set (at_ - 1) (decC (val WB x.l % 10)), vs2), _, hI.step hbuf hn0 hox2⟩, by show val WB ox2.l < val WB x.l; rw [hox2, val_dig WB_two]; exact Nat.div_lt_self hn0 (by decide), rfl, rfl⟩
        · exact ⟨fun _ => rfl, fun _ => rfl, fun _ => rfl, fun _ => rfl, fun _ => rfl, sint_eq (wrap_pred r1 (ltI h2 (by omega))) _ _, fun _ => rfl, fun _ => rfl, fun _ => rfl, fun _ => rfl, fun _ => rfl, fun _ => rfl, fun _ => rfl, fun _ => rfl, fun _ => rfl, fun _ => rfl, fun _ => rfl, fun _ => rfl, fun _ => rfl, fun _ => rfl, fun _ => rfl, fun _ => rfl, fun _ => rfl, fun _ => rfl, fun _ => rfl, fun _ => rfl, fun _ => rfl, fun _ => rfl, fun _ => rfl, fun _ => rfl, fun _ => rfl, fun _ => rfl, fun _ => rfl, fun _ => rfl, fun _ => rfl, fun _ => rfl, fun _ => rfl, fun _ => rfl, fun _ => rfl, fun _ => rfl, fun _ => rfl, fun _ => rfl, fun _ => rfl, fun _ => rfl, fun _ => rfl, fun _ => rfl, fun _ => rfl, fun _ => rfl, fun _ => rfl, fun _ => rfl, trivial⟩
        · exact ⟨⟨rfl, rfl, rfl, fun _ => rfl⟩, ⟨rfl, rfl, rfl, fun _ => rfl⟩, ⟨rfl, rfl, rfl, fun _ => rfl⟩, trivial⟩
      · have h0 : x.l.length = 0 := len_zero h0
        have hv0 : val WB x.l = 0 := by rw [List.eq_nil_of_length_eq_zero h0]; rfl
        have hDf : dig 10 X.z.natAbs = D := by have := hI.hD; rw [hv0, dig_zero, List.append_nil] at this; exact this
        obtain ⟨r1, -⟩ := hI.room hbuf
        have hata := hI.hat
        have hdl : D.length + 1 ≤ (1 + 10 * ox.l.length) := by rw [← hDf]; exact hbuf
        have hbb : bl.drop at_ = decL X.z.natAbs := by rw [hI.hb, ← hDf]; rfl
        have hd1 : D.length ≠ 0 := fun e => by rw [← hDf] at e; have := (dig_len_zero (by decide : 2 ≤ 10)).1 e; omega
        have hat3 : at_ < (1 + 10 * ox.l.length) := by omega
        conv => whnf
        exact hqx ⟨(x, at_, bl), r1, hat3, hI.hl, hbb⟩ (fun i => nth uv (_ :: uv :: _ :: _ :: uv :: uv :: _ :: _ :: _ :: _ :: _ :: _ :: _ :: _ :: _ :: _ :: _ :: _ :: _ :: _ :: _ :: _ :: _ :: _ :: _ :: _ :: _ :: _ :: _ :: _ :: _ :: _ :: _ :: _ :: _ :: _ :: _ :: _ :: _ :: _ :: _ :: _ :: _ :: _ :: _ :: _ :: _ :: _ :: _ :: _ :: []) i)
    · rintro ⟨⟨x, at_, bl⟩, r1, hat2, hbl, hbb⟩ jj
      have r1 : 1 ≤ at_ := r1
      have hat2 : at_ < (1 + 10 * ox.l.length) := hat2
      have hbl : bl.length = (1 + 10 * ox.l.length) := hbl
      have hbb : bl.drop at_ = decL X.z.natAbs := hbb
      conv => whnf
      refine bcase_intro (fun hb => ?_) (fun hb => ?_)
      · have hz0 : X.z < 0 := by rcases nX.sgn with ⟨_, h⟩ | ⟨h, _⟩; omega; rw [hb] at h; cases h
        have hir : IR ((at_ - 1 : Nat) : Int) := ltI h2 (by omega)
        have ha1 : at_ - 1 < (1 + 10 * ox.l.length) := by omega
        have ha2 : at_ - 1 < bl.length := by omega
        have hlt2 : at_ - 1 < (1 + 10 * ox.l.length) := ha1
        have hbl2 : (bl.set (at_ - 1) 45).length = (1 + 10 * ox.l.length) := by rw [List.length_set]; exact hbl
        have hfin : (bl.set (at_ - 1) 45).drop (at_ - 1) = textL X.z := by
          rw [List.drop_eq_getElem_cons (by rw [List.length_set]; omega), List.getElem_set_self, List.drop_set, if_pos (by omega), show at_ - 1 + 1 = at_ by omega, hbb]
          unfold textL; rw [if_neg hz, if_pos hz0]
        conv => whnf
        conv =>
          arg 2
          tactic' =>
            apply eff_index_sli (hi := hir) (ho := ?how3) (hT := ?hTw3) (hx := ?hxw3) (hk := ?hkw3) (hlt := ?hltw3)
            case how3 => rfl
            case hTw3 => rfl
            case hxw3 => rfl
            case hkw3 => exact cint (wrap_pred r1 (ltI h2 (by omega))) hir
            case hltw3 => exact ha1
        conv => whnf
        conv =>
          arg 2
          tactic' =>
            apply eff_store_at (l := [.val (.int .u8 ((45 : UInt8).toNat : Int))]) (cs := bsC (bl.set (at_ - 1) 45)) (ho := ?how4) (hT := ?hTw4) (hx := ?hxw4) (hy := ?hyw4) (hl := ?hlw4) (hb := ?hbw4) (hro := ?hrow4) (hs := ?hsw4)
            case how4 => rfl
            case hTw4 => rfl
            case hxw4 => rfl
            case hyw4 => rfl
            case hlw4 => exact ⟨rfl, rfl⟩
            case hbw4 => rfl
            case hrow4 => rfl
            case hsw4 => exact splice_bs ha2 45
        conv => whnf
        rw [forceL_eq]
        conv => whnf
        conv =>
          arg 2
          tactic' =>
            apply eff_slice3 (h1 := hir) (l := (at_ - 1)) (k := (1 + 10 * ox.l.length)) (m := (1 + 10 * ox.l.length)) (ho := ?how5) (hT := ?hTw5) (hx := ?hxw5) (e1 := ?e1w5) (e2 := ?e2w5) (e3 := ?e3w5) (hc := ?hcw5)
            case how5 => rfl
            case hTw5 => rfl
            case hxw5 => rfl
            case e1w5 => exact cint (wrap_pred r1 (ltI h2 (by omega))) hir
            case e2w5 => rfl
            case e3w5 => rfl
            case hcw5 => exact ⟨Nat.le_of_lt hlt2, Nat.le_refl _, Nat.le_refl _⟩
        conv => whnf
        refine ⟨(bl.set (at_ - 1) 45).drop (at_ - 1), by rw [List.length_drop, hbl2], .inl rfl, (by have h9 := bs_drop (bl.set (at_ - 1) 45) (k := (at_ - 1)) (by omega); rw [hbl2] at h9; rw [slOff_lo hlt2]; exact h9), ?_⟩
        conv => whnf
        exact fun ρ => by rw [hfin]; rfl
      · have hz0 : ¬ X.z < 0 := by rcases nX.sgn with ⟨h, _⟩ | ⟨_, h⟩; rw [hb] at h; cases h; omega
        have hlt2 : at_ < (1 + 10 * ox.l.length) := hat2
        have hbl2 : bl.length = (1 + 10 * ox.l.length) := hbl
        have hfin : bl.drop at_ = textL X.z := by
          rw [hbb]; unfold textL; rw [if_neg hz, if_neg hz0]
        conv => whnf
        conv =>
          arg 2
          tactic' =>
            apply eff_slice3 (l := at_) (k := (1 + 10 * ox.l.length)) (m := (1 + 10 * ox.l.length)) (ho := ?how6) (hT := ?hTw6) (hx := ?hxw6) (e1 := ?e1w6) (e2 := ?e2w6) (e3 := ?e3w6) (hc := ?hcw6)
            case how6 => rfl
            case hTw6 => rfl
            case hxw6 => rfl
            case e1w6 => rfl
            case e2w6 => rfl
            case e3w6 => rfl
            case hcw6 => exact ⟨Nat.le_of_lt hlt2, Nat.le_refl _, Nat.le_refl _⟩
        conv => whnf
        refine ⟨bl.drop at_, by rw [List.length_drop, hbl2], .inl rfl, (by have h9 := bs_drop bl (k := at_) (by omega); rw [hbl2] at h9; rw [slOff_lo hlt2]; exact h9), ?_⟩
        conv => whnf
        exact fun ρ => by rw [hfin]; rfl
end Go.Proofs.YtbhcmajeoamloaaDoor

namespace Go.Proofs.YtbhcmajeoamloaaDoor
open Go.RowKit
set_option maxRecDepth 100000

/-- what a fraction is divided by -/
def gsgn (n d : Int) : Int := ((n.gcd d : Nat) : Int) * d.sign
def fracN (n d : Int) : Int := if d = 0 then 0 else n.tdiv (gsgn n d)
def fracD (n d : Int) : Int := if d = 0 then 0 else d.tdiv (gsgn n d)
theorem sm_fracN {k : Nat} {n : Int} (h : Sm k n) (d : Int) : Sm k (fracN n d) := by
  unfold fracN; split
  · exact sm_zero k
  · exact sm_quo h _
theorem sm_fracD {k : Nat} {d : Int} (h : Sm k d) (n : Int) : Sm k (fracD n d) := by
  unfold fracD; split
  · exact sm_zero k
  · exact sm_quo h _
def fracV (X Y : NA) : SV := .tup [.agg [.wid X.k (fracN X.z Y.z) (sm_fracN X.h _), .wid Y.k (fracD X.z Y.z) (sm_fracD Y.h _)], .c (.val (.bool (decide (Y.z ≠ 0))))]
def dFracA : Dn := num2c 10000000 fracV
theorem wid2_agg {k j k' j' : Nat} {z y z' y' : Int} (h : Sm k z) (h1 : Sm j y) (h2 : Sm k' z') (h3 : Sm j' y') (e1 : z = z') (e2 : y = y') (ρ : Rho) : (T1.agg [.wid k z h, .wid j y h1]).den ρ = (T1.agg [.wid k' z' h2, .wid j' y' h3]).den ρ := by subst e1 e2; rfl
def fracE : List (FuncId × Dn) := (22, dQuoA) :: (21, dGcdA) :: baseA
theorem fracE_ok : AllOk fracE := .cons spQuoA <| .cons spGcdA baseA_ok
theorem sign_zero {z : Int} (h : decide (z.sign = 0) = true) : z = 0 := Int.sign_eq_zero_iff_zero.1 (of_decide_eq_true h)
theorem sign_nz {z : Int} (h : decide (z.sign = 0) = false) : z ≠ 0 := fun e => of_decide_eq_false h (Int.sign_eq_zero_iff_zero.2 e)
set_option maxHeartbeats 4000000 in
theorem spFracA : SpOk Tryd.prog 38 dFracA := sp_num2H ⟨Tryd.func38, by kernel_rfl, by kernel_rfl⟩ (envN_ok fracE_ok .nil 0 fun _ => false) (mix_ok .nil (envN_ok fracE_ok .nil 0 fun _ => false) mixed noF_ok 0) (fun _ _ _ _ => rfl) fun X Y kX kY b s c t nX nY => by
  have hs8 : 8 * s.size ≤ 80000000 := by have := nX.2; omega
  have ht8 : 8 * t.size ≤ 80000000 := by have := nY.2; omega
  have hg8 : 8 * s.size + 8 * t.size ≤ 80000000 := by have := nX.2; have := nY.2; omega
  have hm8 : 8 * s.size + 8 * t.size + 64 ≤ 80000000 := by have := nX.2; have := nY.2; omega
  have eX : ival b s.data.toList = X.z := nX.1
  have eY : ival c t.data.toList = Y.z := nY.1
  conv => whnf
  refine ⟨ht8, ?_⟩
  conv => whnf
  refine bcase_intro (fun hz => ?_) (fun hz => ?_)
  · have hz : Y.z = 0 := eY ▸ sign_zero hz
    conv => whnf
    refine fun ρ => tup2_sv (wid2_agg _ _ _ _ (by unfold fracN; rw [if_pos hz]) (by unfold fracD; rw [if_pos hz]) ρ) (bool_t1 (by rw [hz]; rfl) ρ)
  · have hz : Y.z ≠ 0 := eY ▸ sign_nz hz
    conv => whnf
    refine ⟨⟨hs8, ht8⟩, ?_⟩
    conv => whnf
    refine ⟨⟨hg8, (by decide : 64 ≤ 80000000)⟩, ?_⟩
    conv => whnf
    refine ⟨⟨hs8, hm8⟩, ?_⟩
    conv => whnf
    refine ⟨⟨ht8, hm8⟩, ?_⟩
    conv => whnf
    refine fun ρ => tup2_sv (wid2_agg _ _ _ _ ?_ ?_ ρ) (bool_t1 (decide_eq_true hz).symm ρ)
    · unfold fracN gsgn; rw [if_neg hz, ← eX, ← eY]
    · unfold fracD gsgn; rw [if_neg hz, ← eX, ← eY]
end Go.Proofs.YtbhcmajeoamloaaDoor

namespace Go.Proofs.YtbhcmajeoamloaaDoor
open Go.RowKit
set_option maxRecDepth 100000

/-- a fraction's parts, where the denominator is positive -/
def pN (z y : Int) : Int := if 0 < y then z else 0
def pD (y : Int) : Int := if 0 < y then y else 1
theorem sm_pN {k : Nat} {z : Int} (h : Sm k z) (y : Int) : Sm k (pN z y) := by unfold pN; split; exact h; exact sm_zero k
theorem sm_pD {k : Nat} {y : Int} (h : Sm k y) : Sm (k + 1) (pD y) := by
  unfold pD; split
  · exact h.mono (Nat.le_succ k)
  · have : 2 ^ 1 ≤ 2 ^ (k + 1) := Nat.pow_le_pow_right (by decide) (by omega)
    unfold Sm; show 1 < _; omega
structure FA where
  k : Nat
  j : Nat
  n : Int
  d : Int
  hn : Sm k n
  hd : Sm j d
theorem sm_raw (b : Bool) (s : ByteArray) : Sm (8 * s.size) (ival b s.data.toList) := Sm.ofBytes (Nat.le_of_eq Array.length_toList)
def fraOf : List C → Option FA
  | [.wid k z h, .wid j y h'] => some ⟨k, j + 1, pN z y, pD y, sm_pN h y, sm_pD h'⟩
  | [.val (.bool b), .val (.string s), .val (.bool c), .val (.string t)] => some ⟨8 * s.size, 8 * t.size + 1, pN (ival b s.data.toList) (ival c t.data.toList), pD (ival c t.data.toList), sm_pN (sm_raw b s) _, sm_pD (sm_raw c t)⟩
  | _ => none
def FraA (l : List C) (b : Bool) (s : ByteArray) (c : Bool) (t : ByteArray) : Prop := ∀ ρ, cellsL ρ l = [.bool b, .string s, .bool c, .string t]
def raw4 (b : Bool) (s : ByteArray) (c : Bool) (t : ByteArray) : SV := .agg [.val (.bool b), .val (.string s), .val (.bool c), .val (.string t)]
theorem FraA.den {l : List C} {b c : Bool} {s t : ByteArray} (h : FraA l b s c t) (ρ : Rho) : (SV.agg l).den ρ = (raw4 b s c t).den ρ := by
  simp only [raw4, SV.den, h ρ]; rfl
theorem fraOf_ok {l : List C} {F : FA} (h : fraOf l = some F) : ∃ b s c t, FraA l b s c t ∧ F.n = pN (ival b s.data.toList) (ival c t.data.toList) ∧ F.d = pD (ival c t.data.toList) ∧ 8 * s.size ≤ F.k + 7 ∧ 8 * t.size ≤ F.j + 7 := by
  unfold fraOf at h
  split at h
  · rename_i k z hz j y hy
    cases h
    have e1 := ival_can z
    have e2 := ival_can y
    have m1 := mag_bits hz
    have m2 := mag_bits hy
    refine ⟨decide (z < 0), ⟨(mag z.natAbs).toArray⟩, decide (y < 0), ⟨(mag y.natAbs).toArray⟩, fun _ => rfl, ?_, ?_, ?_, ?_⟩
    · show pN z y = pN (ival _ (mag z.natAbs)) (ival _ (mag y.natAbs)); rw [e1, e2]
    · show pD y = pD (ival _ (mag y.natAbs)); rw [e2]
    · exact m1
    · show 8 * (mag y.natAbs).length ≤ j + 1 + 7; omega
  · cases h
    exact ⟨_, _, _, _, fun _ => rfl, rfl, rfl, Nat.le_add_right _ _, Nat.le_trans (Nat.le_add_right _ 1) (Nat.le_add_right _ _)⟩
  · cases h
def fra2c (cap : Nat) (f : FA → FA → SV) : Dn
  | [.agg l, .agg m] => (match fraOf l, fraOf m with | some F, some G => some (some ((F.k ≤ cap ∧ F.j ≤ cap) ∧ G.k ≤ cap ∧ G.j ≤ cap), f F G) | _, _ => none)
  | _ => none
theorem sp_fra2H {f : FuncId} {fn : Func} (hf : FnOk Tryd.prog f fn) {E : Env} (hE : EOk Tryd.prog E) {H : FuncId → List SV → List Blk → (SV → List Blk → Prop) → Prop} (hH : HOk Tryd.prog H) {cap : Nat} {g : FA → FA → SV} (hp : ∀ X Y ρ ρ', (g X Y).den ρ = (g X Y).den ρ')
    (h : ∀ F G : FA, ∀ b s c t b2 s2 c2 t2, F.n = pN (ival b s.data.toList) (ival c t.data.toList) → F.d = pD (ival c t.data.toList) → G.n = pN (ival b2 s2.data.toList) (ival c2 t2.data.toList) → G.d = pD (ival c2 t2.data.toList) → 8 * s.size ≤ cap + 7 → 8 * t.size ≤ cap + 7 → 8 * s2.size ≤ cap + 7 → 8 * t2.size ≤ cap + 7 →
      vcF E H fn [raw4 b s c t, raw4 b2 s2 c2 t2] [] fun u _ => ∀ ρ, u.den ρ = (g F G).den ρ) : SpOk Tryd.prog f (fra2c cap g) := by
  refine ⟨hf.callable, fun args p v hd => ?_⟩
  unfold fra2c at hd
  split at hd
  · rename_i x y
    split at hd
    · rename_i F G hF hG
      cases hd
      obtain ⟨b, s, c, t, nX, e1, e2, e3, e4⟩ := fraOf_ok hF
      obtain ⟨b2, s2, c2, t2, nY, i1, i2, i3, i4⟩ := fraOf_ok hG
      refine ⟨hp F G, fun ho ρ w => ?_⟩
      obtain ⟨⟨k1, k2⟩, k3, k4⟩ := ho _ rfl
      have e : ([.agg x, .agg y] : List SV).map (SV.den ρ) = [raw4 b s c t, raw4 b2 s2 c2 t2].map (SV.den ρ) := by
        show [(SV.agg x).den ρ, (SV.agg y).den ρ] = [(raw4 b s c t).den ρ, (raw4 b2 s2 c2 t2).den ρ]
        rw [nX.den ρ, nY.den ρ]
      rw [e]
      exact pure_okH hE mixed hH hf (hp F G) (fun _ _ => rfl) (h F G b s c t b2 s2 c2 t2 e1 e2 i1 i2 (by omega) (by omega) (by omega) (by omega)) ρ w
    · cases hd
  · cases hd
def posB (c : Bool) (t : ByteArray) : Bool := decide (0 < (ival c t.data.toList).sign)
def cB (p b : Bool) : Bool := cond p b false
def cS (p : Bool) (s e : ByteArray) : ByteArray := cond p s e
def b0 : ByteArray := ⟨#[]⟩
def b1 : ByteArray := ⟨(mag 1).toArray⟩
def partsV (b : Bool) (s : ByteArray) (c : Bool) (t : ByteArray) : SV := .tup [.agg [.val (.bool (cB (posB c t) b)), .val (.string (cS (posB c t) s b0))], .agg [.val (.bool (cB (posB c t) c)), .val (.string (cS (posB c t) t b1))]]
def dParts : Dn
  | [.agg [.val (.bool b), .val (.string s), .val (.bool c), .val (.string t)]] => some (some (8 * t.size ≤ 80000000), partsV b s c t)
  | _ => none
theorem raw_agg {b c : Bool} {s t : ByteArray} (e1 : b = c) (e2 : s = t) (ρ : Rho) : (T1.agg [.val (.bool b), .val (.string s)]).den ρ = (T1.agg [.val (.bool c), .val (.string t)]).den ρ := by subst e1 e2; rfl
theorem wid_raw {k : Nat} {z : Int} {h : Sm k z} {c : Bool} {t : ByteArray} (e1 : decide (z < 0) = c) (e2 : (⟨(mag z.natAbs).toArray⟩ : ByteArray) = t) (ρ : Rho) : (T1.agg [.wid k z h]).den ρ = (T1.agg [.val (.bool c), .val (.string t)]).den ρ := by subst e1 e2; rfl
theorem size_cS {p : Bool} {s e : ByteArray} {n : Nat} (h1 : 8 * s.size ≤ n) (h2 : 8 * e.size ≤ n) : 8 * (cS p s e).size ≤ n := by cases p; exact h2; exact h1
theorem mag_one : mag 1 = [1] := by
  have h := mag_unique (l := [1]) (by simp)
  simpa [mval, val] using h
theorem b1_size : b1.size = 1 := by unfold b1; rw [mag_one]; rfl
theorem sign_pos {z : Int} : decide (0 < z.sign) = decide (0 < z) := by
  rcases Int.lt_trichotomy z 0 with h | h | h
  · rw [Int.sign_eq_neg_one_of_neg h, decide_eq_false (by omega : ¬ 0 < z)]; rfl
  · subst h; rfl
  · rw [Int.sign_eq_one_of_pos h, decide_eq_true h]; rfl
theorem part_n {b c : Bool} {s t : ByteArray} : ival (cB (posB c t) b) (cS (posB c t) s b0).data.toList = pN (ival b s.data.toList) (ival c t.data.toList) := by
  unfold posB pN; rw [sign_pos]
  by_cases h : 0 < ival c t.data.toList
  · rw [decide_eq_true h, if_pos h]; rfl
  · rw [decide_eq_false h, if_neg h]; rfl
theorem part_d {c : Bool} {t : ByteArray} : ival (cB (posB c t) c) (cS (posB c t) t b1).data.toList = pD (ival c t.data.toList) := by
  unfold posB pD; rw [sign_pos]
  by_cases h : 0 < ival c t.data.toList
  · rw [decide_eq_true h, if_pos h]; rfl
  · rw [decide_eq_false h, if_neg h]
    show ival false (mag 1) = 1
    rw [mag_one]; rfl
set_option maxHeartbeats 4000000 in
theorem spParts : SpOk Tryd.prog 74 dParts := by
  refine ⟨⟨_, Tryd.func74, by kernel_rfl, by kernel_rfl⟩, fun args q v hd => ?_⟩
  unfold dParts at hd
  split at hd
  · rename_i b s c t
    cases hd
    refine ⟨fun _ _ => rfl, fun ho ρ w => ?_⟩
    have ht8 : 8 * t.size ≤ 80000000 := ho _ rfl
    refine pure_okH (envN_ok baseA_ok .nil 0 fun i => i == 2) mixed (mix_ok .nil (envN_ok baseA_ok .nil 0 fun i => i == 2) mixed noF_ok 0) ⟨Tryd.func74, by kernel_rfl, by kernel_rfl⟩ (v := partsV b s c t) (args := [raw4 b s c t]) (fun _ _ => rfl) (fun _ _ => rfl) ?_ ρ w
    conv => whnf
    refine ⟨ht8, ?_⟩
    conv => whnf
    refine bcase_intro (fun hp => ?_) (fun hp => ?_)
    · have hp : posB c t = true := hp
      conv => whnf
      refine ⟨?_, ?_, trivial⟩
      · conv => whnf
        refine ⟨?_, ?_, trivial⟩
        · conv => whnf
          refine ⟨?_, ?_, trivial⟩
          · conv => whnf
            refine ⟨?_, ?_, trivial⟩
            · conv => whnf
              refine ⟨?_, trivial⟩
              · conv => whnf
                refine ⟨?_, trivial⟩
                · conv => whnf
                  exact fun ρ => tup2_sv (raw_agg (by unfold cB; rw [hp]; rfl) (by unfold cS; rw [hp]; rfl) ρ) (raw_agg (by unfold cB; rw [hp]; rfl) (by unfold cS; rw [hp]; rfl) ρ)
            · conv => whnf
              refine ⟨?_, trivial⟩
              · conv => whnf
                refine ⟨?_, trivial⟩
                · conv => whnf
                  exact fun ρ => tup2_sv (raw_agg (by unfold cB; rw [hp]; rfl) (by unfold cS; rw [hp]; rfl) ρ) (raw_agg (by unfold cB; rw [hp]; rfl) (by unfold cS; rw [hp]; rfl) ρ)
          · conv => whnf
            refine ⟨?_, trivial⟩
            · conv => whnf
              refine ⟨?_, trivial⟩
              · conv => whnf
                refine ⟨?_, trivial⟩
                · conv => whnf
                  exact fun ρ => tup2_sv (raw_agg (by unfold cB; rw [hp]; rfl) (by unfold cS; rw [hp]; rfl) ρ) (raw_agg (by unfold cB; rw [hp]; rfl) (by unfold cS; rw [hp]; rfl) ρ)
        · conv => whnf
          refine ⟨?_, ?_, trivial⟩
          · conv => whnf
            refine ⟨?_, ?_, trivial⟩
            · conv => whnf
              refine ⟨?_, trivial⟩
              · conv => whnf
                refine ⟨?_, trivial⟩
                · conv => whnf
                  exact fun ρ => tup2_sv (raw_agg (by unfold cB; rw [hp]; rfl) (by unfold cS; rw [hp]; rfl) ρ) (raw_agg (by unfold cB; rw [hp]; rfl) (by unfold cS; rw [hp]; rfl) ρ)
            · conv => whnf
              refine ⟨?_, trivial⟩
              · conv => whnf
                refine ⟨?_, trivial⟩
                · conv => whnf
                  exact fun ρ => tup2_sv (raw_agg (by unfold cB; rw [hp]; rfl) (by unfold cS; rw [hp]; rfl) ρ) (raw_agg (by unfold cB; rw [hp]; rfl) (by unfold cS; rw [hp]; rfl) ρ)
          · conv => whnf
            refine ⟨?_, trivial⟩
            · conv => whnf
              refine ⟨?_, trivial⟩
              · conv => whnf
                refine ⟨?_, trivial⟩
                · conv => whnf
                  exact fun ρ => tup2_sv (raw_agg (by unfold cB; rw [hp]; rfl) (by unfold cS; rw [hp]; rfl) ρ) (raw_agg (by unfold cB; rw [hp]; rfl) (by unfold cS; rw [hp]; rfl) ρ)
      · conv => whnf
        refine ⟨?_, ?_, trivial⟩
        · conv => whnf
          refine ⟨?_, ?_, trivial⟩
          · conv => whnf
            refine ⟨?_, ?_, trivial⟩
            · conv => whnf
              refine ⟨?_, trivial⟩
              · conv => whnf
                refine ⟨?_, trivial⟩
                · conv => whnf
                  exact fun ρ => tup2_sv (raw_agg (by unfold cB; rw [hp]; rfl) (by unfold cS; rw [hp]; rfl) ρ) (raw_agg (by unfold cB; rw [hp]; rfl) (by unfold cS; rw [hp]; rfl) ρ)
            · conv => whnf
              refine ⟨?_, trivial⟩
              · conv => whnf
                refine ⟨?_, trivial⟩
                · conv => whnf
                  exact fun ρ => tup2_sv (raw_agg (by unfold cB; rw [hp]; rfl) (by unfold cS; rw [hp]; rfl) ρ) (raw_agg (by unfold cB; rw [hp]; rfl) (by unfold cS; rw [hp]; rfl) ρ)
          · conv => whnf
            refine ⟨?_, trivial⟩
            · conv => whnf
              refine ⟨?_, trivial⟩
              · conv => whnf
                refine ⟨?_, trivial⟩
                · conv => whnf
                  exact fun ρ => tup2_sv (raw_agg (by unfold cB; rw [hp]; rfl) (by unfold cS; rw [hp]; rfl) ρ) (raw_agg (by unfold cB; rw [hp]; rfl) (by unfold cS; rw [hp]; rfl) ρ)
        · conv => whnf
          refine ⟨?_, trivial⟩
          · conv => whnf
            refine ⟨?_, trivial⟩
            · conv => whnf
              refine ⟨?_, trivial⟩
              · conv => whnf
                refine ⟨?_, trivial⟩
                · conv => whnf
                  exact fun ρ => tup2_sv (raw_agg (by unfold cB; rw [hp]; rfl) (by unfold cS; rw [hp]; rfl) ρ) (raw_agg (by unfold cB; rw [hp]; rfl) (by unfold cS; rw [hp]; rfl) ρ)
    · have hp : posB c t = false := hp
      conv => whnf
      exact fun ρ => tup2_sv (wid_raw (by rw [hp]; rfl) (by rw [hp]; show (⟨(mag 0).toArray⟩ : ByteArray) = b0; rw [mag_zero]; rfl) ρ) (wid_raw (by rw [hp]; rfl) (by rw [hp]; rfl) ρ)
  · cases hd
end Go.Proofs.YtbhcmajeoamloaaDoor

namespace Go.Proofs.YtbhcmajeoamloaaDoor
open Go.RowKit
set_option maxRecDepth 100000

def cmpFV (F G : FA) : SV := .c (.int (F.n * G.d - G.n * F.d).sign (ir_sign _))
def dCmpFrac : Dn := fra2c 2000000 cmpFV
def addN (F G : FA) : Int := F.n * G.d + G.n * F.d
theorem sm_addN (F G : FA) : Sm (F.k + G.j + (G.k + F.j) + 1) (addN F G) := sm_addj (F.hn.mul G.hd) (G.hn.mul F.hd)
def addFV (F G : FA) : SV := .agg [.wid (F.k + G.j + (G.k + F.j) + 1) (fracN (addN F G) (F.d * G.d)) (sm_fracN (sm_addN F G) _), .wid (F.j + G.j) (fracD (addN F G) (F.d * G.d)) (sm_fracD (F.hd.mul G.hd) _)]
def dAddFrac : Dn := fra2c 2000000 addFV
def mulFV (F G : FA) : SV := .agg [.wid (F.k + G.k) (fracN (F.n * G.n) (F.d * G.d)) (sm_fracN (F.hn.mul G.hn) _), .wid (F.j + G.j) (fracD (F.n * G.n) (F.d * G.d)) (sm_fracD (F.hd.mul G.hd) _)]
def dMulFrac : Dn := fra2c 2000000 mulFV
theorem cmp_e {a b c d a' b' c' d' : Int} (h1 : a = a') (h2 : b = b') (h3 : c = c') (h4 : d = d') : (a * d - c * b).sign = (a' * d' - c' * b').sign := by subst h1 h2 h3 h4; rfl
theorem add_e {a b c d a' b' c' d' : Int} (f : Int → Int → Int) (h1 : a = a') (h2 : b = b') (h3 : c = c') (h4 : d = d') : f (a * d + c * b) (b * d) = f (a' * d' + c' * b') (b' * d') := by subst h1 h2 h3 h4; rfl
theorem mul_e {a b c d a' b' c' d' : Int} (f : Int → Int → Int) (h1 : a = a') (h2 : b = b') (h3 : c = c') (h4 : d = d') : f (a * c) (b * d) = f (a' * c') (b' * d') := by subst h1 h2 h3 h4; rfl
def fracsE : List (FuncId × Dn) := (74, dParts) :: (38, dFracA) :: fracE
theorem fracsE_ok : AllOk fracsE := .cons spParts <| .cons spFracA fracE_ok
theorem le80 {a n : Nat} (h : a ≤ n) (hn : n ≤ 80000000) : a ≤ 80000000 := Nat.le_trans h hn
theorem le_sum {a b m n : Nat} (h1 : a ≤ m) (h2 : b ≤ n) : a + b ≤ m + n := Nat.add_le_add h1 h2
theorem wid2_sv {k j k' j' : Nat} {z y z' y' : Int} (h : Sm k z) (h1 : Sm j y) (h2 : Sm k' z') (h3 : Sm j' y') (e1 : z = z') (e2 : y = y') (ρ : Rho) : (SV.agg [.wid k z h, .wid j y h1]).den ρ = (SV.agg [.wid k' z' h2, .wid j' y' h3]).den ρ := by subst e1 e2; rfl
set_option maxHeartbeats 4000000 in
theorem spCmpFrac : SpOk Tryd.prog 40 dCmpFrac := sp_fra2H ⟨Tryd.func40, by kernel_rfl, by kernel_rfl⟩ (envN_ok fracsE_ok .nil 0 fun _ => false) (mix_ok .nil (envN_ok fracsE_ok .nil 0 fun _ => false) mixed noF_ok 0) (fun _ _ _ _ => rfl) fun F G b s c t b2 s2 c2 t2 i1 i2 i3 i4 h1 h2 h3 h4 => by
  have hA1 : 8 * (cS (posB c t) s b0).size ≤ 2000007 := size_cS h1 (by decide)
  have hB1 : 8 * (cS (posB c t) t b1).size ≤ 2000007 := size_cS h2 (by rw [b1_size]; decide)
  have hA2 : 8 * (cS (posB c2 t2) s2 b0).size ≤ 2000007 := size_cS h3 (by decide)
  have hB2 : 8 * (cS (posB c2 t2) t2 b1).size ≤ 2000007 := size_cS h4 (by rw [b1_size]; decide)
  have eN1 := (part_n (b := b) (c := c) (s := s) (t := t)).trans i1.symm
  have eD1 := (part_d (c := c) (t := t)).trans i2.symm
  have eN2 := (part_n (b := b2) (c := c2) (s := s2) (t := t2)).trans i3.symm
  have eD2 := (part_d (c := c2) (t := t2)).trans i4.symm
  conv => whnf
  refine ⟨Nat.le_trans h2 (by decide), ?_⟩
  conv => whnf
  refine ⟨Nat.le_trans h4 (by decide), ?_⟩
  conv => whnf
  refine ⟨⟨Nat.le_trans hA1 (by decide), Nat.le_trans hB2 (by decide)⟩, ?_⟩
  conv => whnf
  refine ⟨⟨Nat.le_trans hA2 (by decide), Nat.le_trans hB1 (by decide)⟩, ?_⟩
  conv => whnf
  refine ⟨⟨Nat.le_trans (le_sum hA1 hB2) (by decide), Nat.le_trans (le_sum hA2 hB1) (by decide)⟩, ?_⟩
  conv => whnf
  exact fun ρ => sint_eq (cmp_e eN1 eD1 eN2 eD2) _ _ ρ
set_option maxHeartbeats 4000000 in
theorem spAddFrac : SpOk Tryd.prog 42 dAddFrac := sp_fra2H ⟨Tryd.func42, by kernel_rfl, by kernel_rfl⟩ (envN_ok fracsE_ok .nil 0 fun _ => false) (mix_ok .nil (envN_ok fracsE_ok .nil 0 fun _ => false) mixed noF_ok 0) (fun _ _ _ _ => rfl) fun F G b s c t b2 s2 c2 t2 i1 i2 i3 i4 h1 h2 h3 h4 => by
  have hA1 : 8 * (cS (posB c t) s b0).size ≤ 2000007 := size_cS h1 (by decide)
  have hB1 : 8 * (cS (posB c t) t b1).size ≤ 2000007 := size_cS h2 (by rw [b1_size]; decide)
  have hA2 : 8 * (cS (posB c2 t2) s2 b0).size ≤ 2000007 := size_cS h3 (by decide)
  have hB2 : 8 * (cS (posB c2 t2) t2 b1).size ≤ 2000007 := size_cS h4 (by rw [b1_size]; decide)
  have eN1 := (part_n (b := b) (c := c) (s := s) (t := t)).trans i1.symm
  have eD1 := (part_d (c := c) (t := t)).trans i2.symm
  have eN2 := (part_n (b := b2) (c := c2) (s := s2) (t := t2)).trans i3.symm
  have eD2 := (part_d (c := c2) (t := t2)).trans i4.symm
  conv => whnf
  refine ⟨Nat.le_trans h2 (by decide), ?_⟩
  conv => whnf
  refine ⟨Nat.le_trans h4 (by decide), ?_⟩
  conv => whnf
  refine ⟨⟨Nat.le_trans hA1 (by decide), Nat.le_trans hB2 (by decide)⟩, ?_⟩
  conv => whnf
  refine ⟨⟨Nat.le_trans hA2 (by decide), Nat.le_trans hB1 (by decide)⟩, ?_⟩
  conv => whnf
  refine ⟨⟨Nat.le_trans (le_sum hA1 hB2) (by decide), Nat.le_trans (le_sum hA2 hB1) (by decide)⟩, ?_⟩
  conv => whnf
  refine ⟨⟨Nat.le_trans hB1 (by decide), Nat.le_trans hB2 (by decide)⟩, ?_⟩
  conv => whnf
  refine ⟨⟨Nat.le_trans (Nat.succ_le_succ (le_sum (le_sum hA1 hB2) (le_sum hA2 hB1))) (by decide), Nat.le_trans (le_sum hB1 hB2) (by decide)⟩, ?_⟩
  conv => whnf
  exact fun ρ => wid2_sv _ _ _ _ (add_e fracN eN1 eD1 eN2 eD2) (add_e fracD eN1 eD1 eN2 eD2) ρ
set_option maxHeartbeats 4000000 in
theorem spMulFrac : SpOk Tryd.prog 44 dMulFrac := sp_fra2H ⟨Tryd.func44, by kernel_rfl, by kernel_rfl⟩ (envN_ok fracsE_ok .nil 0 fun _ => false) (mix_ok .nil (envN_ok fracsE_ok .nil 0 fun _ => false) mixed noF_ok 0) (fun _ _ _ _ => rfl) fun F G b s c t b2 s2 c2 t2 i1 i2 i3 i4 h1 h2 h3 h4 => by
  have hA1 : 8 * (cS (posB c t) s b0).size ≤ 2000007 := size_cS h1 (by decide)
  have hB1 : 8 * (cS (posB c t) t b1).size ≤ 2000007 := size_cS h2 (by rw [b1_size]; decide)
  have hA2 : 8 * (cS (posB c2 t2) s2 b0).size ≤ 2000007 := size_cS h3 (by decide)
  have hB2 : 8 * (cS (posB c2 t2) t2 b1).size ≤ 2000007 := size_cS h4 (by rw [b1_size]; decide)
  have eN1 := (part_n (b := b) (c := c) (s := s) (t := t)).trans i1.symm
  have eD1 := (part_d (c := c) (t := t)).trans i2.symm
  have eN2 := (part_n (b := b2) (c := c2) (s := s2) (t := t2)).trans i3.symm
  have eD2 := (part_d (c := c2) (t := t2)).trans i4.symm
  conv => whnf
  refine ⟨Nat.le_trans h2 (by decide), ?_⟩
  conv => whnf
  refine ⟨Nat.le_trans h4 (by decide), ?_⟩
  conv => whnf
  refine ⟨⟨Nat.le_trans hA1 (by decide), Nat.le_trans hA2 (by decide)⟩, ?_⟩
  conv => whnf
  refine ⟨⟨Nat.le_trans hB1 (by decide), Nat.le_trans hB2 (by decide)⟩, ?_⟩
  conv => whnf
  refine ⟨⟨Nat.le_trans (le_sum hA1 hA2) (by decide), Nat.le_trans (le_sum hB1 hB2) (by decide)⟩, ?_⟩
  conv => whnf
  exact fun ρ => wid2_sv _ _ _ _ (mul_e fracN eN1 eD1 eN2 eD2) (mul_e fracD eN1 eD1 eN2 eD2) ρ
end Go.Proofs.YtbhcmajeoamloaaDoor
