/- Words of natural numbers: what is read by functions that hand back numbers. Numbers as arguments, canonical or not, for the reckoner. Quo, by the reckoner. Gcd, by the reckoner. Small laws of results, for all texts behind Gcd. Frac, by the reckoner. Fractions, by the reckoner: parts. Fractions, by the reckoner: CmpFrac. -/
import Derived.Test.YtocbklodkcdhkaaGreatDoorNab
import Derived.Test.YtocbklodkcdhkaaGreatDoorWka
import Derived.Test.YtocbklodkcdhkaaGreatDoorWkb
import Derived.Test.YtocbklodkcdhkaaGreatDoorNat8
namespace Go.Proofs.YtocbklodkcdhkaaGreatDoor
open Go.RowKit
set_option maxRecDepth 100000

theorem wsC_cells (ρ : Rho) : ∀ l : List Nat, cellsL ρ (wsC l) = l.map fun d : Nat => Value.int .u64 (d : Int)
  | [] => rfl
  | d :: l => by rw [wsC, cellsL_cons, List.map_cons, ← wsC_cells ρ l]; rfl
theorem wat_wd {ρ : Rho} {w : World} {b off cap : Nat} {cs : List C} {l : List Nat} {nl : Bool} (hr : w.rangeAt (ρ b).1 (ρ b).2 (cellsL ρ cs)) (hw : WAt cs off l) (hs : SliOk nl l.length cap) : Wd .u64 w w.heap.size (nlA nl ⟨(ρ b).1, (ρ b).2 + off, none⟩) l := fun hn => by
  obtain ⟨_, A, B, rfl, rfl⟩ := hw
  rw [cellsL_append, cellsL_append, wsC_cells] at hr
  have h2 := range_sub hr
  rw [← sizeC_eq] at h2
  have hnl : nl = false := hs.pos hn
  subst hnl
  have hcell : ∀ k, k < l.length → w.cell? ((Addr.mk (ρ b).1 ((ρ b).2 + sizeC A) none).add k) = some (.int .u64 ((l[k]?.getD 0 : Nat) : Int)) := fun k hk => by
    rw [Addr.add_mid]
    exact h2 k _ (by rw [List.getElem?_map, List.getElem?_eq_getElem hk]; rfl)
  exact ⟨_, rfl, block_lt_of_cell (h2 0 _ (List.getElem?_eq_getElem (by rw [List.length_map]; exact hn))), hcell⟩
/-- words out of cells -/
def unW : List C → List Nat
  | .val (.int _ n) :: l => n.toNat :: unW l
  | _ => []
theorem unW_ws : ∀ l : List Nat, unW (wsC l) = l
  | [] => rfl
  | d :: l => by show (d : Int).toNat :: unW (wsC l) = _; rw [unW_ws l]; simp
def wsOf (cs : List C) (off len : Nat) : List Nat := match subC cs off (len * 1) with | some m => unW m | none => []
theorem wsOf_eq {cs : List C} {off : Nat} {l : List Nat} (h : WAt cs off l) : wsOf cs off l.length = l := by
  unfold wsOf; rw [h.all rfl]; exact unW_ws l
/-- the number of words -/
def wvC (neg : Bool) (n : Nat) : List C := [.val (.bool (neg && decide (n ≠ 0))), .val (.string ⟨(mag n).toArray⟩)]
def dWideN : Dr
  | [.c (.sli _ b off len _ _), .c (.val (.bool neg))], hf => (match hf b with
    | some blk => some (some (∃ l, WAt blk.cs off l ∧ l.length = len ∧ Dl WB l ∧ len ≤ 1000000000), .agg (wvC neg (val WB (wsOf blk.cs off len))))
    | none => none)
  | [.c (.val (.slice none 0 0)), .c (.val (.bool _))], _ => some (none, .agg (wvC false 0))
  | _, _ => none
theorem wvC_den (neg : Bool) (n : Nat) (ρ : Rho) : (SV.agg (wvC neg n)).den ρ = wv (neg && decide (n ≠ 0)) n := rfl
theorem spWideN : SpR Tryz.prog 49 dWideN := by
  refine ⟨⟨_, Tryz.func49, by kernel_rfl, by kernel_rfl⟩, fun args hf p v hd => ?_⟩
  unfold dWideN at hd
  split at hd
  · rename_i nl b off len cap hs neg
    split at hd
    · rename_i blk hb
      cases hd
      refine ⟨fun _ _ => rfl, fun hp ρ w hh => ?_⟩
      obtain ⟨l, hw, hlen, dl, hle⟩ := hp _ rfl
      subst hlen
      have hr := (hh b blk hb).1
      rw [wvC_den, wsOf_eq hw]
      exact wide_lst l (nlA nl ⟨(ρ b).1, (ρ b).2 + off, none⟩) l.length cap neg w dl (wat_wd hr hw hs) rfl hle hs.1 hs.2.1
    · cases hd
  · rename_i neg
    cases hd
    refine ⟨fun _ _ => rfl, fun _ ρ w _ => ?_⟩
    have := wide_lst [] none 0 0 neg w (Dl.nil _) (Wd.nil _ _ _ _) rfl (by decide) (by decide) (by decide)
    rw [wvC_den]
    have e : wv (neg && decide (val WB [] ≠ 0)) (val WB []) = wv (false && decide (0 ≠ 0)) 0 := by simp [val]
    rw [e] at this
    exact this
  · cases hd
end Go.Proofs.YtocbklodkcdhkaaGreatDoor

namespace Go.Proofs.YtocbklodkcdhkaaGreatDoor
open Go.RowKit
set_option maxRecDepth 100000

/-- a number among the arguments: how many bits, its value -/
structure NA where
  k : Nat
  z : Int
  h : Sm k z
def numOf : List C → Option NA
  | [.wid k z h] => some ⟨k, z, h⟩
  | [.val (.bool b), .val (.string s)] => some ⟨8 * s.size, ival b s.data.toList, Sm.ofBytes (Nat.le_of_eq Array.length_toList)⟩
  | _ => none
theorem numOf_ok {x : List C} {X : NA} (h : numOf x = some X) : ∃ b s, NumA x b s ∧ Num (X.k + 7) b s X.z := by
  unfold numOf at h
  split at h
  · cases h
    exact ⟨_, _, NumA.wid, num_wid (by assumption)⟩
  · rename_i b s
    cases h
    exact ⟨b, s, NumA.raw, rfl, Nat.le_add_right _ _⟩
  · cases h
theorem args2_den {x y : List C} {b c : Bool} {s t : ByteArray} (hx : NumA x b s) (hy : NumA y c t) (ρ : Rho) : (([.agg x, .agg y] : List SV).map (SV.den ρ)).toArray = #[.agg #[.bool b, .string s], .agg #[.bool c, .string t]] := by
  show #[(SV.agg x).den ρ, (SV.agg y).den ρ] = _
  rw [hx.den ρ, hy.den ρ]; rfl
theorem args1_den {x : List C} {b : Bool} {s : ByteArray} (hx : NumA x b s) (ρ : Rho) : (([.agg x] : List SV).map (SV.den ρ)).toArray = #[.agg #[.bool b, .string s]] := by
  show #[(SV.agg x).den ρ] = _
  rw [hx.den ρ]; rfl
def num2c (cap : Nat) (f : NA → NA → SV) : Dn
  | [.agg x, .agg y] => (match numOf x, numOf y with | some X, some Y => some (some (X.k ≤ cap ∧ Y.k ≤ cap), f X Y) | _, _ => none)
  | _ => none
def num1c (cap : Nat) (f : NA → SV) : Dn
  | [.agg x] => (match numOf x with | some X => some (some (X.k ≤ cap), f X) | none => none)
  | _ => none
abbrev num2 (f : NA → NA → SV) : Dn := num2c 80000000 f
abbrev num1 (f : NA → SV) : Dn := num1c 80000000 f
/-- functions of two numbers -/
theorem sp_num2 {f : FuncId} (hc : Callable Tryz.prog f) {cap : Nat} {g : NA → NA → SV} (hp : ∀ X Y ρ ρ', (g X Y).den ρ = (g X Y).den ρ')
    (h : ∀ X Y : NA, X.k ≤ cap → Y.k ≤ cap → ∀ b s c t, Num (X.k + 7) b s X.z → Num (Y.k + 7) c t Y.z → ∀ ρ w, Calls Tryz.prog f #[.agg #[.bool b, .string s], .agg #[.bool c, .string t]] w fun e w' => e = .returned ((g X Y).den ρ) ∧ Below w.heap.size w w') : SpOk Tryz.prog f (num2c cap g) := by
  refine ⟨hc, fun args p v hd => ?_⟩
  unfold num2c at hd
  split at hd
  · rename_i x y
    split at hd
    · rename_i X Y hX hY
      cases hd
      obtain ⟨b, s, nX, eX⟩ := numOf_ok hX
      obtain ⟨c, t, nY, eY⟩ := numOf_ok hY
      refine ⟨hp X Y, fun ho ρ w => ?_⟩
      obtain ⟨kX, kY⟩ := ho _ rfl
      rw [args2_den nX nY]
      exact h X Y kX kY b s c t eX eY ρ w
    · cases hd
  · cases hd
theorem sp_num1 {f : FuncId} (hc : Callable Tryz.prog f) {cap : Nat} {g : NA → SV} (hp : ∀ X ρ ρ', (g X).den ρ = (g X).den ρ')
    (h : ∀ X : NA, X.k ≤ cap → ∀ b s, Num (X.k + 7) b s X.z → ∀ ρ w, Calls Tryz.prog f #[.agg #[.bool b, .string s]] w fun e w' => e = .returned ((g X).den ρ) ∧ Below w.heap.size w w') : SpOk Tryz.prog f (num1c cap g) := by
  refine ⟨hc, fun args p v hd => ?_⟩
  unfold num1c at hd
  split at hd
  · rename_i x
    split at hd
    · rename_i X hX
      cases hd
      obtain ⟨b, s, nX, eX⟩ := numOf_ok hX
      refine ⟨hp X, fun ho ρ w => ?_⟩
      rw [args1_den nX]
      exact h X (ho _ rfl) b s eX ρ w
    · cases hd
  · cases hd
theorem ir_sign (z : Int) : IR z.sign := by unfold IR; rcases z with (_ | _) | _ <;> simp [Int.sign]
def dMulA : Dn := num2 fun X Y => .agg [.wid (X.k + Y.k) (X.z * Y.z) (X.h.mul Y.h)]
def dAddA : Dn := num2 fun X Y => .agg [.wid (X.k + Y.k + 1) (X.z + Y.z) (sm_addj X.h Y.h)]
def dSubA : Dn := num2 fun X Y => .agg [.wid (X.k + Y.k + 1) (X.z - Y.z) (sm_subj X.h Y.h)]
def dNegA : Dn := num1 fun X => .agg [.wid X.k (-X.z) X.h.neg]
def dSignA : Dn := num1 fun X => .c (.int X.z.sign (ir_sign _))
def dCmpA : Dn := num2 fun X Y => .c (.int (X.z - Y.z).sign (ir_sign _))
theorem spMulA : SpOk Tryz.prog 30 dMulA := sp_num2 ⟨_, Tryz.func30, by kernel_rfl, by kernel_rfl⟩ (fun _ _ _ _ => rfl) fun X Y kX kY b s c t nX nY ρ w => (Mul_any nX nY (by omega) (by omega) w).mono fun e w' he => gives_sp he ρ _
theorem spAddA : SpOk Tryz.prog 67 dAddA := sp_num2 ⟨_, Tryz.func67, by kernel_rfl, by kernel_rfl⟩ (fun _ _ _ _ => rfl) fun X Y kX kY b s c t nX nY ρ w => (Add_any nX nY (by omega) (by omega) w).mono fun e w' he => gives_sp he ρ _
theorem spSubA : SpOk Tryz.prog 50 dSubA := sp_num2 ⟨_, Tryz.func50, by kernel_rfl, by kernel_rfl⟩ (fun _ _ _ _ => rfl) fun X Y kX kY b s c t nX nY ρ w => (Sub_any nX nY (by omega) (by omega) w).mono fun e w' he => gives_sp he ρ _
theorem spNegA : SpOk Tryz.prog 71 dNegA := sp_num1 ⟨_, Tryz.func71, by kernel_rfl, by kernel_rfl⟩ (fun _ _ _ => rfl) fun X kX b s nX ρ w => (Neg_any nX (by omega) w).mono fun e w' he => gives_sp he ρ _
theorem spSignA : SpOk Tryz.prog 29 dSignA := sp_num1 ⟨_, Tryz.func29, by kernel_rfl, by kernel_rfl⟩ (fun _ _ _ => rfl) fun X kX b s nX ρ w => Sign_any nX (by omega) w
theorem spCmpA : SpOk Tryz.prog 28 dCmpA := sp_num2 ⟨_, Tryz.func28, by kernel_rfl, by kernel_rfl⟩ (fun _ _ _ _ => rfl) fun X Y kX kY b s c t nX nY ρ w => Cmp_any nX nY (by omega) (by omega) w
theorem spRNegA : SpOk Tryz.prog 57 dNegA := sp_num1 ⟨_, Tryz.func57, by kernel_rfl, by kernel_rfl⟩ (fun _ _ _ => rfl) fun X kX b s nX ρ w => (RNeg_any nX (by omega) w).mono fun e w' he => gives_sp he ρ _
theorem spRSignA : SpOk Tryz.prog 55 dSignA := sp_num1 ⟨_, Tryz.func55, by kernel_rfl, by kernel_rfl⟩ (fun _ _ _ => rfl) fun X kX b s nX ρ w => RSign_any nX (by omega) w
def baseA : List (FuncId × Dn) := [(24, dFrom), (30, dMulA), (67, dAddA), (50, dSubA), (71, dNegA), (29, dSignA), (28, dCmpA), (34, dFrom), (57, dNegA), (55, dSignA)]
theorem baseA_ok : AllOk baseA := .cons (spFrom ⟨_, Tryz.func24, by kernel_rfl, by kernel_rfl⟩ From_any) <| .cons spMulA <| .cons spAddA <| .cons spSubA <| .cons spNegA <| .cons spSignA <| .cons spCmpA <| .cons (spFrom ⟨_, Tryz.func34, by kernel_rfl, by kernel_rfl⟩ RFrom_any) <| .cons spRNegA <| .cons spRSignA <| .nil
end Go.Proofs.YtocbklodkcdhkaaGreatDoor

namespace Go.Proofs.YtocbklodkcdhkaaGreatDoor
open Go.RowKit
set_option maxRecDepth 100000

theorem pure_okH {P : Program} {E : Env} (hE : EOk P E) (hm : P.follows .mixedOrders = true) {H : FuncId → List SV → List Blk → (SV → List Blk → Prop) → Prop} (hH : HOk P H) {f : FuncId} {fn : Func} (hf : FnOk P f fn) {args : List SV} {v : SV} (hpure : ∀ ρ ρ', v.den ρ = v.den ρ') (hap : ∀ ρ ρ', args.map (SV.den ρ) = args.map (SV.den ρ'))
    (h : vcF E H fn args [] fun u _ => ∀ ρ, u.den ρ = v.den ρ) (ρ : Rho) (w : World) :
    Calls P f (args.map (SV.den ρ)).toArray w fun e w' => e = .returned (v.den ρ) ∧ Below w.heap.size w w' := by
  have hh : HRel w.heap.size ⟨w, fun _ => False, ρ, 0⟩ (nthO []) ρ w := ⟨fun i b h => by simp [nthO] at h, fun i b h => by simp [nthO] at h, fun i j b c h => by simp [nthO] at h, fun ρ _ i b h => by simp [nthO] at h, BelO.refl _ _, Nat.le_refl _, fun i h => h.elim⟩
  refine (fn_ok hE hm hH hf h w.heap.size _ ρ w hh (fun ρ' _ => hap ρ' ρ)).mono ?_
  rintro e w' ⟨u, hp', ρ1, hu, hh', -, he⟩
  have := he ρ1 (Agr.refl _ _)
  exact ⟨by rw [this, hu ρ1, hpure ρ1 ρ], hh'.bel.below⟩
def envN (un : Nat) (l : List (FuncId × Dn)) (r : List (FuncId × Dr)) (ord : Nat → Bool) : Env where
  T := tyT
  un := un
  D := fun f args hf => match lkD l f args with | some x => some x | none => lkR r f args hf
  O := oAll tyT
  ord := ord
theorem envN_ok {l : List (FuncId × Dn)} (hl : AllOk l) {r : List (FuncId × Dr)} (hr : AllR r) (un : Nat) (ord : Nat → Bool) : EOk Tryz.prog (envN un l r ord) := ⟨tyT_ok, (envR_ok hl hr un).D, oAll_ok tyT_ok, fun _ _ _ xs h => absurd (show (none : Option (List (List SV))) = some xs from h) (by simp)⟩
def rdN : List (FuncId × Dr) := [(49, dWideN)]
theorem rdN_ok : AllR rdN := .cons spWideN .nil
def rawL (b : Bool) (s : ByteArray) : SV := .agg [.val (.bool b), .val (.string s)]
theorem sp_num2H {f : FuncId} {fn : Func} (hf : FnOk Tryz.prog f fn) {E : Env} (hE : EOk Tryz.prog E) {H : FuncId → List SV → List Blk → (SV → List Blk → Prop) → Prop} (hH : HOk Tryz.prog H) {g : NA → NA → SV} {cap : Nat} (hp : ∀ X Y ρ ρ', (g X Y).den ρ = (g X Y).den ρ')
    (h : ∀ X Y : NA, X.k ≤ cap → Y.k ≤ cap → ∀ b s c t, Num (X.k + 7) b s X.z → Num (Y.k + 7) c t Y.z → vcF E H fn [rawL b s, rawL c t] [] fun u _ => ∀ ρ, u.den ρ = (g X Y).den ρ) : SpOk Tryz.prog f (num2c cap g) :=
  sp_num2 hf.callable hp fun X Y kX kY b s c t nX nY ρ w => pure_okH hE mixed hH hf (hp X Y) (fun _ _ => rfl) (h X Y kX kY b s c t nX nY) ρ w
def SgnOf (b : Bool) (z : Int) : Prop := (b = true ∧ z ≤ 0) ∨ (b = false ∧ 0 ≤ z)
theorem quo_sign {b c : Bool} {y z : Int} (h1 : SgnOf b y) (h2 : SgnOf c z) (h0 : y.natAbs / z.natAbs ≠ 0) : ((!(b == c)) = true ↔ y.tdiv z < 0) := by
  obtain ⟨m, rfl | rfl⟩ := Int.eq_nat_or_neg y <;> obtain ⟨n, rfl | rfl⟩ := Int.eq_nat_or_neg z
  all_goals
    simp only [Int.natAbs_neg, Int.natAbs_natCast] at h0
    have hm : m ≠ 0 := fun e => by subst e; simp at h0
    have hn : n ≠ 0 := fun e => by subst e; simp at h0
    simp only [Int.neg_tdiv, Int.tdiv_neg, Int.neg_neg, ← Int.ofNat_tdiv]
    have hq : 0 < m / n := Nat.pos_of_ne_zero h0
    have eq := Int.natCast_ediv m n
    rcases h1 with ⟨rfl, h1⟩ | ⟨rfl, h1⟩ <;> rcases h2 with ⟨rfl, h2⟩ | ⟨rfl, h2⟩ <;> simp <;> omega
theorem rem_sign {b : Bool} {y z : Int} (h1 : SgnOf b y) (h0 : y.natAbs % z.natAbs ≠ 0) : (b = true ↔ y.tmod z < 0) := by
  obtain ⟨m, rfl | rfl⟩ := Int.eq_nat_or_neg y <;> obtain ⟨n, rfl | rfl⟩ := Int.eq_nat_or_neg z
  all_goals
    simp only [Int.natAbs_neg, Int.natAbs_natCast] at h0
    simp only [Int.neg_tmod, Int.tmod_neg, ← Int.ofNat_tmod]
    have hm : m ≠ 0 := fun e => by subst e; simp at h0
    rcases h1 with ⟨rfl, h1⟩ | ⟨rfl, h1⟩ <;> simp <;> omega
theorem Num.sgn {k : Nat} {b : Bool} {s : ByteArray} {z : Int} (h : Num k b s z) : SgnOf b z := ival_or h
theorem sm_quo {k : Nat} {y : Int} (h : Sm k y) (z : Int) : Sm k (y.tdiv z) := h.of_le (by rw [Int.natAbs_tdiv]; exact Nat.div_le_self _ _)
def remZ (y z : Int) : Int := if z = 0 then 0 else y.tmod z
theorem sm_rem {k : Nat} {y : Int} (h : Sm k y) (z : Int) : Sm k (remZ y z) := by
  unfold remZ
  split
  · exact Nat.pow_pos (by decide)
  · exact h.of_le (by rw [Int.natAbs_tmod]; exact Nat.mod_le _ _)
def quoV (X Y : NA) : SV := .tup [.agg [.wid X.k (X.z.tdiv Y.z) (sm_quo X.h _)], .agg [.wid X.k (remZ X.z Y.z) (sm_rem X.h _)], .c (.val (.bool (decide (Y.z ≠ 0))))]
def dQuoA : Dn := num2 quoV
theorem wv_agg {k : Nat} {z : Int} (h : Sm k z) {neg : Bool} {n : Nat} (hn : n = z.natAbs) (hs : n ≠ 0 → (neg = true ↔ z < 0)) (ρ : Rho) : (T1.agg (wvC neg n)).den ρ = (T1.agg [.wid k z h]).den ρ := by
  obtain ⟨h1, h2⟩ := can_wv neg n z hn hs
  show Value.agg #[.bool (neg && decide (n ≠ 0)), .string ⟨(mag n).toArray⟩] = Value.agg #[.bool (decide (z < 0)), .string ⟨(mag z.natAbs).toArray⟩]
  rw [h1, h2]
theorem wid_agg {k j : Nat} {z y : Int} (h : Sm k z) (h' : Sm j y) (e : z = y) (ρ : Rho) : (T1.agg [.wid k z h]).den ρ = (T1.agg [.wid j y h']).den ρ := by subst e; rfl
theorem tup3_den {a b c a' b' c' : T1} {ρ : Rho} (h1 : a.den ρ = a'.den ρ) (h2 : b.den ρ = b'.den ρ) (h3 : c.den ρ = c'.den ρ) : (SV.tup [a, b, c]).den ρ = (SV.tup [a', b', c']).den ρ := by
  show Value.tuple #[a.den ρ, b.den ρ, c.den ρ] = Value.tuple #[a'.den ρ, b'.den ρ, c'.den ρ]
  rw [h1, h2, h3]
theorem Num.len8 {k : Nat} {b : Bool} {s : ByteArray} {z : Int} (h : Num (k + 7) b s z) (hk : k ≤ 80000000) : (dig WB z.natAbs).length ≤ 80000000 := dig_len_of (k := k + 7) (h.sm) (by omega)
theorem Num.sz {k : Nat} {b : Bool} {s : ByteArray} {z : Int} (h : Num (k + 7) b s z) (hk : k ≤ 80000000) : s.size ≤ 300000000 := by have := h.2; omega
def quoC : List (FuncId × NewC) := [(51, cAbs), (91, cDiv)]
theorem quoC_ok : AllC Tryz.prog quoC := .cons csAbs <| .cons csDiv .nil
theorem wat_eq (o : OW) {n : Nat} (h : o.l = dig WB n) : WAt (wsC (o.l ++ o.r)) 0 (dig WB n) := by rw [← h]; exact WAt.ow o
theorem wsOf_ow (o : OW) : wsOf o.blk.cs 0 o.l.length = o.l := wsOf_eq (WAt.ow o)
theorem dl_eq {o : OW} {n : Nat} (h : o.l = dig WB n) : Dl WB o.l := by rw [h]; exact dig_Dl WB_two n
set_option maxHeartbeats 4000000 in
theorem spQuoA : SpOk Tryz.prog 73 dQuoA := sp_num2H ⟨Tryz.func73, by kernel_rfl, by kernel_rfl⟩ (envN_ok .nil rdN_ok 0 fun i => i == 3) (mix_ok quoC_ok (envN_ok .nil rdN_ok 0 fun i => i == 3) mixed noF_ok 0) (fun _ _ _ _ => rfl) fun X Y kX kY b s c t nX nY => by
  conv => whnf
  refine ⟨fun _ _ => rfl, trivial, ⟨_, c, t, rfl, rfl, NumA.raw, (nY.sz kY), fun oy hoy => ?_⟩⟩
  rw [nY.natAbs] at hoy
  conv => whnf
  refine bcase_intro (fun hz => ?_) (fun hz => ?_)
  · have hz : Y.z = 0 := by
      have h1 : oy.l.length = 0 := by have := of_decide_eq_true hz; omega
      rw [hoy] at h1
      have := (dig_len_zero WB_two).1 h1
      omega
    have e1 : (0 : Int) = X.z.tdiv Y.z := by rw [hz]; exact (Int.tdiv_zero _).symm
    have e2 : (0 : Int) = remZ X.z Y.z := by rw [hz]; rfl
    have e3 : ∀ ρ : Rho, (T1.c (.val (.bool false))).den ρ = (T1.c (.val (.bool (decide (Y.z ≠ 0))))).den ρ := fun _ => by rw [hz]; rfl
    conv => whnf
    refine ⟨?_, ?_, trivial⟩
    · conv => whnf
      refine ⟨?_, ?_, trivial⟩
      · conv => whnf
        refine ⟨?_, trivial⟩
        · conv => whnf
          refine ⟨?_, trivial⟩
          · conv => whnf
            refine ⟨?_, trivial⟩
            · conv => whnf
              exact fun ρ => tup3_den (wid_agg _ _ e1 ρ) (wid_agg _ _ e2 ρ) (e3 ρ)
      · conv => whnf
        refine ⟨?_, trivial⟩
        · conv => whnf
          refine ⟨?_, trivial⟩
          · conv => whnf
            refine ⟨?_, trivial⟩
            · conv => whnf
              exact fun ρ => tup3_den (wid_agg _ _ e1 ρ) (wid_agg _ _ e2 ρ) (e3 ρ)
    · conv => whnf
      refine ⟨?_, trivial⟩
      · conv => whnf
        refine ⟨?_, trivial⟩
        · conv => whnf
          refine ⟨?_, trivial⟩
          · conv => whnf
            refine ⟨?_, trivial⟩
            · conv => whnf
              exact fun ρ => tup3_den (wid_agg _ _ e1 ρ) (wid_agg _ _ e2 ρ) (e3 ρ)
  · have hz : Y.z ≠ 0 := fun e => of_decide_eq_false hz (by rw [hoy, e, Int.natAbs_zero, dig_zero]; rfl)
    have hn0 : 0 < Y.z.natAbs := by omega
    conv => whnf
    refine ⟨fun _ _ => rfl, trivial, ⟨_, b, s, rfl, rfl, NumA.raw, (nX.sz kX), fun ox hox => ?_⟩⟩
    rw [nX.natAbs] at hox
    have hqz : ∀ n : Nat, n = X.z.natAbs / Y.z.natAbs → n = (X.z.tdiv Y.z).natAbs := fun n e => by rw [e, Int.natAbs_tdiv]; rfl
    have hrz : X.z.natAbs % Y.z.natAbs = (remZ X.z Y.z).natAbs := by unfold remZ; rw [if_neg hz, Int.natAbs_tmod]
    have hrs : X.z.natAbs % Y.z.natAbs ≠ 0 → (b = true ↔ remZ X.z Y.z < 0) := fun h0 => by unfold remZ; rw [if_neg hz]; exact rem_sign nX.sgn h0
    conv => whnf
    refine ⟨⟨wsC_pure _, wsC_pure _, trivial⟩, ⟨_, _, _, _, _, _, _, X.z.natAbs, _, _, _, _, _, _, _, Y.z.natAbs, rfl, rfl, by rw [hox], by rw [hoy], wat_eq ox hox, wat_eq oy hoy, hn0, by rw [hox]; exact nX.len8 kX, by rw [hoy]; exact nY.len8 kY, fun hmn oq hoq => ?_, fun hmn oq or hoq hor => ?_⟩⟩
    · have hm0 : X.z.natAbs / Y.z.natAbs = 0 := Nat.div_eq_of_lt hmn
      have hm1 : X.z.natAbs % Y.z.natAbs = X.z.natAbs := Nat.mod_eq_of_lt hmn
      have hv : val WB ox.l = X.z.natAbs := by rw [hox, val_dig WB_two]
      conv => whnf
      refine ⟨⟨oq.l, WAt.ow oq, rfl, by rw [hoq]; exact Dl.nil _, by rw [hoq]; exact Nat.zero_le _⟩, ?_⟩
      conv => whnf
      refine ⟨⟨ox.l, WAt.ow ox, rfl, dl_eq hox, by rw [hox]; exact Nat.le_trans (nX.len8 kX) (by decide)⟩, ?_⟩
      conv => whnf
      refine fun ρ => tup3_den ?_ ?_ ?_
      · rw [wsOf_ow oq, hoq]
        exact wv_agg _ (hqz _ hm0.symm) (fun h => absurd rfl h) ρ
      · rw [wsOf_ow ox, hv]
        exact wv_agg _ (by rw [← hrz, hm1]) (fun h0 => hrs (by rw [hm1]; exact h0)) ρ
      · show Value.bool true = Value.bool (decide (Y.z ≠ 0))
        rw [decide_eq_true hz]
    · have hv1 : val WB oq.l = X.z.natAbs / Y.z.natAbs := by rw [hoq, val_dig WB_two]
      have hv2 : val WB or.l = X.z.natAbs % Y.z.natAbs := by rw [hor, val_dig WB_two]
      have hl1 : oq.l.length ≤ 1000000000 := by rw [hoq]; exact Nat.le_trans (dig_len_mono WB_two (Nat.div_le_self _ _)) (Nat.le_trans (nX.len8 kX) (by decide))
      have hl2 : or.l.length ≤ 1000000000 := by rw [hor]; exact Nat.le_trans (dig_len_mono WB_two (Nat.mod_le _ _)) (Nat.le_trans (nX.len8 kX) (by decide))
      conv => whnf
      refine ⟨⟨oq.l, WAt.ow oq, rfl, dl_eq hoq, hl1⟩, ?_⟩
      conv => whnf
      refine ⟨⟨or.l, WAt.ow or, rfl, dl_eq hor, hl2⟩, ?_⟩
      conv => whnf
      refine fun ρ => tup3_den ?_ ?_ ?_
      · rw [wsOf_ow oq, hv1]
        exact wv_agg _ (hqz _ rfl) (fun h0 => quo_sign nX.sgn nY.sgn h0) ρ
      · rw [wsOf_ow or, hv2]
        exact wv_agg _ hrz hrs ρ
      · show Value.bool true = Value.bool (decide (Y.z ≠ 0))
        rw [decide_eq_true hz]
end Go.Proofs.YtocbklodkcdhkaaGreatDoor

namespace Go.Proofs.YtocbklodkcdhkaaGreatDoor
open Go.RowKit
set_option maxRecDepth 100000

theorem sm_gcd {j k : Nat} {y z : Int} (h : Sm j y) (h' : Sm k z) : Sm (j + k) ((y.gcd z : Nat) : Int) := by
  have h1 : y.gcd z = Nat.gcd y.natAbs z.natAbs := rfl
  unfold Sm at *
  rw [Int.natAbs_natCast, h1]
  have hj : 2 ^ j ≤ 2 ^ (j + k) := Nat.pow_le_pow_right (by decide) (by omega)
  have hk : 2 ^ k ≤ 2 ^ (j + k) := Nat.pow_le_pow_right (by decide) (by omega)
  rcases Nat.eq_zero_or_pos y.natAbs with h0 | h0
  · rw [h0, Nat.gcd_zero_left]; omega
  · have := Nat.le_of_dvd h0 (Nat.gcd_dvd_left y.natAbs z.natAbs); omega
def gcdV (X Y : NA) : SV := .agg [.wid (X.k + Y.k) ((X.z.gcd Y.z : Nat) : Int) (sm_gcd X.h Y.h)]
def dGcdA : Dn := num2 gcdV
def GcdI (g : Nat) (ox oy : OW) : Prop := Nat.gcd (val WB ox.l) (val WB oy.l) = g ∧ ox.l = dig WB (val WB ox.l) ∧ oy.l = dig WB (val WB oy.l) ∧ ox.l.length ≤ 80000000 ∧ oy.l.length ≤ 80000000
theorem wv_sv {k : Nat} {z : Int} (h : Sm k z) {neg : Bool} {n : Nat} (hn : n = z.natAbs) (hs : n ≠ 0 → (neg = true ↔ z < 0)) (ρ : Rho) : (SV.agg (wvC neg n)).den ρ = (SV.agg [.wid k z h]).den ρ := wv_agg h hn hs ρ
set_option maxHeartbeats 8000000 in
theorem spGcdA : SpOk Tryz.prog 72 dGcdA := sp_num2H ⟨Tryz.func72, by kernel_rfl, by kernel_rfl⟩ (envN_ok .nil rdN_ok 0 fun i => i == 1) (mix_ok quoC_ok (envN_ok .nil rdN_ok 0 fun i => i == 1) mixed noF_ok 0) (fun _ _ _ _ => rfl) fun X Y kX kY b s c t nX nY => by
  conv => whnf
  refine ⟨?_, ?_, trivial⟩
  · conv => whnf
    refine ⟨?_, ?_, trivial⟩
    · conv => whnf
      refine ⟨fun _ _ => rfl, trivial, ⟨_, b, s, rfl, rfl, NumA.raw, (nX.sz kX), fun ox hox => ?_⟩⟩
      rw [nX.natAbs] at hox
      conv => whnf
      refine ⟨?_, trivial⟩
      · conv => whnf
        refine ⟨fun _ _ => rfl, trivial, ⟨_, c, t, rfl, rfl, NumA.raw, (nY.sz kY), fun oy hoy => ?_⟩⟩
        rw [nY.natAbs] at hoy
        have hvx : val WB ox.l = X.z.natAbs := by rw [hox, val_dig WB_two]
        have hvy : val WB oy.l = Y.z.natAbs := by rw [hoy, val_dig WB_two]
        conv => whnf
        refine loop_cut (G := {g : OW × OW × (Nat → Value) // GcdI (Nat.gcd X.z.natAbs Y.z.natAbs) g.1 g.2.1}) (X := {x : OW × OW // val WB x.1.l = (Nat.gcd X.z.natAbs Y.z.natAbs) ∧ x.1.l = dig WB (val WB x.1.l) ∧ x.1.l.length ≤ 80000000}) (fun g => (.c (.val (g.1.2.2 0)) :: .c (.val (g.1.2.2 1)) :: .c (.val (g.1.2.2 2)) :: .c (.val (g.1.2.2 3)) :: .c (.ptr 0 0) :: (g.1.1.sl 1) :: (g.1.2.1.sl 2) :: .c (.val (g.1.2.2 7)) :: .c (.val (g.1.2.2 8)) :: .c (.val (g.1.2.2 9)) :: .c (.val (g.1.2.2 10)) :: .c (.val (g.1.2.2 11)) :: .c (.val (g.1.2.2 12)) :: .c (.val (g.1.2.2 13)) :: .c (.val (g.1.2.2 14)) :: .c (.val (g.1.2.2 15)) :: .c (.val (g.1.2.2 16)) :: .c (.val (g.1.2.2 17)) :: .c (.val (g.1.2.2 18)) :: .c (.val (g.1.2.2 19)) :: .c (.val (g.1.2.2 20)) :: .c (.val (g.1.2.2 21)) :: .c (.val (g.1.2.2 22)) :: .c (.val (g.1.2.2 23)) :: .c (.val (g.1.2.2 24)) :: .c (.val (g.1.2.2 25)) :: [])) (fun g => [⟨43, false, [.wid 0 0 (by unfold Sm; decide)], 0⟩, g.1.1.blk, g.1.2.1.blk]) (fun g => val WB g.1.2.1.l) 0 (fun x j => (j 0 :: j 1 :: j 2 :: j 3 :: .c (.ptr 0 0) :: (x.1.1.sl 1) :: j 6 :: j 7 :: j 8 :: j 9 :: j 10 :: j 11 :: j 12 :: j 13 :: j 14 :: j 15 :: j 16 :: j 17 :: j 18 :: j 19 :: j 20 :: j 21 :: j 22 :: j 23 :: j 24 :: j 25 :: [])) (fun x => [⟨43, false, [.wid 0 0 (by unfold Sm; decide)], 0⟩, x.1.1.blk, x.1.2.blk]) ?_ ?_ ?_
        · refine ⟨[2, 3, 4], [4, 5, 6], [0, 1, 2], fun vs => ?_⟩
          conv => whnf
          refine ⟨fun _ _ => rfl, wsC_pure _, wsC_pure _, ?_⟩
          conv => whnf
          refine ⟨_, _, ?_, ?_, ⟨(ox, oy, vs), by rw [hvx, hvy], by rw [hvx]; exact hox, by rw [hvy]; exact hoy, by rw [hox]; exact nX.len8 kX, by rw [hoy]; exact nY.len8 kY⟩, rfl, rfl⟩
          · exact ⟨fun _ => rfl, fun _ => rfl, fun _ => rfl, fun _ => rfl, fun _ => rfl, fun _ => rfl, fun _ => rfl, fun _ => rfl, fun _ => rfl, fun _ => rfl, fun _ => rfl, fun _ => rfl, stm _⟩
          · exact ⟨⟨rfl, rfl, rfl, fun _ => rfl⟩, ⟨rfl, rfl, rfl, fun _ => rfl⟩, ⟨rfl, rfl, rfl, fun _ => rfl⟩, trivial⟩
        · intro Qx hqx
          rintro ⟨⟨ox, oy, vs3⟩, h1, h2, h3, h4, h5⟩
          have h1 : Nat.gcd (val WB ox.l) (val WB oy.l) = (Nat.gcd X.z.natAbs Y.z.natAbs) := h1
          have h2 : ox.l = dig WB (val WB ox.l) := h2
          have h3 : oy.l = dig WB (val WB oy.l) := h3
          have h4 : ox.l.length ≤ 80000000 := h4
          have h5 : oy.l.length ≤ 80000000 := h5
          conv => whnf
          refine bcase_intro (fun h0 => ?_) (fun h0 => ?_)
          · have h0 : 0 < oy.l.length := nz_gt h0
            have hn0 : 0 < val WB oy.l := by
              rcases Nat.eq_zero_or_pos (val WB oy.l) with h1 | h1
              · rw [h1, dig_zero] at h3; rw [h3] at h0; exact absurd h0 (Nat.lt_irrefl 0)
              · exact h1
            conv => whnf
            refine ⟨⟨wsC_pure _, wsC_pure _, trivial⟩, ⟨_, _, _, _, _, _, _, val WB ox.l, _, _, _, _, _, _, _, val WB oy.l, rfl, rfl, (congrArg List.length h2).symm, (congrArg List.length h3).symm, wat_eq ox h2, wat_eq oy h3, hn0, h4, h5, fun hmn oq hoq => ?_, fun hmn oq or hoq hor => ?_⟩⟩
            · conv => whnf
              refine ⟨[0, 2, 1], [4, 5, 6], [0, 1, 2], fun vs2 => ?_⟩
              conv => whnf
              refine ⟨fun _ _ => rfl, wsC_pure _, wsC_pure _, ?_⟩
              conv => whnf
              refine ⟨_, _, ?_, ?_, ⟨(oy, ox, vs2), by rw [Nat.gcd_comm]; exact h1, h3, h2, h5, h4⟩, hmn, rfl, rfl⟩
              · exact ⟨fun _ => rfl, fun _ => rfl, fun _ => rfl, fun _ => rfl, fun _ => rfl, fun _ => rfl, fun _ => rfl, fun _ => rfl, fun _ => rfl, fun _ => rfl, fun _ => rfl, fun _ => rfl, stm _⟩
              · exact ⟨⟨rfl, rfl, rfl, fun _ => rfl⟩, ⟨rfl, rfl, rfl, fun _ => rfl⟩, ⟨rfl, rfl, rfl, fun _ => rfl⟩, trivial⟩
            · have hv2 : val WB or.l = val WB ox.l % val WB oy.l := by rw [hor, val_dig WB_two]
              have hl2 : or.l.length ≤ 80000000 := by rw [hor]; exact Nat.le_trans (dig_len_mono WB_two (Nat.mod_le _ _)) (by rw [← h2]; exact h4)
              conv => whnf
              refine ⟨[0, 2, 4], [4, 5, 6], [0, 1, 2], fun vs2 => ?_⟩
              conv => whnf
              refine ⟨fun _ _ => rfl, wsC_pure _, wsC_pure _, ?_⟩
              conv => whnf
              refine ⟨_, _, ?_, ?_, ⟨(oy, or, vs2), by rw [hv2, Nat.gcd_comm, ← Nat.gcd_rec, Nat.gcd_comm]; exact h1, h3, by rw [hv2]; exact hor, h5, hl2⟩, by show val WB or.l < val WB oy.l; rw [hv2]; exact Nat.mod_lt _ hn0, rfl, rfl⟩
              · exact ⟨fun _ => rfl, fun _ => rfl, fun _ => rfl, fun _ => rfl, fun _ => rfl, fun _ => rfl, fun _ => rfl, fun _ => rfl, fun _ => rfl, fun _ => rfl, fun _ => rfl, fun _ => rfl, stm _⟩
              · exact ⟨⟨rfl, rfl, rfl, fun _ => rfl⟩, ⟨rfl, rfl, rfl, fun _ => rfl⟩, ⟨rfl, rfl, rfl, fun _ => rfl⟩, trivial⟩
          · have h0 : oy.l.length = 0 := len_zero h0
            conv => whnf
            exact hqx ⟨(ox, oy), by rw [← h1, List.eq_nil_of_length_eq_zero h0]; exact (Nat.gcd_zero_right _).symm, h2, h4⟩ (fun i => nth uv (_ :: _ :: _ :: _ :: uv :: uv :: _ :: _ :: _ :: _ :: _ :: _ :: _ :: _ :: _ :: _ :: _ :: _ :: _ :: _ :: _ :: _ :: _ :: _ :: _ :: _ :: []) i)
        · rintro ⟨⟨ox, oy⟩, h1, h2, h4⟩ jj
          have h1 : val WB ox.l = (Nat.gcd X.z.natAbs Y.z.natAbs) := h1
          have h2 : ox.l = dig WB (val WB ox.l) := h2
          have h4 : ox.l.length ≤ 80000000 := h4
          conv => whnf
          refine ⟨⟨ox.l, WAt.ow ox, rfl, by rw [h2]; exact dig_Dl WB_two _, Nat.le_trans h4 (by decide)⟩, ?_⟩
          conv => whnf
          intro ρ
          rw [wsOf_ow ox]
          exact wv_sv _ h1 (fun _ => ⟨fun h => (by cases h), fun h => absurd h (by omega)⟩) ρ
    · conv => whnf
      refine ⟨?_, trivial⟩
      · conv => whnf
        refine ⟨fun _ _ => rfl, trivial, ⟨_, b, s, rfl, rfl, NumA.raw, (nX.sz kX), fun ox hox => ?_⟩⟩
        rw [nX.natAbs] at hox
        conv => whnf
        refine ⟨fun _ _ => rfl, trivial, ⟨_, c, t, rfl, rfl, NumA.raw, (nY.sz kY), fun oy hoy => ?_⟩⟩
        rw [nY.natAbs] at hoy
        have hvx : val WB ox.l = X.z.natAbs := by rw [hox, val_dig WB_two]
        have hvy : val WB oy.l = Y.z.natAbs := by rw [hoy, val_dig WB_two]
        conv => whnf
        refine loop_cut (G := {g : OW × OW × (Nat → Value) // GcdI (Nat.gcd X.z.natAbs Y.z.natAbs) g.1 g.2.1}) (X := {x : OW × OW // val WB x.1.l = (Nat.gcd X.z.natAbs Y.z.natAbs) ∧ x.1.l = dig WB (val WB x.1.l) ∧ x.1.l.length ≤ 80000000}) (fun g => (.c (.val (g.1.2.2 0)) :: .c (.val (g.1.2.2 1)) :: .c (.val (g.1.2.2 2)) :: .c (.val (g.1.2.2 3)) :: .c (.ptr 0 0) :: (g.1.1.sl 1) :: (g.1.2.1.sl 2) :: .c (.val (g.1.2.2 7)) :: .c (.val (g.1.2.2 8)) :: .c (.val (g.1.2.2 9)) :: .c (.val (g.1.2.2 10)) :: .c (.val (g.1.2.2 11)) :: .c (.val (g.1.2.2 12)) :: .c (.val (g.1.2.2 13)) :: .c (.val (g.1.2.2 14)) :: .c (.val (g.1.2.2 15)) :: .c (.val (g.1.2.2 16)) :: .c (.val (g.1.2.2 17)) :: .c (.val (g.1.2.2 18)) :: .c (.val (g.1.2.2 19)) :: .c (.val (g.1.2.2 20)) :: .c (.val (g.1.2.2 21)) :: .c (.val (g.1.2.2 22)) :: .c (.val (g.1.2.2 23)) :: .c (.val (g.1.2.2 24)) :: .c (.val (g.1.2.2 25)) :: [])) (fun g => [⟨43, false, [.wid 0 0 (by unfold Sm; decide)], 0⟩, g.1.1.blk, g.1.2.1.blk]) (fun g => val WB g.1.2.1.l) 0 (fun x j => (j 0 :: j 1 :: j 2 :: j 3 :: .c (.ptr 0 0) :: (x.1.1.sl 1) :: j 6 :: j 7 :: j 8 :: j 9 :: j 10 :: j 11 :: j 12 :: j 13 :: j 14 :: j 15 :: j 16 :: j 17 :: j 18 :: j 19 :: j 20 :: j 21 :: j 22 :: j 23 :: j 24 :: j 25 :: [])) (fun x => [⟨43, false, [.wid 0 0 (by unfold Sm; decide)], 0⟩, x.1.1.blk, x.1.2.blk]) ?_ ?_ ?_
        · refine ⟨[2, 3, 4], [4, 5, 6], [0, 1, 2], fun vs => ?_⟩
          conv => whnf
          refine ⟨fun _ _ => rfl, wsC_pure _, wsC_pure _, ?_⟩
          conv => whnf
          refine ⟨_, _, ?_, ?_, ⟨(ox, oy, vs), by rw [hvx, hvy], by rw [hvx]; exact hox, by rw [hvy]; exact hoy, by rw [hox]; exact nX.len8 kX, by rw [hoy]; exact nY.len8 kY⟩, rfl, rfl⟩
          · exact ⟨fun _ => rfl, fun _ => rfl, fun _ => rfl, fun _ => rfl, fun _ => rfl, fun _ => rfl, fun _ => rfl, fun _ => rfl, fun _ => rfl, fun _ => rfl, fun _ => rfl, fun _ => rfl, stm _⟩
          · exact ⟨⟨rfl, rfl, rfl, fun _ => rfl⟩, ⟨rfl, rfl, rfl, fun _ => rfl⟩, ⟨rfl, rfl, rfl, fun _ => rfl⟩, trivial⟩
        · intro Qx hqx
          rintro ⟨⟨ox, oy, vs3⟩, h1, h2, h3, h4, h5⟩
          have h1 : Nat.gcd (val WB ox.l) (val WB oy.l) = (Nat.gcd X.z.natAbs Y.z.natAbs) := h1
          have h2 : ox.l = dig WB (val WB ox.l) := h2
          have h3 : oy.l = dig WB (val WB oy.l) := h3
          have h4 : ox.l.length ≤ 80000000 := h4
          have h5 : oy.l.length ≤ 80000000 := h5
          conv => whnf
          refine bcase_intro (fun h0 => ?_) (fun h0 => ?_)
          · have h0 : 0 < oy.l.length := nz_gt h0
            have hn0 : 0 < val WB oy.l := by
              rcases Nat.eq_zero_or_pos (val WB oy.l) with h1 | h1
              · rw [h1, dig_zero] at h3; rw [h3] at h0; exact absurd h0 (Nat.lt_irrefl 0)
              · exact h1
            conv => whnf
            refine ⟨⟨wsC_pure _, wsC_pure _, trivial⟩, ⟨_, _, _, _, _, _, _, val WB ox.l, _, _, _, _, _, _, _, val WB oy.l, rfl, rfl, (congrArg List.length h2).symm, (congrArg List.length h3).symm, wat_eq ox h2, wat_eq oy h3, hn0, h4, h5, fun hmn oq hoq => ?_, fun hmn oq or hoq hor => ?_⟩⟩
            · conv => whnf
              refine ⟨[0, 2, 1], [4, 5, 6], [0, 1, 2], fun vs2 => ?_⟩
              conv => whnf
              refine ⟨fun _ _ => rfl, wsC_pure _, wsC_pure _, ?_⟩
              conv => whnf
              refine ⟨_, _, ?_, ?_, ⟨(oy, ox, vs2), by rw [Nat.gcd_comm]; exact h1, h3, h2, h5, h4⟩, hmn, rfl, rfl⟩
              · exact ⟨fun _ => rfl, fun _ => rfl, fun _ => rfl, fun _ => rfl, fun _ => rfl, fun _ => rfl, fun _ => rfl, fun _ => rfl, fun _ => rfl, fun _ => rfl, fun _ => rfl, fun _ => rfl, stm _⟩
              · exact ⟨⟨rfl, rfl, rfl, fun _ => rfl⟩, ⟨rfl, rfl, rfl, fun _ => rfl⟩, ⟨rfl, rfl, rfl, fun _ => rfl⟩, trivial⟩
            · have hv2 : val WB or.l = val WB ox.l % val WB oy.l := by rw [hor, val_dig WB_two]
              have hl2 : or.l.length ≤ 80000000 := by rw [hor]; exact Nat.le_trans (dig_len_mono WB_two (Nat.mod_le _ _)) (by rw [← h2]; exact h4)
              conv => whnf
              refine ⟨[0, 2, 4], [4, 5, 6], [0, 1, 2], fun vs2 => ?_⟩
              conv => whnf
              refine ⟨fun _ _ => rfl, wsC_pure _, wsC_pure _, ?_⟩
              conv => whnf
              refine ⟨_, _, ?_, ?_, ⟨(oy, or, vs2), by rw [hv2, Nat.gcd_comm, ← Nat.gcd_rec, Nat.gcd_comm]; exact h1, h3, by rw [hv2]; exact hor, h5, hl2⟩, by show val WB or.l < val WB oy.l; rw [hv2]; exact Nat.mod_lt _ hn0, rfl, rfl⟩
              · exact ⟨fun _ => rfl, fun _ => rfl, fun _ => rfl, fun _ => rfl, fun _ => rfl, fun _ => rfl, fun _ => rfl, fun _ => rfl, fun _ => rfl, fun _ => rfl, fun _ => rfl, fun _ => rfl, stm _⟩
              · exact ⟨⟨rfl, rfl, rfl, fun _ => rfl⟩, ⟨rfl, rfl, rfl, fun _ => rfl⟩, ⟨rfl, rfl, rfl, fun _ => rfl⟩, trivial⟩
          · have h0 : oy.l.length = 0 := len_zero h0
            conv => whnf
            exact hqx ⟨(ox, oy), by rw [← h1, List.eq_nil_of_length_eq_zero h0]; exact (Nat.gcd_zero_right _).symm, h2, h4⟩ (fun i => nth uv (_ :: _ :: _ :: _ :: uv :: uv :: _ :: _ :: _ :: _ :: _ :: _ :: _ :: _ :: _ :: _ :: _ :: _ :: _ :: _ :: _ :: _ :: _ :: _ :: _ :: _ :: []) i)
        · rintro ⟨⟨ox, oy⟩, h1, h2, h4⟩ jj
          have h1 : val WB ox.l = (Nat.gcd X.z.natAbs Y.z.natAbs) := h1
          have h2 : ox.l = dig WB (val WB ox.l) := h2
          have h4 : ox.l.length ≤ 80000000 := h4
          conv => whnf
          refine ⟨⟨ox.l, WAt.ow ox, rfl, by rw [h2]; exact dig_Dl WB_two _, Nat.le_trans h4 (by decide)⟩, ?_⟩
          conv => whnf
          intro ρ
          rw [wsOf_ow ox]
          exact wv_sv _ h1 (fun _ => ⟨fun h => (by cases h), fun h => absurd h (by omega)⟩) ρ
  · conv => whnf
    refine ⟨?_, trivial⟩
    · conv => whnf
      refine ⟨?_, trivial⟩
      · conv => whnf
        refine ⟨fun _ _ => rfl, trivial, ⟨_, b, s, rfl, rfl, NumA.raw, (nX.sz kX), fun ox hox => ?_⟩⟩
        rw [nX.natAbs] at hox
        conv => whnf
        refine ⟨fun _ _ => rfl, trivial, ⟨_, c, t, rfl, rfl, NumA.raw, (nY.sz kY), fun oy hoy => ?_⟩⟩
        rw [nY.natAbs] at hoy
        have hvx : val WB ox.l = X.z.natAbs := by rw [hox, val_dig WB_two]
        have hvy : val WB oy.l = Y.z.natAbs := by rw [hoy, val_dig WB_two]
        conv => whnf
        refine loop_cut (G := {g : OW × OW × (Nat → Value) // GcdI (Nat.gcd X.z.natAbs Y.z.natAbs) g.1 g.2.1}) (X := {x : OW × OW // val WB x.1.l = (Nat.gcd X.z.natAbs Y.z.natAbs) ∧ x.1.l = dig WB (val WB x.1.l) ∧ x.1.l.length ≤ 80000000}) (fun g => (.c (.val (g.1.2.2 0)) :: .c (.val (g.1.2.2 1)) :: .c (.val (g.1.2.2 2)) :: .c (.val (g.1.2.2 3)) :: .c (.ptr 0 0) :: (g.1.1.sl 1) :: (g.1.2.1.sl 2) :: .c (.val (g.1.2.2 7)) :: .c (.val (g.1.2.2 8)) :: .c (.val (g.1.2.2 9)) :: .c (.val (g.1.2.2 10)) :: .c (.val (g.1.2.2 11)) :: .c (.val (g.1.2.2 12)) :: .c (.val (g.1.2.2 13)) :: .c (.val (g.1.2.2 14)) :: .c (.val (g.1.2.2 15)) :: .c (.val (g.1.2.2 16)) :: .c (.val (g.1.2.2 17)) :: .c (.val (g.1.2.2 18)) :: .c (.val (g.1.2.2 19)) :: .c (.val (g.1.2.2 20)) :: .c (.val (g.1.2.2 21)) :: .c (.val (g.1.2.2 22)) :: .c (.val (g.1.2.2 23)) :: .c (.val (g.1.2.2 24)) :: .c (.val (g.1.2.2 25)) :: [])) (fun g => [⟨43, false, [.wid 0 0 (by unfold Sm; decide)], 0⟩, g.1.1.blk, g.1.2.1.blk]) (fun g => val WB g.1.2.1.l) 0 (fun x j => (j 0 :: j 1 :: j 2 :: j 3 :: .c (.ptr 0 0) :: (x.1.1.sl 1) :: j 6 :: j 7 :: j 8 :: j 9 :: j 10 :: j 11 :: j 12 :: j 13 :: j 14 :: j 15 :: j 16 :: j 17 :: j 18 :: j 19 :: j 20 :: j 21 :: j 22 :: j 23 :: j 24 :: j 25 :: [])) (fun x => [⟨43, false, [.wid 0 0 (by unfold Sm; decide)], 0⟩, x.1.1.blk, x.1.2.blk]) ?_ ?_ ?_
        · refine ⟨[2, 3, 4], [4, 5, 6], [0, 1, 2], fun vs => ?_⟩
          conv => whnf
          refine ⟨fun _ _ => rfl, wsC_pure _, wsC_pure _, ?_⟩
          conv => whnf
          refine ⟨_, _, ?_, ?_, ⟨(ox, oy, vs), by rw [hvx, hvy], by rw [hvx]; exact hox, by rw [hvy]; exact hoy, by rw [hox]; exact nX.len8 kX, by rw [hoy]; exact nY.len8 kY⟩, rfl, rfl⟩
          · exact ⟨fun _ => rfl, fun _ => rfl, fun _ => rfl, fun _ => rfl, fun _ => rfl, fun _ => rfl, fun _ => rfl, fun _ => rfl, fun _ => rfl, fun _ => rfl, fun _ => rfl, fun _ => rfl, stm _⟩
          · exact ⟨⟨rfl, rfl, rfl, fun _ => rfl⟩, ⟨rfl, rfl, rfl, fun _ => rfl⟩, ⟨rfl, rfl, rfl, fun _ => rfl⟩, trivial⟩
        · intro Qx hqx
          rintro ⟨⟨ox, oy, vs3⟩, h1, h2, h3, h4, h5⟩
          have h1 : Nat.gcd (val WB ox.l) (val WB oy.l) = (Nat.gcd X.z.natAbs Y.z.natAbs) := h1
          have h2 : ox.l = dig WB (val WB ox.l) := h2
          have h3 : oy.l = dig WB (val WB oy.l) := h3
          have h4 : ox.l.length ≤ 80000000 := h4
          have h5 : oy.l.length ≤ 80000000 := h5
          conv => whnf
          refine bcase_intro (fun h0 => ?_) (fun h0 => ?_)
          · have h0 : 0 < oy.l.length := nz_gt h0
            have hn0 : 0 < val WB oy.l := by
              rcases Nat.eq_zero_or_pos (val WB oy.l) with h1 | h1
              · rw [h1, dig_zero] at h3; rw [h3] at h0; exact absurd h0 (Nat.lt_irrefl 0)
              · exact h1
            conv => whnf
            refine ⟨⟨wsC_pure _, wsC_pure _, trivial⟩, ⟨_, _, _, _, _, _, _, val WB ox.l, _, _, _, _, _, _, _, val WB oy.l, rfl, rfl, (congrArg List.length h2).symm, (congrArg List.length h3).symm, wat_eq ox h2, wat_eq oy h3, hn0, h4, h5, fun hmn oq hoq => ?_, fun hmn oq or hoq hor => ?_⟩⟩
            · conv => whnf
              refine ⟨[0, 2, 1], [4, 5, 6], [0, 1, 2], fun vs2 => ?_⟩
              conv => whnf
              refine ⟨fun _ _ => rfl, wsC_pure _, wsC_pure _, ?_⟩
              conv => whnf
              refine ⟨_, _, ?_, ?_, ⟨(oy, ox, vs2), by rw [Nat.gcd_comm]; exact h1, h3, h2, h5, h4⟩, hmn, rfl, rfl⟩
              · exact ⟨fun _ => rfl, fun _ => rfl, fun _ => rfl, fun _ => rfl, fun _ => rfl, fun _ => rfl, fun _ => rfl, fun _ => rfl, fun _ => rfl, fun _ => rfl, fun _ => rfl, fun _ => rfl, stm _⟩
              · exact ⟨⟨rfl, rfl, rfl, fun _ => rfl⟩, ⟨rfl, rfl, rfl, fun _ => rfl⟩, ⟨rfl, rfl, rfl, fun _ => rfl⟩, trivial⟩
            · have hv2 : val WB or.l = val WB ox.l % val WB oy.l := by rw [hor, val_dig WB_two]
              have hl2 : or.l.length ≤ 80000000 := by rw [hor]; exact Nat.le_trans (dig_len_mono WB_two (Nat.mod_le _ _)) (by rw [← h2]; exact h4)
              conv => whnf
              refine ⟨[0, 2, 4], [4, 5, 6], [0, 1, 2], fun vs2 => ?_⟩
              conv => whnf
              refine ⟨fun _ _ => rfl, wsC_pure _, wsC_pure _, ?_⟩
              conv => whnf
              refine ⟨_, _, ?_, ?_, ⟨(oy, or, vs2), by rw [hv2, Nat.gcd_comm, ← Nat.gcd_rec, Nat.gcd_comm]; exact h1, h3, by rw [hv2]; exact hor, h5, hl2⟩, by show val WB or.l < val WB oy.l; rw [hv2]; exact Nat.mod_lt _ hn0, rfl, rfl⟩
              · exact ⟨fun _ => rfl, fun _ => rfl, fun _ => rfl, fun _ => rfl, fun _ => rfl, fun _ => rfl, fun _ => rfl, fun _ => rfl, fun _ => rfl, fun _ => rfl, fun _ => rfl, fun _ => rfl, stm _⟩
              · exact ⟨⟨rfl, rfl, rfl, fun _ => rfl⟩, ⟨rfl, rfl, rfl, fun _ => rfl⟩, ⟨rfl, rfl, rfl, fun _ => rfl⟩, trivial⟩
          · have h0 : oy.l.length = 0 := len_zero h0
            conv => whnf
            exact hqx ⟨(ox, oy), by rw [← h1, List.eq_nil_of_length_eq_zero h0]; exact (Nat.gcd_zero_right _).symm, h2, h4⟩ (fun i => nth uv (_ :: _ :: _ :: _ :: uv :: uv :: _ :: _ :: _ :: _ :: _ :: _ :: _ :: _ :: _ :: _ :: _ :: _ :: _ :: _ :: _ :: _ :: _ :: _ :: _ :: _ :: []) i)
        · rintro ⟨⟨ox, oy⟩, h1, h2, h4⟩ jj
          have h1 : val WB ox.l = (Nat.gcd X.z.natAbs Y.z.natAbs) := h1
          have h2 : ox.l = dig WB (val WB ox.l) := h2
          have h4 : ox.l.length ≤ 80000000 := h4
          conv => whnf
          refine ⟨⟨ox.l, WAt.ow ox, rfl, by rw [h2]; exact dig_Dl WB_two _, Nat.le_trans h4 (by decide)⟩, ?_⟩
          conv => whnf
          intro ρ
          rw [wsOf_ow ox]
          exact wv_sv _ h1 (fun _ => ⟨fun h => (by cases h), fun h => absurd h (by omega)⟩) ρ
end Go.Proofs.YtocbklodkcdhkaaGreatDoor

namespace Go.Proofs.YtocbklodkcdhkaaGreatDoor
open Go.RowKit

theorem tup2_sv {a b a' b' : T1} {ρ : Rho} (h1 : a.den ρ = a'.den ρ) (h2 : b.den ρ = b'.den ρ) : (SV.tup [a, b]).den ρ = (SV.tup [a', b']).den ρ := tup2_den h1 h2
theorem bool_t1 {a b : Bool} (e : a = b) (ρ : Rho) : (T1.c (.val (.bool a))).den ρ = (T1.c (.val (.bool b))).den ρ := by subst e; rfl
theorem sm_zero (k : Nat) : Sm k 0 := Nat.pow_pos (by decide)
end Go.Proofs.YtocbklodkcdhkaaGreatDoor

namespace Go.Proofs.YtocbklodkcdhkaaGreatDoor
open Go.RowKit
set_option maxRecDepth 100000

/-- what a fraction is divided by -/
def gsgn (n d : Int) : Int := ((n.gcd d : Nat) : Int) * d.sign
def fracN (n d : Int) : Int := if d = 0 then 0 else n.tdiv (gsgn n d)
def fracD (n d : Int) : Int := if d = 0 then 0 else d.tdiv (gsgn n d)
theorem sm_fracN {k : Nat} {n : Int} (h : Sm k n) (d : Int) : Sm k (fracN n d) := by
  unfold fracN; split
  · exact sm_zero k
  · exact sm_quo h _
theorem sm_fracD {k : Nat} {d : Int} (h : Sm k d) (n : Int) : Sm k (fracD n d) := by
  unfold fracD; split
  · exact sm_zero k
  · exact sm_quo h _
def fracV (X Y : NA) : SV := .tup [.agg [.wid X.k (fracN X.z Y.z) (sm_fracN X.h _), .wid Y.k (fracD X.z Y.z) (sm_fracD Y.h _)], .c (.val (.bool (decide (Y.z ≠ 0))))]
def dFracA : Dn := num2c 10000000 fracV
theorem wid2_agg {k j k' j' : Nat} {z y z' y' : Int} (h : Sm k z) (h1 : Sm j y) (h2 : Sm k' z') (h3 : Sm j' y') (e1 : z = z') (e2 : y = y') (ρ : Rho) : (T1.agg [.wid k z h, .wid j y h1]).den ρ = (T1.agg [.wid k' z' h2, .wid j' y' h3]).den ρ := by subst e1 e2; rfl
def fracE : List (FuncId × Dn) := (73, dQuoA) :: (72, dGcdA) :: baseA
theorem fracE_ok : AllOk fracE := .cons spQuoA <| .cons spGcdA baseA_ok
theorem sign_zero {z : Int} (h : decide (z.sign = 0) = true) : z = 0 := Int.sign_eq_zero_iff_zero.1 (of_decide_eq_true h)
theorem sign_nz {z : Int} (h : decide (z.sign = 0) = false) : z ≠ 0 := fun e => of_decide_eq_false h (Int.sign_eq_zero_iff_zero.2 e)
set_option maxHeartbeats 4000000 in
theorem spFracA : SpOk Tryz.prog 53 dFracA := sp_num2H ⟨Tryz.func53, by kernel_rfl, by kernel_rfl⟩ (envN_ok fracE_ok .nil 0 fun _ => false) (mix_ok .nil (envN_ok fracE_ok .nil 0 fun _ => false) mixed noF_ok 0) (fun _ _ _ _ => rfl) fun X Y kX kY b s c t nX nY => by
  have hs8 : 8 * s.size ≤ 80000000 := by have := nX.2; omega
  have ht8 : 8 * t.size ≤ 80000000 := by have := nY.2; omega
  have hg8 : 8 * s.size + 8 * t.size ≤ 80000000 := by have := nX.2; have := nY.2; omega
  have hm8 : 8 * s.size + 8 * t.size + 64 ≤ 80000000 := by have := nX.2; have := nY.2; omega
  have eX : ival b s.data.toList = X.z := nX.1
  have eY : ival c t.data.toList = Y.z := nY.1
  conv => whnf
  refine ⟨ht8, ?_⟩
  conv => whnf
  refine bcase_intro (fun hz => ?_) (fun hz => ?_)
  · have hz : Y.z = 0 := eY ▸ sign_zero hz
    conv => whnf
    refine fun ρ => tup2_sv (wid2_agg _ _ _ _ (by unfold fracN; rw [if_pos hz]) (by unfold fracD; rw [if_pos hz]) ρ) (bool_t1 (by rw [hz]; rfl) ρ)
  · have hz : Y.z ≠ 0 := eY ▸ sign_nz hz
    conv => whnf
    refine ⟨⟨hs8, ht8⟩, ?_⟩
    conv => whnf
    refine ⟨⟨hg8, (by decide : 64 ≤ 80000000)⟩, ?_⟩
    conv => whnf
    refine ⟨⟨hs8, hm8⟩, ?_⟩
    conv => whnf
    refine ⟨⟨ht8, hm8⟩, ?_⟩
    conv => whnf
    refine fun ρ => tup2_sv (wid2_agg _ _ _ _ ?_ ?_ ρ) (bool_t1 (decide_eq_true hz).symm ρ)
    · unfold fracN gsgn; rw [if_neg hz, ← eX, ← eY]
    · unfold fracD gsgn; rw [if_neg hz, ← eX, ← eY]
end Go.Proofs.YtocbklodkcdhkaaGreatDoor

namespace Go.Proofs.YtocbklodkcdhkaaGreatDoor
open Go.RowKit
set_option maxRecDepth 100000

/-- a fraction's parts, where the denominator is positive -/
def pN (z y : Int) : Int := if 0 < y then z else 0
def pD (y : Int) : Int := if 0 < y then y else 1
theorem sm_pN {k : Nat} {z : Int} (h : Sm k z) (y : Int) : Sm k (pN z y) := by unfold pN; split; exact h; exact sm_zero k
theorem sm_pD {k : Nat} {y : Int} (h : Sm k y) : Sm (k + 1) (pD y) := by
  unfold pD; split
  · exact h.mono (Nat.le_succ k)
  · have : 2 ^ 1 ≤ 2 ^ (k + 1) := Nat.pow_le_pow_right (by decide) (by omega)
    unfold Sm; show 1 < _; omega
structure FA where
  k : Nat
  j : Nat
  n : Int
  d : Int
  hn : Sm k n
  hd : Sm j d
theorem sm_raw (b : Bool) (s : ByteArray) : Sm (8 * s.size) (ival b s.data.toList) := Sm.ofBytes (Nat.le_of_eq Array.length_toList)
def fraOf : List C → Option FA
  | [.wid k z h, .wid j y h'] => some ⟨k, j + 1, pN z y, pD y, sm_pN h y, sm_pD h'⟩
  | [.val (.bool b), .val (.string s), .val (.bool c), .val (.string t)] => some ⟨8 * s.size, 8 * t.size + 1, pN (ival b s.data.toList) (ival c t.data.toList), pD (ival c t.data.toList), sm_pN (sm_raw b s) _, sm_pD (sm_raw c t)⟩
  | _ => none
def FraA (l : List C) (b : Bool) (s : ByteArray) (c : Bool) (t : ByteArray) : Prop := ∀ ρ, cellsL ρ l = [.bool b, .string s, .bool c, .string t]
def raw4 (b : Bool) (s : ByteArray) (c : Bool) (t : ByteArray) : SV := .agg [.val (.bool b), .val (.string s), .val (.bool c), .val (.string t)]
theorem FraA.den {l : List C} {b c : Bool} {s t : ByteArray} (h : FraA l b s c t) (ρ : Rho) : (SV.agg l).den ρ = (raw4 b s c t).den ρ := by
  simp only [raw4, SV.den, h ρ]; rfl
theorem fraOf_ok {l : List C} {F : FA} (h : fraOf l = some F) : ∃ b s c t, FraA l b s c t ∧ F.n = pN (ival b s.data.toList) (ival c t.data.toList) ∧ F.d = pD (ival c t.data.toList) ∧ 8 * s.size ≤ F.k + 7 ∧ 8 * t.size ≤ F.j + 7 := by
  unfold fraOf at h
  split at h
  · rename_i k z hz j y hy
    cases h
    have e1 := ival_can z
    have e2 := ival_can y
    have m1 := mag_bits hz
    have m2 := mag_bits hy
    refine ⟨decide (z < 0), ⟨(mag z.natAbs).toArray⟩, decide (y < 0), ⟨(mag y.natAbs).toArray⟩, fun _ => rfl, ?_, ?_, ?_, ?_⟩
    · show pN z y = pN (ival _ (mag z.natAbs)) (ival _ (mag y.natAbs)); rw [e1, e2]
    · show pD y = pD (ival _ (mag y.natAbs)); rw [e2]
    · exact m1
    · show 8 * (mag y.natAbs).length ≤ j + 1 + 7; omega
  · cases h
    exact ⟨_, _, _, _, fun _ => rfl, rfl, rfl, Nat.le_add_right _ _, Nat.le_trans (Nat.le_add_right _ 1) (Nat.le_add_right _ _)⟩
  · cases h
def fra2c (cap : Nat) (f : FA → FA → SV) : Dn
  | [.agg l, .agg m] => (match fraOf l, fraOf m with | some F, some G => some (some ((F.k ≤ cap ∧ F.j ≤ cap) ∧ G.k ≤ cap ∧ G.j ≤ cap), f F G) | _, _ => none)
  | _ => none
theorem sp_fra2H {f : FuncId} {fn : Func} (hf : FnOk Tryz.prog f fn) {E : Env} (hE : EOk Tryz.prog E) {H : FuncId → List SV → List Blk → (SV → List Blk → Prop) → Prop} (hH : HOk Tryz.prog H) {cap : Nat} {g : FA → FA → SV} (hp : ∀ X Y ρ ρ', (g X Y).den ρ = (g X Y).den ρ')
    (h : ∀ F G : FA, ∀ b s c t b2 s2 c2 t2, F.n = pN (ival b s.data.toList) (ival c t.data.toList) → F.d = pD (ival c t.data.toList) → G.n = pN (ival b2 s2.data.toList) (ival c2 t2.data.toList) → G.d = pD (ival c2 t2.data.toList) → 8 * s.size ≤ cap + 7 → 8 * t.size ≤ cap + 7 → 8 * s2.size ≤ cap + 7 → 8 * t2.size ≤ cap + 7 →
      vcF E H fn [raw4 b s c t, raw4 b2 s2 c2 t2] [] fun u _ => ∀ ρ, u.den ρ = (g F G).den ρ) : SpOk Tryz.prog f (fra2c cap g) := by
  refine ⟨hf.callable, fun args p v hd => ?_⟩
  unfold fra2c at hd
  split at hd
  · rename_i x y
    split at hd
    · rename_i F G hF hG
      cases hd
      obtain ⟨b, s, c, t, nX, e1, e2, e3, e4⟩ := fraOf_ok hF
      obtain ⟨b2, s2, c2, t2, nY, i1, i2, i3, i4⟩ := fraOf_ok hG
      refine ⟨hp F G, fun ho ρ w => ?_⟩
      obtain ⟨⟨k1, k2⟩, k3, k4⟩ := ho _ rfl
      have e : ([.agg x, .agg y] : List SV).map (SV.den ρ) = [raw4 b s c t, raw4 b2 s2 c2 t2].map (SV.den ρ) := by
        show [(SV.agg x).den ρ, (SV.agg y).den ρ] = [(raw4 b s c t).den ρ, (raw4 b2 s2 c2 t2).den ρ]
        rw [nX.den ρ, nY.den ρ]
      rw [e]
      exact pure_okH hE mixed hH hf (hp F G) (fun _ _ => rfl) (h F G b s c t b2 s2 c2 t2 e1 e2 i1 i2 (by omega) (by omega) (by omega) (by omega)) ρ w
    · cases hd
  · cases hd
def posB (c : Bool) (t : ByteArray) : Bool := decide (0 < (ival c t.data.toList).sign)
def cB (p b : Bool) : Bool := cond p b false
def cS (p : Bool) (s e : ByteArray) : ByteArray := cond p s e
def b0 : ByteArray := ⟨#[]⟩
def b1 : ByteArray := ⟨(mag 1).toArray⟩
def partsV (b : Bool) (s : ByteArray) (c : Bool) (t : ByteArray) : SV := .tup [.agg [.val (.bool (cB (posB c t) b)), .val (.string (cS (posB c t) s b0))], .agg [.val (.bool (cB (posB c t) c)), .val (.string (cS (posB c t) t b1))]]
def dParts : Dn
  | [.agg [.val (.bool b), .val (.string s), .val (.bool c), .val (.string t)]] => some (some (8 * t.size ≤ 80000000), partsV b s c t)
  | _ => none
theorem raw_agg {b c : Bool} {s t : ByteArray} (e1 : b = c) (e2 : s = t) (ρ : Rho) : (T1.agg [.val (.bool b), .val (.string s)]).den ρ = (T1.agg [.val (.bool c), .val (.string t)]).den ρ := by subst e1 e2; rfl
theorem wid_raw {k : Nat} {z : Int} {h : Sm k z} {c : Bool} {t : ByteArray} (e1 : decide (z < 0) = c) (e2 : (⟨(mag z.natAbs).toArray⟩ : ByteArray) = t) (ρ : Rho) : (T1.agg [.wid k z h]).den ρ = (T1.agg [.val (.bool c), .val (.string t)]).den ρ := by subst e1 e2; rfl
theorem size_cS {p : Bool} {s e : ByteArray} {n : Nat} (h1 : 8 * s.size ≤ n) (h2 : 8 * e.size ≤ n) : 8 * (cS p s e).size ≤ n := by cases p; exact h2; exact h1
theorem mag_one : mag 1 = [1] := by
  have h := mag_unique (l := [1]) (by simp)
  simpa [mval, val] using h
theorem b1_size : b1.size = 1 := by unfold b1; rw [mag_one]; rfl
theorem sign_pos {z : Int} : decide (0 < z.sign) = decide (0 < z) := by
  rcases Int.lt_trichotomy z 0 with h | h | h
  · rw [Int.sign_eq_neg_one_of_neg h, decide_eq_false (by omega : ¬ 0 < z)]; rfl
  · subst h; rfl
  · rw [Int.sign_eq_one_of_pos h, decide_eq_true h]; rfl
theorem part_n {b c : Bool} {s t : ByteArray} : ival (cB (posB c t) b) (cS (posB c t) s b0).data.toList = pN (ival b s.data.toList) (ival c t.data.toList) := by
  unfold posB pN; rw [sign_pos]
  by_cases h : 0 < ival c t.data.toList
  · rw [decide_eq_true h, if_pos h]; rfl
  · rw [decide_eq_false h, if_neg h]; rfl
theorem part_d {c : Bool} {t : ByteArray} : ival (cB (posB c t) c) (cS (posB c t) t b1).data.toList = pD (ival c t.data.toList) := by
  unfold posB pD; rw [sign_pos]
  by_cases h : 0 < ival c t.data.toList
  · rw [decide_eq_true h, if_pos h]; rfl
  · rw [decide_eq_false h, if_neg h]
    show ival false (mag 1) = 1
    rw [mag_one]; rfl
set_option maxHeartbeats 4000000 in
theorem spParts : SpOk Tryz.prog 54 dParts := by
  refine ⟨⟨_, Tryz.func54, by kernel_rfl, by kernel_rfl⟩, fun args q v hd => ?_⟩
  unfold dParts at hd
  split at hd
  · rename_i b s c t
    cases hd
    refine ⟨fun _ _ => rfl, fun ho ρ w => ?_⟩
    have ht8 : 8 * t.size ≤ 80000000 := ho _ rfl
    refine pure_okH (envN_ok baseA_ok .nil 0 fun i => i == 2) mixed (mix_ok .nil (envN_ok baseA_ok .nil 0 fun i => i == 2) mixed noF_ok 0) ⟨Tryz.func54, by kernel_rfl, by kernel_rfl⟩ (v := partsV b s c t) (args := [raw4 b s c t]) (fun _ _ => rfl) (fun _ _ => rfl) ?_ ρ w
    conv => whnf
    refine ⟨ht8, ?_⟩
    conv => whnf
    refine bcase_intro (fun hp => ?_) (fun hp => ?_)
    · have hp : posB c t = true := hp
      conv => whnf
      refine ⟨?_, ?_, trivial⟩
      · conv => whnf
        refine ⟨?_, ?_, trivial⟩
        · conv => whnf
          refine ⟨?_, ?_, trivial⟩
          · conv => whnf
            refine ⟨?_, ?_, trivial⟩
            · conv => whnf
              refine ⟨?_, trivial⟩
              · conv => whnf
                refine ⟨?_, trivial⟩
                · conv => whnf
                  exact fun ρ => tup2_sv (raw_agg (by unfold cB; rw [hp]; rfl) (by unfold cS; rw [hp]; rfl) ρ) (raw_agg (by unfold cB; rw [hp]; rfl) (by unfold cS; rw [hp]; rfl) ρ)
            · conv => whnf
              refine ⟨?_, trivial⟩
              · conv => whnf
                refine ⟨?_, trivial⟩
                · conv => whnf
                  exact fun ρ => tup2_sv (raw_agg (by unfold cB; rw [hp]; rfl) (by unfold cS; rw [hp]; rfl) ρ) (raw_agg (by unfold cB; rw [hp]; rfl) (by unfold cS; rw [hp]; rfl) ρ)
          · conv => whnf
            refine ⟨?_, trivial⟩
            · conv => whnf
              refine ⟨?_, trivial⟩
              · conv => whnf
                refine ⟨?_, trivial⟩
                · conv => whnf
                  exact fun ρ => tup2_sv (raw_agg (by unfold cB; rw [hp]; rfl) (by unfold cS; rw [hp]; rfl) ρ) (raw_agg (by unfold cB; rw [hp]; rfl) (by unfold cS; rw [hp]; rfl) ρ)
        · conv => whnf
          refine ⟨?_, ?_, trivial⟩
          · conv => whnf
            refine ⟨?_, ?_, trivial⟩
            · conv => whnf
              refine ⟨?_, trivial⟩
              · conv => whnf
                refine ⟨?_, trivial⟩
                · conv => whnf
                  exact fun ρ => tup2_sv (raw_agg (by unfold cB; rw [hp]; rfl) (by unfold cS; rw [hp]; rfl) ρ) (raw_agg (by unfold cB; rw [hp]; rfl) (by unfold cS; rw [hp]; rfl) ρ)
            · conv => whnf
              refine ⟨?_, trivial⟩
              · conv => whnf
                refine ⟨?_, trivial⟩
                · conv => whnf
                  exact fun ρ => tup2_sv (raw_agg (by unfold cB; rw [hp]; rfl) (by unfold cS; rw [hp]; rfl) ρ) (raw_agg (by unfold cB; rw [hp]; rfl) (by unfold cS; rw [hp]; rfl) ρ)
          · conv => whnf
            refine ⟨?_, trivial⟩
            · conv => whnf
              refine ⟨?_, trivial⟩
              · conv => whnf
                refine ⟨?_, trivial⟩
                · conv => whnf
                  exact fun ρ => tup2_sv (raw_agg (by unfold cB; rw [hp]; rfl) (by unfold cS; rw [hp]; rfl) ρ) (raw_agg (by unfold cB; rw [hp]; rfl) (by unfold cS; rw [hp]; rfl) ρ)
      · conv => whnf
        refine ⟨?_, ?_, trivial⟩
        · conv => whnf
          refine ⟨?_, ?_, trivial⟩
          · conv => whnf
            refine ⟨?_, ?_, trivial⟩
            · conv => whnf
              refine ⟨?_, trivial⟩
              · conv => whnf
                refine ⟨?_, trivial⟩
                · conv => whnf
                  exact fun ρ => tup2_sv (raw_agg (by unfold cB; rw [hp]; rfl) (by unfold cS; rw [hp]; rfl) ρ) (raw_agg (by unfold cB; rw [hp]; rfl) (by unfold cS; rw [hp]; rfl) ρ)
            · conv => whnf
              refine ⟨?_, trivial⟩
              · conv => whnf
                refine ⟨?_, trivial⟩
                · conv => whnf
                  exact fun ρ => tup2_sv (raw_agg (by unfold cB; rw [hp]; rfl) (by unfold cS; rw [hp]; rfl) ρ) (raw_agg (by unfold cB; rw [hp]; rfl) (by unfold cS; rw [hp]; rfl) ρ)
          · conv => whnf
            refine ⟨?_, trivial⟩
            · conv => whnf
              refine ⟨?_, trivial⟩
              · conv => whnf
                refine ⟨?_, trivial⟩
                · conv => whnf
                  exact fun ρ => tup2_sv (raw_agg (by unfold cB; rw [hp]; rfl) (by unfold cS; rw [hp]; rfl) ρ) (raw_agg (by unfold cB; rw [hp]; rfl) (by unfold cS; rw [hp]; rfl) ρ)
        · conv => whnf
          refine ⟨?_, trivial⟩
          · conv => whnf
            refine ⟨?_, trivial⟩
            · conv => whnf
              refine ⟨?_, trivial⟩
              · conv => whnf
                refine ⟨?_, trivial⟩
                · conv => whnf
                  exact fun ρ => tup2_sv (raw_agg (by unfold cB; rw [hp]; rfl) (by unfold cS; rw [hp]; rfl) ρ) (raw_agg (by unfold cB; rw [hp]; rfl) (by unfold cS; rw [hp]; rfl) ρ)
    · have hp : posB c t = false := hp
      conv => whnf
      exact fun ρ => tup2_sv (wid_raw (by rw [hp]; rfl) (by rw [hp]; show (⟨(mag 0).toArray⟩ : ByteArray) = b0; rw [mag_zero]; rfl) ρ) (wid_raw (by rw [hp]; rfl) (by rw [hp]; rfl) ρ)
  · cases hd
end Go.Proofs.YtocbklodkcdhkaaGreatDoor

namespace Go.Proofs.YtocbklodkcdhkaaGreatDoor
open Go.RowKit
set_option maxRecDepth 100000

def cmpFV (F G : FA) : SV := .c (.int (F.n * G.d - G.n * F.d).sign (ir_sign _))
def dCmpFrac : Dn := fra2c 2000000 cmpFV
theorem cmp_e {a b c d a' b' c' d' : Int} (h1 : a = a') (h2 : b = b') (h3 : c = c') (h4 : d = d') : (a * d - c * b).sign = (a' * d' - c' * b').sign := by subst h1 h2 h3 h4; rfl
def fracsE : List (FuncId × Dn) := (54, dParts) :: (53, dFracA) :: fracE
theorem fracsE_ok : AllOk fracsE := .cons spParts <| .cons spFracA fracE_ok
theorem le_sum {a b m n : Nat} (h1 : a ≤ m) (h2 : b ≤ n) : a + b ≤ m + n := Nat.add_le_add h1 h2
theorem wid2_sv {k j k' j' : Nat} {z y z' y' : Int} (h : Sm k z) (h1 : Sm j y) (h2 : Sm k' z') (h3 : Sm j' y') (e1 : z = z') (e2 : y = y') (ρ : Rho) : (SV.agg [.wid k z h, .wid j y h1]).den ρ = (SV.agg [.wid k' z' h2, .wid j' y' h3]).den ρ := by subst e1 e2; rfl
set_option maxHeartbeats 4000000 in
theorem spCmpFrac : SpOk Tryz.prog 32 dCmpFrac := sp_fra2H ⟨Tryz.func32, by kernel_rfl, by kernel_rfl⟩ (envN_ok fracsE_ok .nil 0 fun _ => false) (mix_ok .nil (envN_ok fracsE_ok .nil 0 fun _ => false) mixed noF_ok 0) (fun _ _ _ _ => rfl) fun F G b s c t b2 s2 c2 t2 i1 i2 i3 i4 h1 h2 h3 h4 => by
  have hA1 : 8 * (cS (posB c t) s b0).size ≤ 2000007 := size_cS h1 (by decide)
  have hB1 : 8 * (cS (posB c t) t b1).size ≤ 2000007 := size_cS h2 (by rw [b1_size]; decide)
  have hA2 : 8 * (cS (posB c2 t2) s2 b0).size ≤ 2000007 := size_cS h3 (by decide)
  have hB2 : 8 * (cS (posB c2 t2) t2 b1).size ≤ 2000007 := size_cS h4 (by rw [b1_size]; decide)
  have eN1 := (part_n (b := b) (c := c) (s := s) (t := t)).trans i1.symm
  have eD1 := (part_d (c := c) (t := t)).trans i2.symm
  have eN2 := (part_n (b := b2) (c := c2) (s := s2) (t := t2)).trans i3.symm
  have eD2 := (part_d (c := c2) (t := t2)).trans i4.symm
  conv => whnf
  refine ⟨Nat.le_trans h2 (by decide), ?_⟩
  conv => whnf
  refine ⟨Nat.le_trans h4 (by decide), ?_⟩
  conv => whnf
  refine ⟨⟨Nat.le_trans hA1 (by decide), Nat.le_trans hB2 (by decide)⟩, ?_⟩
  conv => whnf
  refine ⟨⟨Nat.le_trans hA2 (by decide), Nat.le_trans hB1 (by decide)⟩, ?_⟩
  conv => whnf
  refine ⟨⟨Nat.le_trans (le_sum hA1 hB2) (by decide), Nat.le_trans (le_sum hA2 hB1) (by decide)⟩, ?_⟩
  conv => whnf
  exact fun ρ => sint_eq (cmp_e eN1 eD1 eN2 eD2) _ _ ρ
end Go.Proofs.YtocbklodkcdhkaaGreatDoor
