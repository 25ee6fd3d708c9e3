/- Words of natural numbers, by the reckoner: div. -/
import Derived.Test.YtocbklodkcdhkaaGreatDoorNab
namespace Go.Proofs.YtocbklodkcdhkaaGreatDoor
open Go.RowKit
set_option maxRecDepth 100000

theorem WAt.getD {cs : List C} {off : Nat} {l : List Nat} (h : WAt cs off l) {k : Nat} (hk : k < l.length) : subC cs (off + k * 1) 1 = some [wC (l[k]?.getD 0)] := by rw [getD_get hk]; exact h.get hk
theorem WAt.mk' (l : List Nat) : WAt (wsC l) 0 l := ⟨wsC_pure l, [], [], by rw [List.append_nil]; rfl, rfl⟩
theorem WAt.word {z : Int} {d : Nat} (e : z = d) : WAt [C.val (.int .u64 z)] 0 [d] := by subst e; exact WAt.mk' [d]
theorem WAt.wordn {z : Int} {d : Nat} (e : z = d) (hd : d < 4294967296) : WAt [C.val (.int .u64 z)] 0 (dig WB (val WB [d])) := by subst e; exact WAt.normd (Dl.word hd)
theorem WAt.all1 {cs : List C} {off : Nat} {l : List Nat} (h : WAt cs off l) : subC cs off l.length = some (wsC l) := by
  have := h.all rfl
  rwa [Nat.mul_one] at this
theorem word_pure {z : Int} : PureL [C.val (.int .u64 z)] := fun _ _ => rfl
theorem wrap_diff {a b : Nat} (h : b ≤ a) (ha : a ≤ 1000000000) : IntKind.i64.wrap ((a : Int) - (b : Int)) = ((a - b : Nat) : Int) := by
  rw [wrap_id (by unfold IR; omega)]; omega
theorem wrap_pred2 {k : Nat} (hk : 2 ≤ k) (h : IR k) : IntKind.i64.wrap ((k : Int) - 2) = ((k - 2 : Nat) : Int) := by
  rw [wrap_id (by unfold IR at *; omega)]; omega
theorem dig_one {n : Nat} (h : (dig WB n).length = 1) {h0 : 0 < (dig WB n).length} : (dig WB n)[0] = n ∧ n < 4294967296 := by
  have h1 := val_take_succ WB (dig WB n) 0 h0
  rw [List.take_of_length_le (by omega), val_dig WB_two] at h1
  simp [val] at h1
  have h2 := (dig_Dl WB_two n).get 0 h0
  have hB : WB = 4294967296 := rfl
  exact ⟨h1.symm, by omega⟩
theorem eff_bin2 {T : TypeId → Option TI} {op : Op} {ev : Operand → SV} {hp : Nat → Option Blk} {o : BinOp} {t yt : TypeId} {x y : Operand} (ho : op = .binOp o t x y yt) {v1 v2 : Value} (hx : ev x = .c (.val v1)) (hy : ev y = .c (.val v2)) {k j : IntKind} {a b : Int} {v : Value} (h1 : v1 = .int k a) (h2 : v2 = .int j b) (hb : binOp o t (.int k a) (.int j b) = .pure v) :
    eff T op ev hp = some (.val (.c (.val v))) := by
  subst h1 h2
  exact eff_bin ho hx hy hb
theorem mul_pure {t : TypeId} {y z : Int} {n : Nat} (e : IntKind.u64.wrap (y * z) = n) : binOp .mul t (.int .u64 y) (.int .u64 z) = .pure (.int .u64 (n : Int)) := by rw [← e]; rfl
theorem or_pure {t : TypeId} {y z : Int} {n : Nat} (e : bits .or .u64 y z = n) : binOp .or t (.int .u64 y) (.int .u64 z) = .pure (.int .u64 (n : Int)) := by rw [← e]; rfl
theorem gt_mask {g : Nat} (h : decide ((4294967295 : Int) < (g : Int)) = true) : 4294967295 < g := by have := of_decide_eq_true h; omega
theorem ngt_mask {g : Nat} (h : decide ((4294967295 : Int) < (g : Int)) = false) : g ≤ 4294967295 := by have := of_decide_eq_false h; omega
theorem le_mask {g : Nat} (h : decide ((g : Int) ≤ 4294967295) = true) : g ≤ 4294967295 := by have := of_decide_eq_true h; omega
theorem nle_mask {g : Nat} (h : decide ((g : Int) ≤ 4294967295) = false) : 4294967295 < g := by have := of_decide_eq_false h; omega
theorem cmp_true {a b : Int} {x y : Nat} (h1 : a = x) (h2 : b = y) (h : decide (b < a) = true) : y < x := by subst h1 h2; have := of_decide_eq_true h; omega
theorem cmp_false {a b : Int} {x y : Nat} (h1 : a = x) (h2 : b = y) (h : decide (b < a) = false) : x ≤ y := by subst h1 h2; have := of_decide_eq_false h; omega
theorem ir_k1 {k Q : Nat} (hQ : Q ≤ 1000000000) (hk : k ≤ Q) : IR ((k : Int) - 1) := by unfold IR; omega
theorem ir_nat {k : Nat} (hk : k ≤ 1000000000) : IR (k : Int) := by unfold IR; omega
theorem k_sum {k L : Nat} (h0 : 0 < k) (h : k + L ≤ 1000000000) : IntKind.i64.wrap ((k : Int) - 1 + (L : Int)) = ((k - 1 + L : Nat) : Int) := by
  rw [wrap_id (by unfold IR; omega)]; omega
theorem slOff_lo {i m : Nat} (h : i < m) : slOff 0 1 i m = i := by
  cases i with
  | zero => rfl
  | succ i => show (if m = i + 1 then 0 else 0 + (i + 1) * 1) = i + 1; rw [if_neg (by omega)]; omega
theorem u64_pred {g : Nat} (h : 0 < g) (h2 : g < 18446744073709551616) : IntKind.u64.wrap ((g : Int) - 1) = ((g - 1 : Nat) : Int) := u64_nat (by omega) (by omega)
theorem rep_split {L r : Nat} {d : List Nat} (h : r ≤ L) : repX L (wC 0) ++ wsC d = wsC (List.replicate r 0) ++ wsC (List.replicate (L - r) 0 ++ d) := by
  rw [wsC_rep, ← wsC_append, ← wsC_append, ← List.append_assoc, List.replicate_append_replicate, show r + (L - r) = L by omega]
/-- the shifted divisor -/
theorem divS_of {n s : Nat} {lv : List Nat} (hdv : Dl WB lv) (hvv : val WB lv = val WB (dig WB n) * 2 ^ s) (h2 : 2 ≤ (dig WB n).length) {hk : (dig WB n).length - 1 < (dig WB n).length} (hs : s ≤ 31) (h3 : (dig WB n)[(dig WB n).length - 1] * 2 ^ s < 4294967296) (h4 : 2147483648 ≤ (dig WB n)[(dig WB n).length - 1] * 2 ^ s) :
    tlen lv = (dig WB n).length ∧ DivS (n * 2 ^ s) (tlen lv) (lv.take (tlen lv)) := by
  have e1 := val_take_succ WB (dig WB n) ((dig WB n).length - 1) hk
  rw [show (dig WB n).length - 1 + 1 = (dig WB n).length by omega, List.take_length, val_dig WB_two] at e1
  rw [val_dig WB_two] at hvv
  have hlow := val_take_lt (dig_Dl WB_two n) ((dig WB n).length - 1)
  generalize (dig WB n)[(dig WB n).length - 1] = T at *
  generalize val WB (List.take ((dig WB n).length - 1) (dig WB n)) = X at *
  generalize (dig WB n).length = L at *
  have hpow : WB ^ L = WB ^ (L - 1) * WB := by rw [← Nat.pow_succ, show (L - 1).succ = L by omega]
  have hp2 : 0 < 2 ^ s := Nat.pow_pos (by decide)
  have hge : WB ^ (L - 1) * 2147483648 ≤ n * 2 ^ s := by
    have h5 : WB ^ (L - 1) * T * 2 ^ s ≤ n * 2 ^ s := Nat.mul_le_mul_right _ (by omega)
    have h6 : WB ^ (L - 1) * 2147483648 ≤ WB ^ (L - 1) * (T * 2 ^ s) := Nat.mul_le_mul_left _ h4
    rw [← Nat.mul_assoc] at h6
    omega
  have hT1 : (T + 1) * 2 ^ s ≤ WB := by
    have e : WB = 2 ^ (32 - s) * 2 ^ s := by rw [← Nat.pow_add, show 32 - s + s = 32 by omega, WB_eq]
    rw [e]
    refine Nat.mul_le_mul_right _ ?_
    have h7 : T * 2 ^ s < 2 ^ (32 - s) * 2 ^ s := by rw [← e, WB_eq]; exact h3
    exact Nat.lt_of_mul_lt_mul_right h7
  have hlt : n * 2 ^ s < WB ^ L := by
    have h5 : n * 2 ^ s < WB ^ (L - 1) * (T + 1) * 2 ^ s := Nat.mul_lt_mul_of_pos_right (by rw [Nat.mul_add]; omega) hp2
    have h6 : WB ^ (L - 1) * ((T + 1) * 2 ^ s) ≤ WB ^ (L - 1) * WB := Nat.mul_le_mul_left _ hT1
    rw [← Nat.mul_assoc] at h6
    rw [hpow]; omega
  have htl : tlen lv = L := by
    rw [← tlen_dig hdv, hvv]
    have h5 := dig_length_le WB_two hlt
    have h6 := lt_of_dig_length WB_two (n * 2 ^ s)
    rcases Nat.lt_or_ge (dig WB (n * 2 ^ s)).length L with h7 | h7
    · have h8 : WB ^ (dig WB (n * 2 ^ s)).length ≤ WB ^ (L - 1) := Nat.pow_le_pow_right WB_pos (by omega)
      omega
    · omega
  have hvs : lv.take (tlen lv) = dig WB (n * 2 ^ s) := by rw [take_tlen WB_two hdv, hvv]
  refine ⟨htl, by omega, by rw [List.length_take, Nat.min_eq_left (tlen_le lv)], hdv.take _, by rw [hvs, val_dig WB_two], ?_⟩
  rw [htl] at *
  rw [hvs, digit_at WB_pos (dig_Dl WB_two _), val_dig WB_two]
  have h9 : n * 2 ^ s / WB ^ (L - 1) < WB := by
    rw [Nat.div_lt_iff_lt_mul (Nat.pow_pos WB_pos), Nat.mul_comm WB, ← hpow]; exact hlt
  rw [Nat.mod_eq_of_lt h9, Nat.le_div_iff_mul_le (Nat.pow_pos WB_pos), Nat.mul_comm]
  exact hge
/-- a loop by what holds at its head, its exit apart: a round does not see what comes behind the loop -/
theorem loop_cut {n0 : Nat} {b : List SV → List Blk → (SE → List SV → List Blk → Prop) → Prop} {tm : List SV} {hp : List Blk} {Q : SE → List SV → List Blk → Prop} {G X : Type} (st : G → List SV) (hs : G → List Blk) (mu : G → Nat) (id : Nat) (sx : X → (Nat → SV) → List SV) (hx : X → List Blk)
    (hent : entK n0 tm hp fun tm2 hp2 => ∃ g, tm2 = st g ∧ hp2 = hs g)
    (hround : ∀ Q' : SE → List SV → List Blk → Prop, (∀ x j, Q' (.exit id) (sx x j) (hx x)) → ∀ g, b (st g) (hs g) fun e tm' hp' => (match e with
      | .normal => entK n0 tm' hp' fun tm2 hp2 => ∃ g', mu g' < mu g ∧ tm2 = st g' ∧ hp2 = hs g'
      | .exit id => Q' (.exit id) tm' hp'
      | .ret => Q' .ret tm' hp'))
    (hexit : ∀ x j, Q (.exit id) (sx x j) (hx x)) :
    (∃ n, rounds b Q n tm hp) ∨ ∃ (I : Nat → List SV → List Blk → Prop), entK n0 tm hp (fun tm hp => ∃ n, I n tm hp) ∧
      ∀ n tm' hp', I n tm' hp' → b tm' hp' fun e tm' hp' => (match e with
        | .normal => entK n0 tm' hp' fun tm hp => ∃ n', n' < n ∧ I n' tm hp
        | .exit id => Q (.exit id) tm' hp'
        | .ret => Q .ret tm' hp') := loop_st st hs mu hent (hround Q hexit)
theorem ofNorm_t {lo : List Nat} {cap : Nat} {h : SliOk false (tlen lo) cap} {hr : lo.length ≤ cap} (b : Nat) (ρ : Rho) : (T1.c (.sli false b 0 (tlen lo) cap h)).den ρ = ((OW.ofNorm lo cap h hr).t b).den ρ := OW.ofNorm_sl b ρ
theorem tup2_den {a b a' b' : T1} {ρ : Rho} (h1 : a.den ρ = a'.den ρ) (h2 : b.den ρ = b'.den ρ) : (SV.tup [a, b]).den ρ = (SV.tup [a', b']).den ρ := by
  show Value.tuple #[a.den ρ, b.den ρ] = Value.tuple #[a'.den ρ, b'.den ρ]
  rw [h1, h2]
/-- no words -/
def OW.nil : OW := ⟨[], [], true, 0, ⟨Nat.le_refl _, by decide, fun _ => rfl⟩, Nat.le_refl _⟩
/-- division: quotient and remainder; the dividend itself where it is less -/
def cDiv : NewC := fun args ros K => ∃ nla offa lena capa ha tya csa m nlb offb lenb capb hb tyb csb n, args = [.c (.sli nla 0 offa lena capa ha), .c (.sli nlb 1 offb lenb capb hb)] ∧ ros = [⟨tya, true, csa, 0⟩, ⟨tyb, true, csb, 0⟩] ∧
  (dig WB m).length = lena ∧ (dig WB n).length = lenb ∧ WAt csa offa (dig WB m) ∧ WAt csb offb (dig WB n) ∧ 0 < n ∧ lena ≤ 80000000 ∧ lenb ≤ 80000000 ∧
  (m < n → ∀ oq : OW, oq.l = [] → K (.tup [oq.t 2, .c (.sli nla 0 offa lena capa ha)]) [oq.blk]) ∧
  (n ≤ m → ∀ oq or : OW, oq.l = dig WB (m / n) → or.l = dig WB (m % n) → K (.tup [oq.t 2, or.t 3]) [oq.blk, or.blk])
def divC : List (FuncId × NewC) := (104, cLess) :: (102, cSmall) :: (103, cShift) :: (106, cUnshift) :: lessC
theorem divC_ok : AllC Tryz.prog divC := .cons csLess <| .cons csSmall <| .cons csShift <| .cons csUnshift lessC_ok
noncomputable def fxDiv : FuncId → Option Func := lk [(110, Tryz.f110), (105, Tryz.f105)]
theorem fxDiv_ok : ∀ f fn, fxDiv f = some fn → FnOk Tryz.prog f fn := lkF_ok fun x hx => by
  simp only [List.mem_cons, List.not_mem_nil, or_false] at hx
  rcases hx with rfl | rfl
  · exact ⟨Tryz.func110, by kernel_rfl, by kernel_rfl⟩
  · exact ⟨Tryz.func105, by kernel_rfl, by kernel_rfl⟩
set_option maxHeartbeats 80000000 in
theorem csDiv : CSp Tryz.prog 91 cDiv := csp_of (envA_ok 0) mixed (mix_ok divC_ok (envA_ok 0) mixed fxDiv_ok 2) ⟨Tryz.func91, by kernel_rfl, by kernel_rfl⟩ fun args ros K hc => by
  obtain ⟨nla, offa, _, capa, ha, tya, csa, m, nlb, offb, _, capb, hb, tyb, csb, n, rfl, rfl, rfl, rfl, hwa, hwb, hn0, sa, sb, hK1, hK2⟩ := hc
  refine ⟨fun ρ ρ' e => ?_, ?_⟩
  · have e0 := e 0 (show 0 < 2 by decide)
    have e1 := e 1 (show 1 < 2 by decide)
    simp only [List.map, SV.den, C.den, C.cells, e0, e1]
  conv => whnf
  refine ⟨⟨hwa.1, hwb.1, trivial⟩, ⟨_, _, _, _, _, _, _, m, _, _, _, _, _, _, _, n, rfl, rfl, rfl, rfl, hwa, hwb, ?_⟩⟩
  conv => whnf
  refine bcase_intro (fun hc0 => ?_) (fun hc0 => ?_)
  · have hmn : m < n := of_decide_eq_true (cmpE_neg.symm.trans hc0)
    conv => whnf
    refine ⟨[0, 1, 1000 + 91], [0, 1], fun vs9 => ?_⟩
    conv => whnf
    refine ⟨hwa.1, hwb.1, ?_⟩
    conv => whnf
    exact ⟨_, [OW.nil.blk], rfl, ⟨⟨rfl, rfl, rfl, fun _ => rfl⟩, ⟨rfl, rfl, rfl, fun _ => rfl⟩, ⟨rfl, rfl, rfl, fun _ => rfl⟩, trivial⟩, ⟨OW.new _, trivial⟩, .tup [OW.nil.t 2, .c (.sli nla 0 offa (dig WB m).length capa ha)], fun _ => rfl, hK1 hmn _ rfl⟩
  · have hmn : n ≤ m := Nat.le_of_not_lt (of_decide_eq_false (cmpE_neg.symm.trans hc0))
    conv => whnf
    refine bcase_intro (fun hc1 => ?_) (fun hc1 => ?_)
    · have hb1 : (dig WB n).length = 1 := by have := of_decide_eq_true hc1; omega
      have hb0 : 0 < (dig WB n).length := by rw [hb1]; exact Nat.one_pos
      obtain ⟨hn1, hn2⟩ := dig_one hb1 (h0 := hb0)
      have hrl : (val WB (dig WB m) % n) < 4294967296 := Nat.lt_trans (Nat.mod_lt _ hn0) hn2
      conv => whnf
      conv =>
        arg 2
        tactic' =>
          apply eff_index_sli (ho := ?how1) (hT := ?hTw1) (hx := ?hxw1) (k := 0) (hk := ?hkw1) (hlt := ?hltw1)
          case how1 => rfl
          case hTw1 => rfl
          case hxw1 => rfl
          case hkw1 => rfl
          case hltw1 => exact hb0
      conv => whnf
      conv =>
        arg 2
        tactic' =>
          apply eff_load_sub (m := [wC n]) (ho := ?how2) (hT := ?hTw2) (hx := ?hxw2) (hb := ?hbw2) (hm := ?hmw2) (hv := ?hvw2)
          case how2 => rfl
          case hTw2 => rfl
          case hxw2 => rfl
          case hbw2 => rfl
          case hmw2 => exact (hwb.get (k := 0) hb0).trans (congrArg (fun z => some [wC z]) hn1)
          case hvw2 => rfl
      conv => whnf
      refine ⟨⟨hwa.1, trivial⟩, ⟨_, _, _, _, _, _, _, dig WB m, n, rfl, rfl, rfl, hwa, dig_Dl WB_two m, by omega, hn0, hn2, fun o1 ho1 => ?_⟩⟩
      conv => whnf
      refine ⟨⟨wsC_pure ([(val WB (dig WB m) % n)]), trivial⟩, ⟨_, _, _, _, _, _, _, [(val WB (dig WB m) % n)], rfl, rfl, rfl, ⟨wsC_pure ([(val WB (dig WB m) % n)]), [], [], by rw [List.append_nil]; rfl, rfl⟩, fun h4 => ?_⟩⟩
      conv => whnf
      refine ⟨[0, 1, 2, 3], [0, 1, 2, 3], fun vs9 => ?_⟩
      conv => whnf
      refine ⟨hwa.1, hwb.1, wsC_pure _, wsC_pure [(val WB (dig WB m) % n)], ?_⟩
      conv => whnf
      refine ⟨_, [o1.blk, (OW.ofNorm [(val WB (dig WB m) % n)] 1 h4 (Nat.le_refl _)).blk], rfl, ⟨⟨rfl, rfl, rfl, fun _ => rfl⟩, ⟨rfl, rfl, rfl, fun _ => rfl⟩, ⟨rfl, rfl, rfl, fun _ => rfl⟩, ⟨rfl, rfl, ?_, fun ρ => ?_⟩, trivial⟩, ⟨OW.new _, OW.new _, trivial⟩, .tup [o1.t 2, (OW.ofNorm [(val WB (dig WB m) % n)] 1 h4 (Nat.le_refl _)).t 3], fun ρ => tup2_den rfl (ofNorm_t 3 ρ), hK2 hmn o1 _ (by rw [ho1, val_dig WB_two]) ?_⟩
      · rw [OW.ofNorm_blk]; rfl
      · rw [OW.ofNorm_blk]; rfl
      · rw [OW.ofNorm_l (Dl.word hrl), val_word, val_dig WB_two]
    · have hb1 : (dig WB n).length ≠ 1 := fun h8 => of_decide_eq_false hc1 (by omega)
      have hbz : (dig WB n).length ≠ 0 := fun h8 => by have := (dig_len_zero WB_two).1 h8; omega
      have hb2 : 2 ≤ (dig WB n).length := by omega
      have hlmn := dig_len_mono WB_two hmn
      have hbl : (dig WB n).length - 1 < (dig WB n).length := by omega
      have irbl : IR (((dig WB n).length - 1 : Nat) : Int) := ir_nat (by omega)
      have htop : 0 < ((dig WB n)[(dig WB n).length - 1]'hbl) := by
        have := dig_last WB_two n hn0
        rw [List.getD_eq_getElem?_getD, getD_get hbl] at this
        omega
      have htop32 : ((dig WB n)[(dig WB n).length - 1]'hbl) < 4294967296 := (dig_Dl WB_two n).get _ hbl
      conv => whnf
      refine loop_cut (G := {s : Nat // s ≤ 31 ∧ ((dig WB n)[(dig WB n).length - 1]'hbl) * 2 ^ s < 4294967296} × (Nat → Value)) (X := {s : Nat // s ≤ 31 ∧ ((dig WB n)[(dig WB n).length - 1]'hbl) * 2 ^ s < 4294967296 ∧ 2147483648 ≤ ((dig WB n)[(dig WB n).length - 1]'hbl) * 2 ^ s}) (fun g => (.c (.sli nla 0 offa (dig WB m).length capa ha) :: .c (.sli nlb 1 offb (dig WB n).length capb hb) :: .c (.val (g.2 2)) :: .c (.val (g.2 3)) :: .c (.val (g.2 4)) :: .c (.val (g.2 5)) :: .c (.val (g.2 6)) :: .c (.val (g.2 7)) :: .c (.int (g.1.1 : Nat) (ir_nat (Nat.le_trans g.1.2.1 (by decide)))) :: .c (.val (g.2 9)) :: .c (.val (g.2 10)) :: .c (.val (g.2 11)) :: .c (.val (g.2 12)) :: .c (.val (g.2 13)) :: .c (.val (g.2 14)) :: .c (.val (g.2 15)) :: .c (.val (g.2 16)) :: .c (.val (g.2 17)) :: .c (.val (g.2 18)) :: .c (.val (g.2 19)) :: .c (.val (g.2 20)) :: .c (.val (g.2 21)) :: .c (.val (g.2 22)) :: .c (.val (g.2 23)) :: .c (.val (g.2 24)) :: .c (.val (g.2 25)) :: .c (.val (g.2 26)) :: .c (.val (g.2 27)) :: .c (.val (g.2 28)) :: .c (.val (g.2 29)) :: .c (.val (g.2 30)) :: .c (.val (g.2 31)) :: .c (.val (g.2 32)) :: .c (.val (g.2 33)) :: .c (.val (g.2 34)) :: .c (.val (g.2 35)) :: .c (.val (g.2 36)) :: .c (.val (g.2 37)) :: .c (.val (g.2 38)) :: .c (.val (g.2 39)) :: .c (.val (g.2 40)) :: .c (.val (g.2 41)) :: .c (.val (g.2 42)) :: .c (.val (g.2 43)) :: .c (.val (g.2 44)) :: .c (.val (g.2 45)) :: .c (.val (g.2 46)) :: .c (.val (g.2 47)) :: .c (.val (g.2 48)) :: .c (.val (g.2 49)) :: .c (.val (g.2 50)) :: .c (.val (g.2 51)) :: .c (.val (g.2 52)) :: .c (.val (g.2 53)) :: .c (.val (g.2 54)) :: .c (.val (g.2 55)) :: .c (.val (g.2 56)) :: .c (.val (g.2 57)) :: .c (.val (g.2 58)) :: .c (.val (g.2 59)) :: .c (.val (g.2 60)) :: .c (.val (g.2 61)) :: .c (.val (g.2 62)) :: .c (.val (g.2 63)) :: .c (.val (g.2 64)) :: .c (.val (g.2 65)) :: .c (.val (g.2 66)) :: .c (.val (g.2 67)) :: .c (.val (g.2 68)) :: .c (.val (g.2 69)) :: .c (.val (g.2 70)) :: .c (.val (g.2 71)) :: .c (.val (g.2 72)) :: .c (.val (g.2 73)) :: .c (.val (g.2 74)) :: .c (.val (g.2 75)) :: .c (.val (g.2 76)) :: .c (.val (g.2 77)) :: .c (.val (g.2 78)) :: .c (.val (g.2 79)) :: .c (.val (g.2 80)) :: .c (.val (g.2 81)) :: .c (.val (g.2 82)) :: .c (.val (g.2 83)) :: .c (.val (g.2 84)) :: .c (.val (g.2 85)) :: .c (.val (g.2 86)) :: .c (.val (g.2 87)) :: .c (.val (g.2 88)) :: .c (.val (g.2 89)) :: .c (.val (g.2 90)) :: .c (.val (g.2 91)) :: .c (.val (g.2 92)) :: .c (.val (g.2 93)) :: .c (.val (g.2 94)) :: .c (.val (g.2 95)) :: .c (.val (g.2 96)) :: .c (.val (g.2 97)) :: .c (.val (g.2 98)) :: .c (.val (g.2 99)) :: .c (.val (g.2 100)) :: .c (.val (g.2 101)) :: .c (.val (g.2 102)) :: .c (.val (g.2 103)) :: .c (.val (g.2 104)) :: .c (.val (g.2 105)) :: .c (.val (g.2 106)) :: .c (.val (g.2 107)) :: .c (.val (g.2 108)) :: .c (.val (g.2 109)) :: .c (.val (g.2 110)) :: .c (.val (g.2 111)) :: .c (.val (g.2 112)) :: .c (.val (g.2 113)) :: .c (.val (g.2 114)) :: .c (.val (g.2 115)) :: .c (.val (g.2 116)) :: .c (.val (g.2 117)) :: .c (.val (g.2 118)) :: .c (.val (g.2 119)) :: .c (.val (g.2 120)) :: .c (.val (g.2 121)) :: .c (.val (g.2 122)) :: .c (.val (g.2 123)) :: .c (.val (g.2 124)) :: .c (.val (g.2 125)) :: .c (.val (g.2 126)) :: .c (.val (g.2 127)) :: .c (.val (g.2 128)) :: .c (.val (g.2 129)) :: .c (.val (g.2 130)) :: .c (.val (g.2 131)) :: .c (.val (g.2 132)) :: .c (.val (g.2 133)) :: .c (.val (g.2 134)) :: .c (.val (g.2 135)) :: .c (.val (g.2 136)) :: .c (.val (g.2 137)) :: .c (.val (g.2 138)) :: .c (.val (g.2 139)) :: .c (.val (g.2 140)) :: .c (.val (g.2 141)) :: .c (.val (g.2 142)) :: .c (.val (g.2 143)) :: .c (.val (g.2 144)) :: .c (.val (g.2 145)) :: .c (.val (g.2 146)) :: .c (.val (g.2 147)) :: .c (.val (g.2 148)) :: .c (.val (g.2 149)) :: .c (.val (g.2 150)) :: .c (.val (g.2 151)) :: .c (.val (g.2 152)) :: [])) (fun g => [⟨tya, true, csa, 0⟩, ⟨tyb, true, csb, 0⟩]) (fun g => 32 - g.1.1) 0 (fun x j => (.c (.sli nla 0 offa (dig WB m).length capa ha) :: .c (.sli nlb 1 offb (dig WB n).length capb hb) :: j 2 :: j 3 :: j 4 :: j 5 :: j 6 :: j 7 :: .c (.int (x.1 : Nat) (ir_nat (Nat.le_trans x.2.1 (by decide)))) :: j 9 :: j 10 :: j 11 :: j 12 :: j 13 :: j 14 :: j 15 :: j 16 :: j 17 :: j 18 :: j 19 :: j 20 :: j 21 :: j 22 :: j 23 :: j 24 :: j 25 :: j 26 :: j 27 :: j 28 :: j 29 :: j 30 :: j 31 :: j 32 :: j 33 :: j 34 :: j 35 :: j 36 :: j 37 :: j 38 :: j 39 :: j 40 :: j 41 :: j 42 :: j 43 :: j 44 :: j 45 :: j 46 :: j 47 :: j 48 :: j 49 :: j 50 :: j 51 :: j 52 :: j 53 :: j 54 :: j 55 :: j 56 :: j 57 :: j 58 :: j 59 :: j 60 :: j 61 :: j 62 :: j 63 :: j 64 :: j 65 :: j 66 :: j 67 :: j 68 :: j 69 :: j 70 :: j 71 :: j 72 :: j 73 :: j 74 :: j 75 :: j 76 :: j 77 :: j 78 :: j 79 :: j 80 :: j 81 :: j 82 :: j 83 :: j 84 :: j 85 :: j 86 :: j 87 :: j 88 :: j 89 :: j 90 :: j 91 :: j 92 :: j 93 :: j 94 :: j 95 :: j 96 :: j 97 :: j 98 :: j 99 :: j 100 :: j 101 :: j 102 :: j 103 :: j 104 :: j 105 :: j 106 :: j 107 :: j 108 :: j 109 :: j 110 :: j 111 :: j 112 :: j 113 :: j 114 :: j 115 :: j 116 :: j 117 :: j 118 :: j 119 :: j 120 :: j 121 :: j 122 :: j 123 :: j 124 :: j 125 :: j 126 :: j 127 :: j 128 :: j 129 :: j 130 :: j 131 :: j 132 :: j 133 :: j 134 :: j 135 :: j 136 :: j 137 :: j 138 :: j 139 :: j 140 :: j 141 :: j 142 :: j 143 :: j 144 :: j 145 :: j 146 :: j 147 :: j 148 :: j 149 :: j 150 :: j 151 :: j 152 :: [])) (fun x => [⟨tya, true, csa, 0⟩, ⟨tyb, true, csb, 0⟩]) ?_ ?_ ?_
      · refine ⟨[0, 1], [0, 1, 8], [0, 1], fun vs => ?_⟩
        conv => whnf
        refine ⟨hwa.1, hwb.1, ?_⟩
        conv => whnf
        refine ⟨_, _, ?_, ?_, (⟨0, by decide, by rw [Nat.pow_zero, Nat.mul_one]; exact htop32⟩, vs), rfl, rfl⟩
        · exact ⟨fun _ => rfl, fun _ => rfl, fun _ => rfl, fun _ => rfl, fun _ => rfl, fun _ => rfl, fun _ => rfl, fun _ => rfl, fun _ => rfl, fun _ => rfl, fun _ => rfl, fun _ => rfl, stm _⟩
        · exact ⟨⟨rfl, rfl, rfl, fun _ => rfl⟩, ⟨rfl, rfl, rfl, fun _ => rfl⟩, trivial⟩
      · intro Qx hqx
        rintro ⟨⟨s, hs1, hs32⟩, vs⟩
        have hs31 : s < 64 := by omega
        have e0 := shl_raw (z := (((dig WB n)[(dig WB n).length - 1]'hbl) : Nat)) (y := (s : Int)) rfl rfl hs31 (by omega)
        have e1 : (IntKind.u64.wrap (((((dig WB n)[(dig WB n).length - 1]'hbl) : Nat) : Int) * 2 ^ min (s : Int).toNat IntKind.u64.bits)).fdiv (2 ^ min (Int.toNat 31) IntKind.u64.bits) = ((((dig WB n)[(dig WB n).length - 1]'hbl) * 2 ^ s / 2 ^ 31 : Nat) : Int) := shr_raw (y := 31) (n := 31) e0 rfl (by decide)
        conv => whnf
        conv =>
          arg 2
          tactic' =>
            apply eff_index_sli (hi := irbl) (ho := ?how26) (hT := ?hTw26) (hx := ?hxw26) (hk := ?hkw26) (hlt := ?hltw26)
            case how26 => rfl
            case hTw26 => rfl
            case hxw26 => rfl
            case hkw26 => exact cint (wrap_pred (by omega) (ir_nat (by omega))) irbl
            case hltw26 => exact hbl
        conv => whnf
        conv =>
          arg 2
          tactic' =>
            apply eff_load_sub (m := [wC ((dig WB n)[(dig WB n).length - 1]'hbl)]) (ho := ?how27) (hT := ?hTw27) (hx := ?hxw27) (hb := ?hbw27) (hm := ?hmw27) (hv := ?hvw27)
            case how27 => rfl
            case hTw27 => rfl
            case hxw27 => rfl
            case hbw27 => rfl
            case hmw27 => exact hwb.get hbl
            case hvw27 => rfl
        conv => whnf
        refine bcase_intro (fun hz => ?_) (fun hz => ?_)
        · have hz : ((dig WB n)[(dig WB n).length - 1]'hbl) * 2 ^ s < 2147483648 := by
            have := of_decide_eq_true hz
            rw [e1] at this
            have h5 : ((dig WB n)[(dig WB n).length - 1]'hbl) * 2 ^ s / 2 ^ 31 = 0 := by exact Int.ofNat_inj.1 this
            rcases (Nat.div_eq_zero_iff).1 h5 with h6 | h6
            · exact absurd h6 (by decide)
            · exact h6
          have hs2 : s + 1 ≤ 31 := by
            rcases Nat.lt_or_ge s 31 with h5 | h5
            · exact h5
            · have h6 : 2 ^ 31 ≤ 2 ^ s := Nat.pow_le_pow_right (by decide) h5
              have h7 : 1 * 2 ^ s ≤ ((dig WB n)[(dig WB n).length - 1]'hbl) * 2 ^ s := Nat.mul_le_mul_right _ htop
              omega
          have hs33 : s < 32 := by omega
          have hs34 : ((dig WB n)[(dig WB n).length - 1]'hbl) * 2 ^ (s + 1) < 4294967296 := by rw [Nat.pow_succ, ← Nat.mul_assoc]; omega
          conv => whnf
          refine ⟨[0, 1], [0, 1, 8], [0, 1], fun vs2 => ?_⟩
          conv => whnf
          refine ⟨hwa.1, hwb.1, ?_⟩
          conv => whnf
          refine ⟨_, _, ?_, ?_, (⟨s + 1, hs2, hs34⟩, vs2), (by omega : 32 - (s + 1) < 32 - s), rfl, rfl⟩
          · exact ⟨fun _ => rfl, fun _ => rfl, fun _ => rfl, fun _ => rfl, fun _ => rfl, fun _ => rfl, fun _ => rfl, fun _ => rfl, sint_eq (wrap_add1 (n := 32) hs33 (by decide)) _ _, fun _ => rfl, fun _ => rfl, fun _ => rfl, stm _⟩
          · exact ⟨⟨rfl, rfl, rfl, fun _ => rfl⟩, ⟨rfl, rfl, rfl, fun _ => rfl⟩, trivial⟩
        · have hz : 2147483648 ≤ ((dig WB n)[(dig WB n).length - 1]'hbl) * 2 ^ s := by
            have h4 := of_decide_eq_false hz
            rcases Nat.lt_or_ge (((dig WB n)[(dig WB n).length - 1]'hbl) * 2 ^ s) 2147483648 with h5 | h5
            · exact absurd (by rw [e1, Nat.div_eq_of_lt h5]; rfl) h4
            · exact h5
          conv => whnf
          exact hqx ⟨s, hs1, hs32, hz⟩ (fun i => nth uv (uv :: uv :: _ :: _ :: _ :: _ :: _ :: _ :: uv :: _ :: _ :: _ :: _ :: _ :: _ :: _ :: _ :: _ :: _ :: _ :: _ :: _ :: _ :: _ :: _ :: _ :: _ :: _ :: _ :: _ :: _ :: _ :: _ :: _ :: _ :: _ :: _ :: _ :: _ :: _ :: _ :: _ :: _ :: _ :: _ :: _ :: _ :: _ :: _ :: _ :: _ :: _ :: _ :: _ :: _ :: _ :: _ :: _ :: _ :: _ :: _ :: _ :: _ :: _ :: _ :: _ :: _ :: _ :: _ :: _ :: _ :: _ :: _ :: _ :: _ :: _ :: _ :: _ :: _ :: _ :: _ :: _ :: _ :: _ :: _ :: _ :: _ :: _ :: _ :: _ :: _ :: _ :: _ :: _ :: _ :: _ :: _ :: _ :: _ :: _ :: _ :: _ :: _ :: _ :: _ :: _ :: _ :: _ :: _ :: _ :: _ :: _ :: _ :: _ :: _ :: _ :: _ :: _ :: _ :: _ :: _ :: _ :: _ :: _ :: _ :: _ :: _ :: _ :: _ :: _ :: _ :: _ :: _ :: _ :: _ :: _ :: _ :: _ :: _ :: _ :: _ :: _ :: _ :: _ :: _ :: _ :: _ :: _ :: _ :: _ :: _ :: _ :: _ :: []) i)
      · rintro ⟨s, hs1, hs32, hz⟩ jj
        conv => whnf
        refine ⟨⟨hwa.1, trivial⟩, ⟨_, _, _, _, _, _, _, dig WB m, s, _, rfl, rfl, rfl, hwa, dig_Dl WB_two m, by omega, by omega, fun lu0 hu2 hlu0 hdu0 hvu0 => ?_⟩⟩
        conv => whnf
        refine ⟨⟨hwb.1, trivial⟩, ⟨_, _, _, _, _, _, _, dig WB n, s, _, rfl, rfl, rfl, hwb, dig_Dl WB_two n, by omega, by omega, fun lv0 hv2 hlv0 hdv0 hvv0 => ?_⟩⟩
        conv => whnf
        refine ⟨⟨wsC_pure (lv0), trivial⟩, ⟨_, _, _, _, _, _, _, lv0, rfl, rfl, hlv0, ⟨wsC_pure (lv0), [], [], by rw [List.append_nil]; rfl, rfl⟩, fun h3 => ?_⟩⟩
        conv => whnf
        obtain ⟨hTL, hS⟩ := divS_of hdv0 hvv0 hb2 hs1 hs32 hz
        have hQ1 : 1 ≤ ((dig WB m).length + 1 - tlen lv0) := by omega
        have hQb : ((dig WB m).length + 1 - tlen lv0) ≤ 1000000000 := by omega
        have hQL : ((dig WB m).length + 1 - tlen lv0) + (tlen lv0) = ((dig WB m).length + 1) := by omega
        have hsub : IntKind.i64.wrap ((((dig WB m).length + 1) : Nat) - ((tlen lv0) : Int)) = ((((dig WB m).length + 1 - tlen lv0) : Nat) : Int) := wrap_diff (by omega) (by omega)
        refine ⟨rfl, ((dig WB m).length + 1 - tlen lv0), ((dig WB m).length + 1 - tlen lv0), hsub, hsub, Nat.le_refl _, by omega, fun h5 => ?_⟩
        conv => whnf
        have hVL : (lv0.take (tlen lv0)).length = (tlen lv0) := hS.len
        have irL1 : IR (((tlen lv0) - 1 : Nat) : Int) := ir_nat (by omega)
        have irL2 : IR (((tlen lv0) - 2 : Nat) : Int) := ir_nat (by omega)
        conv =>
          arg 2
          tactic' =>
            apply eff_index_sli (hi := irL1) (ho := ?how3) (hT := ?hTw3) (hx := ?hxw3) (hk := ?hkw3) (hlt := ?hltw3)
            case how3 => rfl
            case hTw3 => rfl
            case hxw3 => rfl
            case hkw3 => exact cint (wrap_pred (by omega) (ir_nat (by omega))) irL1
            case hltw3 => exact Nat.sub_lt (by omega) Nat.one_pos
        conv => whnf
        conv =>
          arg 2
          tactic' =>
            apply eff_load_sub (m := [wC ((lv0.take (tlen lv0))[tlen lv0 - 1]?.getD 0)]) (ho := ?how4) (hT := ?hTw4) (hx := ?hxw4) (hb := ?hbw4) (hm := ?hmw4) (hv := ?hvw4)
            case how4 => rfl
            case hTw4 => rfl
            case hxw4 => rfl
            case hbw4 => rfl
            case hmw4 => exact (WAt.norm lv0).getD (by rw [hVL]; omega)
            case hvw4 => rfl
        conv => whnf
        conv =>
          arg 2
          tactic' =>
            apply eff_index_sli (hi := irL2) (ho := ?how5) (hT := ?hTw5) (hx := ?hxw5) (hk := ?hkw5) (hlt := ?hltw5)
            case how5 => rfl
            case hTw5 => rfl
            case hxw5 => rfl
            case hkw5 => exact cint (wrap_pred2 hS.hL (ir_nat (by omega))) irL2
            case hltw5 => exact Nat.sub_lt (by omega) (by decide)
        conv => whnf
        conv =>
          arg 2
          tactic' =>
            apply eff_load_sub (m := [wC ((lv0.take (tlen lv0))[tlen lv0 - 2]?.getD 0)]) (ho := ?how6) (hT := ?hTw6) (hx := ?hxw6) (hb := ?hbw6) (hm := ?hmw6) (hv := ?hvw6)
            case how6 => rfl
            case hTw6 => rfl
            case hxw6 => rfl
            case hbw6 => rfl
            case hmw6 => exact (WAt.norm lv0).getD (by rw [hVL]; omega)
            case hvw6 => rfl
        conv => whnf
        obtain ⟨w13, hw13⟩ : ∃ w : Value, w = .int .u64 ((((lv0.take (tlen lv0))[tlen lv0 - 2]?.getD 0) : Nat) : Int) := ⟨_, rfl⟩
        refine loop_cut (G := {g : Nat × List Nat × List Nat × (Nat → Value) // DivI (m * 2 ^ s) (n * 2 ^ s) (tlen lv0) ((dig WB m).length + 1 - tlen lv0) g.2.1 g.2.2.1 g.1}) (X := {x : List Nat × List Nat // DivI (m * 2 ^ s) (n * 2 ^ s) (tlen lv0) ((dig WB m).length + 1 - tlen lv0) x.1 x.2 0}) (fun g => (.c (.val (g.1.2.2.2 0)) :: .c (.val (g.1.2.2.2 1)) :: .c (.val (g.1.2.2.2 2)) :: .c (.val (g.1.2.2.2 3)) :: .c (.val (g.1.2.2.2 4)) :: .c (.val (g.1.2.2.2 5)) :: .c (.val (g.1.2.2.2 6)) :: .c (.val (g.1.2.2.2 7)) :: .c (.int (s : Nat) (ir_nat (Nat.le_trans hs1 (by decide)))) :: .c (.sli false 2 0 ((dig WB m).length + 1) ((dig WB m).length + 1) hu2) :: .c (.sli false 3 0 (tlen lv0) ((dig WB n).length + 1) h3) :: .c (.sli false 4 0 ((dig WB m).length + 1 - tlen lv0) ((dig WB m).length + 1 - tlen lv0) h5) :: .c (wC ((lv0.take (tlen lv0))[tlen lv0 - 1]?.getD 0)) :: .c (.val w13) :: .c (.int ((g.1.1 : Nat) - 1 : Int) (ir_k1 hQb g.2.hk)) :: .c (.val (g.1.2.2.2 15)) :: .c (.val (g.1.2.2.2 16)) :: .c (.val (g.1.2.2.2 17)) :: .c (.val (g.1.2.2.2 18)) :: .c (.val (g.1.2.2.2 19)) :: .c (.val (g.1.2.2.2 20)) :: .c (.val (g.1.2.2.2 21)) :: .c (.val (g.1.2.2.2 22)) :: .c (.val (g.1.2.2.2 23)) :: .c (.val (g.1.2.2.2 24)) :: .c (.val (g.1.2.2.2 25)) :: .c (.val (g.1.2.2.2 26)) :: .c (.val (g.1.2.2.2 27)) :: .c (.val (g.1.2.2.2 28)) :: .c (.val (g.1.2.2.2 29)) :: .c (.val (g.1.2.2.2 30)) :: .c (.val (g.1.2.2.2 31)) :: .c (.val (g.1.2.2.2 32)) :: .c (.val (g.1.2.2.2 33)) :: .c (.val (g.1.2.2.2 34)) :: .c (.val (g.1.2.2.2 35)) :: .c (.val (g.1.2.2.2 36)) :: .c (.val (g.1.2.2.2 37)) :: .c (.val (g.1.2.2.2 38)) :: .c (.val (g.1.2.2.2 39)) :: .c (.val (g.1.2.2.2 40)) :: .c (.val (g.1.2.2.2 41)) :: .c (.val (g.1.2.2.2 42)) :: .c (.val (g.1.2.2.2 43)) :: .c (.val (g.1.2.2.2 44)) :: .c (.val (g.1.2.2.2 45)) :: .c (.val (g.1.2.2.2 46)) :: .c (.val (g.1.2.2.2 47)) :: .c (.val (g.1.2.2.2 48)) :: .c (.val (g.1.2.2.2 49)) :: .c (.val (g.1.2.2.2 50)) :: .c (.val (g.1.2.2.2 51)) :: .c (.val (g.1.2.2.2 52)) :: .c (.val (g.1.2.2.2 53)) :: .c (.val (g.1.2.2.2 54)) :: .c (.val (g.1.2.2.2 55)) :: .c (.val (g.1.2.2.2 56)) :: .c (.val (g.1.2.2.2 57)) :: .c (.val (g.1.2.2.2 58)) :: .c (.val (g.1.2.2.2 59)) :: .c (.val (g.1.2.2.2 60)) :: .c (.val (g.1.2.2.2 61)) :: .c (.val (g.1.2.2.2 62)) :: .c (.val (g.1.2.2.2 63)) :: .c (.val (g.1.2.2.2 64)) :: .c (.val (g.1.2.2.2 65)) :: .c (.val (g.1.2.2.2 66)) :: .c (.val (g.1.2.2.2 67)) :: .c (.val (g.1.2.2.2 68)) :: .c (.val (g.1.2.2.2 69)) :: .c (.val (g.1.2.2.2 70)) :: .c (.val (g.1.2.2.2 71)) :: .c (.val (g.1.2.2.2 72)) :: .c (.val (g.1.2.2.2 73)) :: .c (.val (g.1.2.2.2 74)) :: .c (.val (g.1.2.2.2 75)) :: .c (.val (g.1.2.2.2 76)) :: .c (.val (g.1.2.2.2 77)) :: .c (.val (g.1.2.2.2 78)) :: .c (.val (g.1.2.2.2 79)) :: .c (.val (g.1.2.2.2 80)) :: .c (.val (g.1.2.2.2 81)) :: .c (.val (g.1.2.2.2 82)) :: .c (.val (g.1.2.2.2 83)) :: .c (.val (g.1.2.2.2 84)) :: .c (.val (g.1.2.2.2 85)) :: .c (.val (g.1.2.2.2 86)) :: .c (.val (g.1.2.2.2 87)) :: .c (.val (g.1.2.2.2 88)) :: .c (.val (g.1.2.2.2 89)) :: .c (.val (g.1.2.2.2 90)) :: .c (.val (g.1.2.2.2 91)) :: .c (.val (g.1.2.2.2 92)) :: .c (.val (g.1.2.2.2 93)) :: .c (.val (g.1.2.2.2 94)) :: .c (.val (g.1.2.2.2 95)) :: .c (.val (g.1.2.2.2 96)) :: .c (.val (g.1.2.2.2 97)) :: .c (.val (g.1.2.2.2 98)) :: .c (.val (g.1.2.2.2 99)) :: .c (.val (g.1.2.2.2 100)) :: .c (.val (g.1.2.2.2 101)) :: .c (.val (g.1.2.2.2 102)) :: .c (.val (g.1.2.2.2 103)) :: .c (.val (g.1.2.2.2 104)) :: .c (.val (g.1.2.2.2 105)) :: .c (.val (g.1.2.2.2 106)) :: .c (.val (g.1.2.2.2 107)) :: .c (.val (g.1.2.2.2 108)) :: .c (.val (g.1.2.2.2 109)) :: .c (.val (g.1.2.2.2 110)) :: .c (.val (g.1.2.2.2 111)) :: .c (.val (g.1.2.2.2 112)) :: .c (.val (g.1.2.2.2 113)) :: .c (.val (g.1.2.2.2 114)) :: .c (.val (g.1.2.2.2 115)) :: .c (.val (g.1.2.2.2 116)) :: .c (.val (g.1.2.2.2 117)) :: .c (.val (g.1.2.2.2 118)) :: .c (.val (g.1.2.2.2 119)) :: .c (.val (g.1.2.2.2 120)) :: .c (.val (g.1.2.2.2 121)) :: .c (.val (g.1.2.2.2 122)) :: .c (.val (g.1.2.2.2 123)) :: .c (.val (g.1.2.2.2 124)) :: .c (.val (g.1.2.2.2 125)) :: .c (.val (g.1.2.2.2 126)) :: .c (.val (g.1.2.2.2 127)) :: .c (.val (g.1.2.2.2 128)) :: .c (.val (g.1.2.2.2 129)) :: .c (.val (g.1.2.2.2 130)) :: .c (.val (g.1.2.2.2 131)) :: .c (.val (g.1.2.2.2 132)) :: .c (.val (g.1.2.2.2 133)) :: .c (.val (g.1.2.2.2 134)) :: .c (.val (g.1.2.2.2 135)) :: .c (.val (g.1.2.2.2 136)) :: .c (.val (g.1.2.2.2 137)) :: .c (.val (g.1.2.2.2 138)) :: .c (.val (g.1.2.2.2 139)) :: .c (.val (g.1.2.2.2 140)) :: .c (.val (g.1.2.2.2 141)) :: .c (.val (g.1.2.2.2 142)) :: .c (.val (g.1.2.2.2 143)) :: .c (.val (g.1.2.2.2 144)) :: .c (.val (g.1.2.2.2 145)) :: .c (.val (g.1.2.2.2 146)) :: .c (.val (g.1.2.2.2 147)) :: .c (.val (g.1.2.2.2 148)) :: .c (.val (g.1.2.2.2 149)) :: .c (.val (g.1.2.2.2 150)) :: .c (.val (g.1.2.2.2 151)) :: .c (.val (g.1.2.2.2 152)) :: [])) (fun g => [⟨tya, true, csa, 0⟩, ⟨tyb, true, csb, 0⟩, ⟨91, false, wsC g.1.2.1, 0⟩, ⟨91, false, wsC lv0, 0⟩, ⟨91, false, wsC g.1.2.2.1, 0⟩]) (fun g => g.1.1) 2 (fun x j => (j 0 :: j 1 :: j 2 :: j 3 :: j 4 :: j 5 :: j 6 :: j 7 :: .c (.int (s : Nat) (ir_nat (Nat.le_trans hs1 (by decide)))) :: .c (.sli false 2 0 ((dig WB m).length + 1) ((dig WB m).length + 1) hu2) :: .c (.sli false 3 0 (tlen lv0) ((dig WB n).length + 1) h3) :: .c (.sli false 4 0 ((dig WB m).length + 1 - tlen lv0) ((dig WB m).length + 1 - tlen lv0) h5) :: j 12 :: j 13 :: j 14 :: j 15 :: j 16 :: j 17 :: j 18 :: j 19 :: j 20 :: j 21 :: j 22 :: j 23 :: j 24 :: j 25 :: j 26 :: j 27 :: j 28 :: j 29 :: j 30 :: j 31 :: j 32 :: j 33 :: j 34 :: j 35 :: j 36 :: j 37 :: j 38 :: j 39 :: j 40 :: j 41 :: j 42 :: j 43 :: j 44 :: j 45 :: j 46 :: j 47 :: j 48 :: j 49 :: j 50 :: j 51 :: j 52 :: j 53 :: j 54 :: j 55 :: j 56 :: j 57 :: j 58 :: j 59 :: j 60 :: j 61 :: j 62 :: j 63 :: j 64 :: j 65 :: j 66 :: j 67 :: j 68 :: j 69 :: j 70 :: j 71 :: j 72 :: j 73 :: j 74 :: j 75 :: j 76 :: j 77 :: j 78 :: j 79 :: j 80 :: j 81 :: j 82 :: j 83 :: j 84 :: j 85 :: j 86 :: j 87 :: j 88 :: j 89 :: j 90 :: j 91 :: j 92 :: j 93 :: j 94 :: j 95 :: j 96 :: j 97 :: j 98 :: j 99 :: j 100 :: j 101 :: j 102 :: j 103 :: j 104 :: j 105 :: j 106 :: j 107 :: j 108 :: j 109 :: j 110 :: j 111 :: j 112 :: j 113 :: j 114 :: j 115 :: j 116 :: j 117 :: j 118 :: j 119 :: j 120 :: j 121 :: j 122 :: j 123 :: j 124 :: j 125 :: j 126 :: j 127 :: j 128 :: j 129 :: j 130 :: j 131 :: j 132 :: j 133 :: j 134 :: j 135 :: j 136 :: j 137 :: j 138 :: j 139 :: j 140 :: j 141 :: j 142 :: j 143 :: j 144 :: j 145 :: j 146 :: j 147 :: j 148 :: j 149 :: j 150 :: j 151 :: j 152 :: [])) (fun x => [⟨tya, true, csa, 0⟩, ⟨tyb, true, csb, 0⟩, ⟨91, false, wsC x.1.1, 0⟩, ⟨91, false, wsC lv0, 0⟩, ⟨91, false, wsC x.1.2, 0⟩]) ?_ ?_ ?_
        · refine ⟨[0, 1, 2, 3, 4], [8, 9, 10, 11, 12, 13, 14], [0, 1, 2, 3, 4], fun vs3 => ?_⟩
          conv => whnf
          refine ⟨hwa.1, hwb.1, wsC_pure lu0, wsC_pure lv0, rep_pure _, ?_⟩
          conv => whnf
          refine ⟨_, _, ?_, ?_, ⟨(((dig WB m).length + 1 - tlen lv0), lu0, List.replicate ((dig WB m).length + 1 - tlen lv0) 0, vs3), DivI.start hS (by rw [hlu0]; exact hQL.symm) hQ1 hdu0 (by rw [hvu0, val_dig WB_two]) (by rw [show ((dig WB m).length + 1 - tlen lv0) + (tlen lv0) - 1 = (dig WB m).length by omega]; exact lt_of_dig_length WB_two m) (by omega)⟩, rfl, rfl⟩
          · exact ⟨fun _ => rfl, fun _ => rfl, fun _ => rfl, fun _ => rfl, fun _ => rfl, fun _ => rfl, fun _ => rfl, fun _ => rfl, fun _ => rfl, fun _ => rfl, fun _ => rfl, fun _ => rfl, fun _ => rfl, fun _ => hw13.symm, sint_eq (wrap_id (ir_k1 hQb (Nat.le_refl _))) _ _, stm _⟩
          · exact ⟨⟨rfl, rfl, rfl, fun _ => rfl⟩, ⟨rfl, rfl, rfl, fun _ => rfl⟩, ⟨rfl, rfl, rfl, fun _ => rfl⟩, ⟨rfl, rfl, rfl, fun _ => rfl⟩, ⟨rfl, rfl, Nat.sub_self _, fun ρ => by rw [← wsC_rep]; rfl⟩, trivial⟩
        · intro Qx hqx
          rintro ⟨⟨k, lu, lq, vs4⟩, hI⟩
          have hI : DivI (m * 2 ^ s) (n * 2 ^ s) (tlen lv0) ((dig WB m).length + 1 - tlen lv0) lu lq k := hI
          conv => whnf
          refine bcase_intro (fun h0 => ?_) (fun h0 => ?_)
          · have h0 : 0 < k := i_ge h0
            obtain ⟨lw, W, hlu, hz, he, hw, hget⟩ := hI.win hS h0
            have hkQ := hI.hk
            have hul : lu.length = ((dig WB m).length + 1) := by rw [hI.ul]; exact hQL
            have hql : lq.length = ((dig WB m).length + 1 - tlen lv0) := hI.ql
            have irk : IR ((k - 1 + tlen lv0 : Nat) : Int) := ir_nat (by omega)
            have irk1 : IR ((k - 1 : Nat) : Int) := ir_nat (by omega)
            have hkk := k_sum (L := (tlen lv0)) h0 (by omega)
            have hkk1 : IntKind.i64.wrap (IntKind.i64.wrap ((k : Int) - 1 + ((tlen lv0) : Nat)) - 1) = ((k - 1 + tlen lv0 - 1 : Nat) : Int) := by rw [hkk]; exact wrap_pred (by omega) irk
            have irkk1 : IR ((k - 1 + tlen lv0 - 1 : Nat) : Int) := ir_nat (by omega)
            have irkk2 : IR ((k - 1 + tlen lv0 - 2 : Nat) : Int) := ir_nat (by omega)
            have hL2 := hS.hL
            have hk2 : 2 ≤ k - 1 + tlen lv0 := by omega
            have hget0 : lu[k - 1 + tlen lv0]?.getD 0 = lw[tlen lv0]?.getD 0 := hget _ (Nat.le_refl _)
            have hget1 : lu[k - 1 + tlen lv0 - 1]?.getD 0 = lw[tlen lv0 - 1]?.getD 0 := by rw [show k - 1 + tlen lv0 - 1 = k - 1 + (tlen lv0 - 1) by omega]; exact hget _ (by omega)
            have hget2 : lu[k - 1 + tlen lv0 - 2]?.getD 0 = lw[tlen lv0 - 2]?.getD 0 := by rw [show k - 1 + tlen lv0 - 2 = k - 1 + (tlen lv0 - 2) by omega]; exact hget _ (by omega)
            have hkkl : k - 1 + tlen lv0 < lu.length := by omega
            have hkk1l : k - 1 + tlen lv0 - 1 < lu.length := by omega
            have hkk2l : k - 1 + tlen lv0 - 2 < lu.length := by omega
            have hkku : k - 1 + tlen lv0 < ((dig WB m).length + 1) := by omega
            have hkk1u : k - 1 + tlen lv0 - 1 < ((dig WB m).length + 1) := by omega
            have hkk2 : k - 1 + tlen lv0 - 2 < ((dig WB m).length + 1) := by omega
            have hk1u : k - 1 ≤ ((dig WB m).length + 1) := by omega
            have hLb : tlen lv0 ≤ 90000000 := by omega
            have hLc : tlen lv0 ≤ 100000000 := by omega
            have hLd : tlen lv0 + 1 ≤ 100000000 := by omega
            have hLe : (tlen lv0 + 1) * 1 ≤ 5000000000000 := by omega
            have hk1q : k - 1 < ((dig WB m).length + 1 - tlen lv0) := by omega
            have hkql : k - 1 < lq.length := by omega
            have irL : IR ((tlen lv0 + 1 : Nat) : Int) := ir_nat (by omega)
            have hLadd : IntKind.i64.wrap (((tlen lv0) : Int) + 1) = ((tlen lv0 + 1 : Nat) : Int) := wrap_id (by unfold IR; omega)
            have hsl : SliOk false (tlen lv0 + 1) (((dig WB m).length + 1) - (k - 1)) := ⟨by omega, by omega, fun h => by cases h⟩
            have hoff0 : slOff 0 1 (k - 1) ((dig WB m).length + 1) = k - 1 := slOff_lo (by omega)
            have hcs : wsC lu = wsC (lu.take (k - 1)) ++ (wsC lw ++ wsC (lu.drop (k + (tlen lv0)))) := by
              rw [← wsC_append, ← wsC_append, ← hlu]
            have hoff : sizeC (wsC (lu.take (k - 1))) = slOff 0 1 (k - 1) ((dig WB m).length + 1) := by rw [hoff0, wsC_size, List.length_take]; omega
            have hwin : WAt (wsC lu) (slOff 0 1 (k - 1) ((dig WB m).length + 1)) lw := ⟨wsC_pure lu, _, _, hcs, hoff⟩
            have hmin : ∀ x : Nat, x ≤ (tlen lv0) + 1 → x = min x (((dig WB m).length + 1) - (k - 1)) := fun x hx => by omega
            have htop0 : 0 < ((lv0.take (tlen lv0))[tlen lv0 - 1]?.getD 0) := by have := hS.top; omega
            have e2 : bits .or .u64 (IntKind.u64.wrap (((lw[tlen lv0]?.getD 0 : Nat) : Int) * 2 ^ min (Int.toNat 32) IntKind.u64.bits)) ((lw[tlen lv0 - 1]?.getD 0 : Nat) : Int) = ((two lw (tlen lv0) : Nat) : Int) := or32 (getD_lt hw.dl _) (getD_lt hw.dl _)
            conv => whnf
            conv =>
              arg 2
              tactic' =>
                apply eff_index_sli (hi := irk) (ho := ?how11) (hT := ?hTw11) (hx := ?hxw11) (hk := ?hkw11) (hlt := ?hltw11)
                case how11 => rfl
                case hTw11 => rfl
                case hxw11 => rfl
                case hkw11 => exact cint hkk irk
                case hltw11 => exact hkku
            conv => whnf
            conv =>
              arg 2
              tactic' =>
                apply eff_load_sub (m := [wC (lw[tlen lv0]?.getD 0)]) (ho := ?how12) (hT := ?hTw12) (hx := ?hxw12) (hb := ?hbw12) (hm := ?hmw12) (hv := ?hvw12)
                case how12 => rfl
                case hTw12 => rfl
                case hxw12 => rfl
                case hbw12 => rfl
                case hmw12 => exact ((WAt.mk' lu).getD hkkl).trans (congrArg (fun z => some [wC z]) hget0)
                case hvw12 => rfl
            conv => whnf
            conv =>
              arg 2
              tactic' =>
                apply eff_index_sli (hi := irkk1) (ho := ?how13) (hT := ?hTw13) (hx := ?hxw13) (hk := ?hkw13) (hlt := ?hltw13)
                case how13 => rfl
                case hTw13 => rfl
                case hxw13 => rfl
                case hkw13 => exact cint hkk1 irkk1
                case hltw13 => exact hkk1u
            conv => whnf
            conv =>
              arg 2
              tactic' =>
                apply eff_load_sub (m := [wC (lw[tlen lv0 - 1]?.getD 0)]) (ho := ?how14) (hT := ?hTw14) (hx := ?hxw14) (hb := ?hbw14) (hm := ?hmw14) (hv := ?hvw14)
                case how14 => rfl
                case hTw14 => rfl
                case hxw14 => rfl
                case hbw14 => rfl
                case hmw14 => exact ((WAt.mk' lu).getD hkk1l).trans (congrArg (fun z => some [wC z]) hget1)
                case hvw14 => rfl
            conv => whnf
            conv =>
              arg 2
              tactic' =>
                apply eff_bin (v := .int .u64 ((two lw (tlen lv0) / ((lv0.take (tlen lv0))[tlen lv0 - 1]?.getD 0) : Nat) : Int)) (ho := ?how15) (hx := ?hxw15) (hy := ?hyw15) (hb := ?hbw15)
                case how15 => rfl
                case hxw15 => rfl
                case hyw15 => rfl
                case hbw15 => exact div_pure e2 htop0 (two_lt64 hw.dl _)
            conv => whnf
            conv =>
              arg 2
              tactic' =>
                apply eff_bin (v := .int .u64 ((two lw (tlen lv0) % ((lv0.take (tlen lv0))[tlen lv0 - 1]?.getD 0) : Nat) : Int)) (ho := ?how16) (hx := ?hxw16) (hy := ?hyw16) (hb := ?hbw16)
                case how16 => rfl
                case hxw16 => rfl
                case hyw16 => rfl
                case hbw16 => exact rem_pure e2 htop0
            conv => whnf
            refine loop_cut (G := {g : Nat × Nat × (Nat → Value) // GuI (n * 2 ^ s) (tlen lv0) W lw (lv0.take (tlen lv0)) g.1 g.2.1}) (X := {x : Nat × Nat // GuI (n * 2 ^ s) (tlen lv0) W lw (lv0.take (tlen lv0)) x.1 x.2 ∧ x.1 ≤ 4294967295 ∧ x.1 * (n * 2 ^ s) < W + (n * 2 ^ s)}) (fun g => (.c (.val (g.1.2.2 0)) :: .c (.val (g.1.2.2 1)) :: .c (.val (g.1.2.2 2)) :: .c (.val (g.1.2.2 3)) :: .c (.val (g.1.2.2 4)) :: .c (.val (g.1.2.2 5)) :: .c (.val (g.1.2.2 6)) :: .c (.val (g.1.2.2 7)) :: .c (.int (s : Nat) (ir_nat (Nat.le_trans hs1 (by decide)))) :: .c (.sli false 2 0 ((dig WB m).length + 1) ((dig WB m).length + 1) hu2) :: .c (.sli false 3 0 (tlen lv0) ((dig WB n).length + 1) h3) :: .c (.sli false 4 0 ((dig WB m).length + 1 - tlen lv0) ((dig WB m).length + 1 - tlen lv0) h5) :: .c (wC ((lv0.take (tlen lv0))[tlen lv0 - 1]?.getD 0)) :: .c (.val w13) :: .c (.int ((k : Nat) - 1 : Int) (ir_k1 hQb hI.hk)) :: .c (.int ((k - 1 + tlen lv0 : Nat) : Int) irk) :: .c (.val (g.1.2.2 16)) :: .c (wC g.1.1) :: .c (wC g.1.2.1) :: .c (.val (g.1.2.2 19)) :: .c (.val (g.1.2.2 20)) :: .c (.val (g.1.2.2 21)) :: .c (.val (g.1.2.2 22)) :: .c (.val (g.1.2.2 23)) :: .c (.val (g.1.2.2 24)) :: .c (.val (g.1.2.2 25)) :: .c (.val (g.1.2.2 26)) :: .c (.val (g.1.2.2 27)) :: .c (.val (g.1.2.2 28)) :: .c (.val (g.1.2.2 29)) :: .c (.val (g.1.2.2 30)) :: .c (.val (g.1.2.2 31)) :: .c (.val (g.1.2.2 32)) :: .c (.val (g.1.2.2 33)) :: .c (.val (g.1.2.2 34)) :: .c (.val (g.1.2.2 35)) :: .c (.val (g.1.2.2 36)) :: .c (.val (g.1.2.2 37)) :: .c (.val (g.1.2.2 38)) :: .c (.val (g.1.2.2 39)) :: .c (.val (g.1.2.2 40)) :: .c (.val (g.1.2.2 41)) :: .c (.val (g.1.2.2 42)) :: .c (.val (g.1.2.2 43)) :: .c (.val (g.1.2.2 44)) :: .c (.val (g.1.2.2 45)) :: .c (.val (g.1.2.2 46)) :: .c (.val (g.1.2.2 47)) :: .c (.val (g.1.2.2 48)) :: .c (.val (g.1.2.2 49)) :: .c (.val (g.1.2.2 50)) :: .c (.val (g.1.2.2 51)) :: .c (.val (g.1.2.2 52)) :: .c (.val (g.1.2.2 53)) :: .c (.val (g.1.2.2 54)) :: .c (.val (g.1.2.2 55)) :: .c (.val (g.1.2.2 56)) :: .c (.val (g.1.2.2 57)) :: .c (.val (g.1.2.2 58)) :: .c (.val (g.1.2.2 59)) :: .c (.val (g.1.2.2 60)) :: .c (.val (g.1.2.2 61)) :: .c (.val (g.1.2.2 62)) :: .c (.val (g.1.2.2 63)) :: .c (.val (g.1.2.2 64)) :: .c (.val (g.1.2.2 65)) :: .c (.val (g.1.2.2 66)) :: .c (.val (g.1.2.2 67)) :: .c (.val (g.1.2.2 68)) :: .c (.val (g.1.2.2 69)) :: .c (.val (g.1.2.2 70)) :: .c (.val (g.1.2.2 71)) :: .c (.val (g.1.2.2 72)) :: .c (.val (g.1.2.2 73)) :: .c (.val (g.1.2.2 74)) :: .c (.val (g.1.2.2 75)) :: .c (.val (g.1.2.2 76)) :: .c (.val (g.1.2.2 77)) :: .c (.val (g.1.2.2 78)) :: .c (.val (g.1.2.2 79)) :: .c (.val (g.1.2.2 80)) :: .c (.val (g.1.2.2 81)) :: .c (.val (g.1.2.2 82)) :: .c (.val (g.1.2.2 83)) :: .c (.val (g.1.2.2 84)) :: .c (.val (g.1.2.2 85)) :: .c (.val (g.1.2.2 86)) :: .c (.val (g.1.2.2 87)) :: .c (.val (g.1.2.2 88)) :: .c (.val (g.1.2.2 89)) :: .c (.val (g.1.2.2 90)) :: .c (.val (g.1.2.2 91)) :: .c (.val (g.1.2.2 92)) :: .c (.val (g.1.2.2 93)) :: .c (.val (g.1.2.2 94)) :: .c (.val (g.1.2.2 95)) :: .c (.val (g.1.2.2 96)) :: .c (.val (g.1.2.2 97)) :: .c (.val (g.1.2.2 98)) :: .c (.val (g.1.2.2 99)) :: .c (.val (g.1.2.2 100)) :: .c (.val (g.1.2.2 101)) :: .c (.val (g.1.2.2 102)) :: .c (.val (g.1.2.2 103)) :: .c (.val (g.1.2.2 104)) :: .c (.val (g.1.2.2 105)) :: .c (.val (g.1.2.2 106)) :: .c (.val (g.1.2.2 107)) :: .c (.val (g.1.2.2 108)) :: .c (.val (g.1.2.2 109)) :: .c (.val (g.1.2.2 110)) :: .c (.val (g.1.2.2 111)) :: .c (.val (g.1.2.2 112)) :: .c (.val (g.1.2.2 113)) :: .c (.val (g.1.2.2 114)) :: .c (.val (g.1.2.2 115)) :: .c (.val (g.1.2.2 116)) :: .c (.val (g.1.2.2 117)) :: .c (.val (g.1.2.2 118)) :: .c (.val (g.1.2.2 119)) :: .c (.val (g.1.2.2 120)) :: .c (.val (g.1.2.2 121)) :: .c (.val (g.1.2.2 122)) :: .c (.val (g.1.2.2 123)) :: .c (.val (g.1.2.2 124)) :: .c (.val (g.1.2.2 125)) :: .c (.val (g.1.2.2 126)) :: .c (.val (g.1.2.2 127)) :: .c (.val (g.1.2.2 128)) :: .c (.val (g.1.2.2 129)) :: .c (.val (g.1.2.2 130)) :: .c (.val (g.1.2.2 131)) :: .c (.val (g.1.2.2 132)) :: .c (.val (g.1.2.2 133)) :: .c (.val (g.1.2.2 134)) :: .c (.val (g.1.2.2 135)) :: .c (.val (g.1.2.2 136)) :: .c (.val (g.1.2.2 137)) :: .c (.val (g.1.2.2 138)) :: .c (.val (g.1.2.2 139)) :: .c (.val (g.1.2.2 140)) :: .c (.val (g.1.2.2 141)) :: .c (.val (g.1.2.2 142)) :: .c (.val (g.1.2.2 143)) :: .c (.val (g.1.2.2 144)) :: .c (.val (g.1.2.2 145)) :: .c (.val (g.1.2.2 146)) :: .c (.val (g.1.2.2 147)) :: .c (.val (g.1.2.2 148)) :: .c (.val (g.1.2.2 149)) :: .c (.val (g.1.2.2 150)) :: .c (.val (g.1.2.2 151)) :: .c (.val (g.1.2.2 152)) :: [])) (fun g => [⟨tya, true, csa, 0⟩, ⟨tyb, true, csb, 0⟩, ⟨91, false, wsC lu, 0⟩, ⟨91, false, wsC lv0, 0⟩, ⟨91, false, wsC lq, 0⟩]) (fun g => g.1.1) 4 (fun x j => (j 0 :: j 1 :: j 2 :: j 3 :: j 4 :: j 5 :: j 6 :: j 7 :: .c (.int (s : Nat) (ir_nat (Nat.le_trans hs1 (by decide)))) :: .c (.sli false 2 0 ((dig WB m).length + 1) ((dig WB m).length + 1) hu2) :: .c (.sli false 3 0 (tlen lv0) ((dig WB n).length + 1) h3) :: .c (.sli false 4 0 ((dig WB m).length + 1 - tlen lv0) ((dig WB m).length + 1 - tlen lv0) h5) :: .c (wC ((lv0.take (tlen lv0))[tlen lv0 - 1]?.getD 0)) :: .c (.val w13) :: .c (.int ((k : Nat) - 1 : Int) (ir_k1 hQb hI.hk)) :: .c (.int ((k - 1 + tlen lv0 : Nat) : Int) irk) :: j 16 :: .c (wC x.1.1) :: .c (wC x.1.2) :: j 19 :: j 20 :: j 21 :: j 22 :: j 23 :: j 24 :: j 25 :: j 26 :: j 27 :: j 28 :: j 29 :: j 30 :: j 31 :: j 32 :: j 33 :: j 34 :: j 35 :: j 36 :: j 37 :: j 38 :: j 39 :: j 40 :: j 41 :: j 42 :: j 43 :: j 44 :: j 45 :: j 46 :: j 47 :: j 48 :: j 49 :: j 50 :: j 51 :: j 52 :: j 53 :: j 54 :: j 55 :: j 56 :: j 57 :: j 58 :: j 59 :: j 60 :: j 61 :: j 62 :: j 63 :: j 64 :: j 65 :: j 66 :: j 67 :: j 68 :: j 69 :: j 70 :: j 71 :: j 72 :: j 73 :: j 74 :: j 75 :: j 76 :: j 77 :: j 78 :: j 79 :: j 80 :: j 81 :: j 82 :: j 83 :: j 84 :: j 85 :: j 86 :: j 87 :: j 88 :: j 89 :: j 90 :: j 91 :: j 92 :: j 93 :: j 94 :: j 95 :: j 96 :: j 97 :: j 98 :: j 99 :: j 100 :: j 101 :: j 102 :: j 103 :: j 104 :: j 105 :: j 106 :: j 107 :: j 108 :: j 109 :: j 110 :: j 111 :: j 112 :: j 113 :: j 114 :: j 115 :: j 116 :: j 117 :: j 118 :: j 119 :: j 120 :: j 121 :: j 122 :: j 123 :: j 124 :: j 125 :: j 126 :: j 127 :: j 128 :: j 129 :: j 130 :: j 131 :: j 132 :: j 133 :: j 134 :: j 135 :: j 136 :: j 137 :: j 138 :: j 139 :: j 140 :: j 141 :: j 142 :: j 143 :: j 144 :: j 145 :: j 146 :: j 147 :: j 148 :: j 149 :: j 150 :: j 151 :: j 152 :: [])) (fun x => [⟨tya, true, csa, 0⟩, ⟨tyb, true, csb, 0⟩, ⟨91, false, wsC lu, 0⟩, ⟨91, false, wsC lv0, 0⟩, ⟨91, false, wsC lq, 0⟩]) ?_ ?_ ?_
            · refine ⟨[0, 1, 2, 3, 4], [8, 9, 10, 11, 12, 13, 14, 15, 17, 18], [0, 1, 2, 3, 4], fun vs5 => ?_⟩
              conv => whnf
              refine ⟨hwa.1, hwb.1, wsC_pure lu, wsC_pure lv0, wsC_pure lq, ?_⟩
              conv => whnf
              refine ⟨_, _, ?_, ?_, ⟨(two lw (tlen lv0) / ((lv0.take (tlen lv0))[tlen lv0 - 1]?.getD 0), two lw (tlen lv0) % ((lv0.take (tlen lv0))[tlen lv0 - 1]?.getD 0), vs5), GuI.start hS hw⟩, rfl, rfl⟩
              · exact ⟨fun _ => rfl, fun _ => rfl, fun _ => rfl, fun _ => rfl, fun _ => rfl, fun _ => rfl, fun _ => rfl, fun _ => rfl, fun _ => rfl, fun _ => rfl, fun _ => rfl, fun _ => rfl, fun _ => rfl, fun _ => rfl, fun _ => rfl, sint_eq hkk _ _, stm _⟩
              · exact ⟨⟨rfl, rfl, rfl, fun _ => rfl⟩, ⟨rfl, rfl, rfl, fun _ => rfl⟩, ⟨rfl, rfl, rfl, fun _ => rfl⟩, ⟨rfl, rfl, rfl, fun _ => rfl⟩, ⟨rfl, rfl, rfl, fun _ => rfl⟩, trivial⟩
            · intro Qx hqx
              rintro ⟨⟨g, r, vs6⟩, hG⟩
              have hG : GuI (n * 2 ^ s) (tlen lv0) W lw (lv0.take (tlen lv0)) g r := hG
              have hg64 : g < 18446744073709551616 := by
                have h6 := two_lt64 hw.dl (tlen lv0)
                have h7 := hG.eq
                have h8 : g * 1 ≤ g * ((lv0.take (tlen lv0))[tlen lv0 - 1]?.getD 0) := Nat.mul_le_mul_left _ htop0
                omega
              conv => whnf
              refine bcase_intro (fun hc2 => ?_) (fun hc2 => ?_)
              · have hc2 : 4294967295 < g := gt_mask hc2
                have hg0 : 0 < g := by omega
                obtain ⟨hG2, hr64⟩ := hG.big hw hc2
                have hgm := u64_pred hg0 hg64
                have hrp : IntKind.u64.wrap ((r : Int) + (((lv0.take (tlen lv0))[tlen lv0 - 1]?.getD 0) : Nat)) = ((r + ((lv0.take (tlen lv0))[tlen lv0 - 1]?.getD 0) : Nat) : Int) := u64_nat (Int.natCast_add _ _).symm hr64
                conv => whnf
                refine ⟨[0, 1, 2, 3, 4], [8, 9, 10, 11, 12, 13, 14, 15, 17, 18], [0, 1, 2, 3, 4], fun vs7 => ?_⟩
                conv => whnf
                refine ⟨hwa.1, hwb.1, wsC_pure lu, wsC_pure lv0, wsC_pure lq, ?_⟩
                conv => whnf
                refine ⟨_, _, ?_, ?_, ⟨(g - 1, r + ((lv0.take (tlen lv0))[tlen lv0 - 1]?.getD 0), vs7), hG2⟩, Nat.sub_lt hg0 Nat.one_pos, rfl, rfl⟩
                · exact ⟨fun _ => rfl, fun _ => rfl, fun _ => rfl, fun _ => rfl, fun _ => rfl, fun _ => rfl, fun _ => rfl, fun _ => rfl, fun _ => rfl, fun _ => rfl, fun _ => rfl, fun _ => rfl, fun _ => rfl, fun _ => rfl, fun _ => rfl, fun _ => rfl, fun _ => rfl, fun _ => congrArg (Value.int .u64) hgm, fun _ => congrArg (Value.int .u64) hrp, stm _⟩
                · exact ⟨⟨rfl, rfl, rfl, fun _ => rfl⟩, ⟨rfl, rfl, rfl, fun _ => rfl⟩, ⟨rfl, rfl, rfl, fun _ => rfl⟩, ⟨rfl, rfl, rfl, fun _ => rfl⟩, ⟨rfl, rfl, rfl, fun _ => rfl⟩, trivial⟩
              · have hc2 : g ≤ 4294967295 := ngt_mask hc2
                conv => whnf
                refine bcase_intro (fun hc3 => ?_) (fun hc3 => ?_)
                · have hc3 : r ≤ 4294967295 := le_mask hc3
                  have hsec : ((lv0.take (tlen lv0))[tlen lv0 - 2]?.getD 0) < 4294967296 := getD_lt hS.dl _
                  have hgs : g * ((lv0.take (tlen lv0))[tlen lv0 - 2]?.getD 0) < 18446744073709551616 := by
                    have := Nat.mul_le_mul hc2 (show ((lv0.take (tlen lv0))[tlen lv0 - 2]?.getD 0) ≤ 4294967295 by omega)
                    omega
                  have e5 : IntKind.u64.wrap ((g : Int) * (((lv0.take (tlen lv0))[tlen lv0 - 2]?.getD 0) : Nat)) = ((g * ((lv0.take (tlen lv0))[tlen lv0 - 2]?.getD 0) : Nat) : Int) := u64_nat (Int.natCast_mul _ _).symm hgs
                  have e6 := or32 (r := r) (x := lw[tlen lv0 - 2]?.getD 0) (by omega) (getD_lt hw.dl _)
                  obtain ⟨w2, hw2⟩ : ∃ w2 : Value, w2 = .int .u64 ((lw[tlen lv0 - 2]?.getD 0 : Nat) : Int) := ⟨_, rfl⟩
                  obtain ⟨A, hA⟩ : ∃ A : Nat, A = r * 4294967296 + lw[tlen lv0 - 2]?.getD 0 := ⟨_, rfl⟩
                  obtain ⟨B, hB⟩ : ∃ B : Nat, B = g * ((lv0.take (tlen lv0))[tlen lv0 - 2]?.getD 0) := ⟨_, rfl⟩
                  rw [← hB] at e5
                  rw [← hA] at e6
                  conv => whnf
                  conv =>
                    arg 2
                    tactic' =>
                      apply eff_bin2 (v := .int .u64 (B : Int)) (ho := ?how7) (hx := ?hxw7) (hy := ?hyw7) (h1 := ?h1w7) (h2 := ?h2w7) (hb := ?hbw7)
                      case how7 => rfl
                      case hxw7 => rfl
                      case hyw7 => rfl
                      case h1w7 => rfl
                      case h2w7 => exact hw13
                      case hbw7 => exact mul_pure e5
                  conv => whnf
                  conv =>
                    arg 2
                    tactic' =>
                      apply eff_index_sli (hi := irkk2) (ho := ?how8) (hT := ?hTw8) (hx := ?hxw8) (hk := ?hkw8) (hlt := ?hltw8)
                      case how8 => rfl
                      case hTw8 => rfl
                      case hxw8 => rfl
                      case hkw8 => exact cint (wrap_pred2 hk2 irk) irkk2
                      case hltw8 => exact hkk2
                  conv => whnf
                  conv =>
                    arg 2
                    tactic' =>
                      apply eff_load_sub (m := [.val w2]) (ho := ?how9) (hT := ?hTw9) (hx := ?hxw9) (hb := ?hbw9) (hm := ?hmw9) (hv := ?hvw9)
                      case how9 => rfl
                      case hTw9 => rfl
                      case hxw9 => rfl
                      case hbw9 => rfl
                      case hmw9 => exact ((WAt.mk' lu).getD hkk2l).trans (by rw [hget2, hw2]; rfl)
                      case hvw9 => rfl
                  conv => whnf
                  conv =>
                    arg 2
                    tactic' =>
                      apply eff_bin2 (v := .int .u64 (A : Int)) (ho := ?how10) (hx := ?hxw10) (hy := ?hyw10) (h1 := ?h1w10) (h2 := ?h2w10) (hb := ?hbw10)
                      case how10 => rfl
                      case hxw10 => rfl
                      case hyw10 => rfl
                      case h1w10 => rfl
                      case h2w10 => exact hw2
                      case hbw10 => exact or_pure e6
                  conv => whnf
                  refine bcase_intro (fun hc4 => ?_) (fun hc4 => ?_)
                  · have hov : r * 4294967296 + lw[tlen lv0 - 2]?.getD 0 < g * ((lv0.take (tlen lv0))[tlen lv0 - 2]?.getD 0) := by rw [← hA, ← hB]; exact cmp_true rfl rfl hc4
                    obtain ⟨hg0, hG2, hr64⟩ := hG.over hS hw hov
                    have hgm := u64_pred hg0 hg64
                    have hrp : IntKind.u64.wrap ((r : Int) + (((lv0.take (tlen lv0))[tlen lv0 - 1]?.getD 0) : Nat)) = ((r + ((lv0.take (tlen lv0))[tlen lv0 - 1]?.getD 0) : Nat) : Int) := u64_nat (Int.natCast_add _ _).symm hr64
                    conv => whnf
                    refine ⟨[0, 1, 2, 3, 4], [8, 9, 10, 11, 12, 13, 14, 15, 17, 18], [0, 1, 2, 3, 4], fun vs7 => ?_⟩
                    conv => whnf
                    refine ⟨hwa.1, hwb.1, wsC_pure lu, wsC_pure lv0, wsC_pure lq, ?_⟩
                    conv => whnf
                    refine ⟨_, _, ?_, ?_, ⟨(g - 1, r + ((lv0.take (tlen lv0))[tlen lv0 - 1]?.getD 0), vs7), hG2⟩, Nat.sub_lt hg0 Nat.one_pos, rfl, rfl⟩
                    · exact ⟨fun _ => rfl, fun _ => rfl, fun _ => rfl, fun _ => rfl, fun _ => rfl, fun _ => rfl, fun _ => rfl, fun _ => rfl, fun _ => rfl, fun _ => rfl, fun _ => rfl, fun _ => rfl, fun _ => rfl, fun _ => rfl, fun _ => rfl, fun _ => rfl, fun _ => rfl, fun _ => congrArg (Value.int .u64) hgm, fun _ => congrArg (Value.int .u64) hrp, stm _⟩
                    · exact ⟨⟨rfl, rfl, rfl, fun _ => rfl⟩, ⟨rfl, rfl, rfl, fun _ => rfl⟩, ⟨rfl, rfl, rfl, fun _ => rfl⟩, ⟨rfl, rfl, rfl, fun _ => rfl⟩, ⟨rfl, rfl, rfl, fun _ => rfl⟩, trivial⟩
                  · have hov : g * ((lv0.take (tlen lv0))[tlen lv0 - 2]?.getD 0) ≤ r * 4294967296 + lw[tlen lv0 - 2]?.getD 0 := by rw [← hA, ← hB]; exact cmp_false rfl rfl hc4
                    conv => whnf
                    exact hqx ⟨(g, r), hG, hc2, hG.done hS hw hc2 (.inr hov)⟩ (fun i => nth uv (_ :: _ :: _ :: _ :: _ :: _ :: _ :: _ :: uv :: uv :: uv :: uv :: uv :: uv :: uv :: uv :: _ :: uv :: uv :: _ :: _ :: _ :: _ :: _ :: _ :: _ :: _ :: _ :: _ :: _ :: _ :: _ :: _ :: _ :: _ :: _ :: _ :: _ :: _ :: _ :: _ :: _ :: _ :: _ :: _ :: _ :: _ :: _ :: _ :: _ :: _ :: _ :: _ :: _ :: _ :: _ :: _ :: _ :: _ :: _ :: _ :: _ :: _ :: _ :: _ :: _ :: _ :: _ :: _ :: _ :: _ :: _ :: _ :: _ :: _ :: _ :: _ :: _ :: _ :: _ :: _ :: _ :: _ :: _ :: _ :: _ :: _ :: _ :: _ :: _ :: _ :: _ :: _ :: _ :: _ :: _ :: _ :: _ :: _ :: _ :: _ :: _ :: _ :: _ :: _ :: _ :: _ :: _ :: _ :: _ :: _ :: _ :: _ :: _ :: _ :: _ :: _ :: _ :: _ :: _ :: _ :: _ :: _ :: _ :: _ :: _ :: _ :: _ :: _ :: _ :: _ :: _ :: _ :: _ :: _ :: _ :: _ :: _ :: _ :: _ :: _ :: _ :: _ :: _ :: _ :: _ :: _ :: _ :: _ :: _ :: _ :: _ :: _ :: []) i)
                · have hc3 : 4294967295 < r := nle_mask hc3
                  conv => whnf
                  exact hqx ⟨(g, r), hG, hc2, hG.done hS hw hc2 (.inl hc3)⟩ (fun i => nth uv (_ :: _ :: _ :: _ :: _ :: _ :: _ :: _ :: uv :: uv :: uv :: uv :: uv :: uv :: uv :: uv :: _ :: uv :: uv :: _ :: _ :: _ :: _ :: _ :: _ :: _ :: _ :: _ :: _ :: _ :: _ :: _ :: _ :: _ :: _ :: _ :: _ :: _ :: _ :: _ :: _ :: _ :: _ :: _ :: _ :: _ :: _ :: _ :: _ :: _ :: _ :: _ :: _ :: _ :: _ :: _ :: _ :: _ :: _ :: _ :: _ :: _ :: _ :: _ :: _ :: _ :: _ :: _ :: _ :: _ :: _ :: _ :: _ :: _ :: _ :: _ :: _ :: _ :: _ :: _ :: _ :: _ :: _ :: _ :: _ :: _ :: _ :: _ :: _ :: _ :: _ :: _ :: _ :: _ :: _ :: _ :: _ :: _ :: _ :: _ :: _ :: _ :: _ :: _ :: _ :: _ :: _ :: _ :: _ :: _ :: _ :: _ :: _ :: _ :: _ :: _ :: _ :: _ :: _ :: _ :: _ :: _ :: _ :: _ :: _ :: _ :: _ :: _ :: _ :: _ :: _ :: _ :: _ :: _ :: _ :: _ :: _ :: _ :: _ :: _ :: _ :: _ :: _ :: _ :: _ :: _ :: _ :: _ :: _ :: _ :: _ :: _ :: _ :: []) i)
            · rintro ⟨⟨g, r⟩, hG, hc2, hdone⟩ jj
              have hG : GuI (n * 2 ^ s) (tlen lv0) W lw (lv0.take (tlen lv0)) g r := hG
              have hc2 : g ≤ 4294967295 := hc2
              have hdone : g * (n * 2 ^ s) < W + (n * 2 ^ s) := hdone
              conv => whnf
              conv =>
                arg 2
                tactic' =>
                  apply eff_slice_lo (hi := irk1) (ho := ?how17) (hT := ?hTw17) (hx := ?hxw17) (hk := ?hkw17) (hlt := ?hltw17)
                  case how17 => rfl
                  case hTw17 => rfl
                  case hxw17 => rfl
                  case hkw17 => exact cint (pred_nat h0) irk1
                  case hltw17 => exact hk1u
              conv => whnf
              refine ⟨⟨wsC_pure lu, wsC_pure lv0, trivial⟩, ⟨_, _, _, _, _, _, lw, _, _, _, _, _, _, _, (lv0.take (tlen lv0)), g, rfl, rfl, hw.len, hsl.1, hVL, hwin, WAt.norm lv0, hw.dl, hS.dl, hLb, Nat.lt_succ_of_le hc2, ?_⟩⟩
              conv => whnf
              refine bcase_intro (fun hl => ?_) (fun hl => ?_)
              · have hl2 : W < (n * 2 ^ s) * g := by have := of_decide_eq_true hl; rwa [hw.hv, hS.hv] at this
                obtain ⟨hg0, hd1, hd2⟩ := digit_less hG.lt hdone hl2
                have hgm := u64_pred hg0 (by omega)
                have hgl : g - 1 < 4294967296 := by omega
                conv => whnf
                conv =>
                  arg 2
                  tactic' =>
                    apply eff_slice_lo (hi := irk1) (ho := ?how18) (hT := ?hTw18) (hx := ?hxw18) (hk := ?hkw18) (hlt := ?hltw18)
                    case how18 => rfl
                    case hTw18 => rfl
                    case hxw18 => rfl
                    case hkw18 => exact cint (pred_nat h0) irk1
                    case hltw18 => exact hk1u
                conv => whnf
                conv =>
                  arg 2
                  tactic' =>
                    apply eff_slice_hi (hi := irL) (h2 := hsl) (ho := ?how19) (hT := ?hTw19) (hx := ?hxw19) (hk := ?hkw19) (hlt := ?hltw19)
                    case how19 => rfl
                    case hTw19 => rfl
                    case hxw19 => rfl
                    case hkw19 => exact cint hLadd irL
                    case hltw19 => exact hsl.1
                conv => whnf
                refine .inr ?_
                conv => whnf
                conv =>
                  arg 2
                  tactic' => exact hwin.all hw.len.symm
                conv => whnf
                refine ⟨wsC_one _, ?_⟩
                conv => whnf
                refine ⟨⟨rfl, rfl, hLe⟩, fun h8 => absurd h8 (Nat.succ_ne_zero _), fun _ cap2 hcap2 => ?_⟩
                conv => whnf
                refine ⟨⟨word_pure, trivial⟩, ⟨_, _, _, _, _, _, _, [(g - 1)], rfl, rfl, rfl, WAt.word hgm, fun h9 => ?_⟩⟩
                conv => whnf
                refine ⟨⟨wsC_pure lv0, word_pure, trivial⟩, ⟨_, _, _, _, _, _, _, (lv0.take (tlen lv0)), _, _, _, _, _, _, _, dig WB (val WB [(g - 1)]), rfl, rfl, hVL, tlen_dig (Dl.word hgl), WAt.norm lv0, WAt.wordn hgm hgl, hS.dl, dig_Dl WB_two _, hLc, Nat.le_trans (tlen_le1 _) (by decide), trivial, fun om _ hom => ?_⟩⟩
                conv => whnf
                have hom2 : om.l = dig WB ((n * 2 ^ s) * (g - 1)) := by rw [hom, val_dig WB_two, val_word, hS.hv]
                have homv : val WB om.l = (n * 2 ^ s) * (g - 1) := by rw [hom2, val_dig WB_two]
                have homl : om.l.length ≤ (tlen lv0) + 1 := by
                  rw [hom2]
                  have hx1 := val_lt hw.dl
                  rw [hw.len, hw.hv] at hx1
                  exact dig_length_le WB_two (Nat.lt_of_le_of_lt hd1 hx1)
                refine ⟨⟨wsC_pure lw, wsC_pure _, trivial⟩, ⟨_, _, _, _, _, _, _, lw, _, _, _, _, _, _, _, om.l, rfl, rfl, hw.len, rfl, WAt.mk' lw, WAt.ow om, hw.dl, by rw [hom2]; exact dig_Dl WB_two _, hLd, Nat.le_trans homl hLd, ⟨by rw [hw.len]; exact homl, by rw [homv, hw.hv]; exact hd1⟩, fun os hnl hos => ?_⟩⟩
                obtain ⟨ol, orr, onl, ocap, ook, ohr⟩ := os
                change onl = false at hnl
                subst hnl
                have hos : ol = dig WB (W - (n * 2 ^ s) * (g - 1)) := by rw [← hw.hv, ← homv]; exact hos
                obtain ⟨hI2, hol1, hol2⟩ := hI.step hS h0 hz he hw hd1 hd2 hgl hos
                conv => whnf
                conv =>
                  arg 2
                  tactic' =>
                    apply eff_slice_hi (hi := irL) (h2 := hsl) (ho := ?how19) (hT := ?hTw19) (hx := ?hxw19) (hk := ?hkw19) (hlt := ?hltw19)
                    case how19 => rfl
                    case hTw19 => rfl
                    case hxw19 => rfl
                    case hkw19 => exact cint hLadd irL
                    case hltw19 => exact hsl.1
                conv => whnf
                refine ⟨rfl, rfl, wsC (lu.take (k - 1)), wsC lw, wsC (lu.drop (k + (tlen lv0))), hcs, hoff, by rw [wsC_size]; exact hw.len, ?_⟩
                conv => whnf
                refine ⟨rfl, ol.length, ir_nat (by omega), wsC (lu.take (k - 1)), wsC (List.replicate ol.length 0), wsC (List.replicate ((tlen lv0) + 1 - ol.length) 0 ++ lu.drop (k + (tlen lv0))), wsC ol, hmin ol.length hol1, congrArg (fun z => wsC (lu.take (k - 1)) ++ z) (rep_split hol1), hoff, by rw [wsC_size, List.length_replicate], (WAt.self ol orr).all1, wsC_one _, ?_⟩
                conv => whnf
                conv =>
                  arg 2
                  tactic' =>
                    apply eff_index_sli (hi := irk1) (ho := ?how20) (hT := ?hTw20) (hx := ?hxw20) (hk := ?hkw20) (hlt := ?hltw20)
                    case how20 => rfl
                    case hTw20 => rfl
                    case hxw20 => rfl
                    case hkw20 => exact cint (pred_nat h0) irk1
                    case hltw20 => exact hk1q
                conv => whnf
                conv =>
                  arg 2
                  tactic' =>
                    apply eff_store_at (l := [wC ((g - 1))]) (cs := wsC (lq.set (k - 1) (g - 1))) (ho := ?how21) (hT := ?hTw21) (hx := ?hxw21) (hy := ?hyw21) (hl := ?hlw21) (hb := ?hbw21) (hro := ?hrow21) (hs := ?hsw21)
                    case how21 => rfl
                    case hTw21 => rfl
                    case hxw21 => rfl
                    case hyw21 => exact congrArg (fun z => some [C.val (.int .u64 z)]) hgm
                    case hlw21 => exact ⟨rfl, rfl⟩
                    case hbw21 => rfl
                    case hrow21 => rfl
                    case hsw21 => exact splice_ws hkql _
                conv => whnf
                rw [forceL_eq]
                conv => whnf
                refine ⟨[0, 1, 2, 3, 4], [8, 9, 10, 11, 12, 13, 14], [0, 1, 2, 3, 4], fun vs9 => ?_⟩
                conv => whnf
                refine ⟨hwa.1, hwb.1, pureL_append (wsC_pure _) (pureL_append (wsC_pure _) (wsC_pure _)), wsC_pure lv0, wsC_pure _, ?_⟩
                conv => whnf
                refine ⟨_, _, ?_, ?_, ⟨(k - 1, (lu.take (k - 1) ++ (ol ++ (List.replicate ((tlen lv0) + 1 - ol.length) 0 ++ lu.drop (k + (tlen lv0))))), lq.set (k - 1) (g - 1), vs9), hI2⟩, Nat.sub_lt h0 Nat.one_pos, rfl, rfl⟩
                · exact ⟨fun _ => rfl, fun _ => rfl, fun _ => rfl, fun _ => rfl, fun _ => rfl, fun _ => rfl, fun _ => rfl, fun _ => rfl, fun _ => rfl, fun _ => rfl, fun _ => rfl, fun _ => rfl, fun _ => rfl, fun _ => rfl, sint_eq (cmp_dec h0 (ir_nat (by have := hI.hk; omega))) _ _, stm _⟩
                · exact ⟨⟨rfl, rfl, rfl, fun _ => rfl⟩, ⟨rfl, rfl, rfl, fun _ => rfl⟩, ⟨rfl, rfl, rfl, fun ρ => by rw [wsC_append (lu.take (k - 1)), wsC_append ol]⟩, ⟨rfl, rfl, rfl, fun _ => rfl⟩, ⟨rfl, rfl, rfl, fun _ => rfl⟩, trivial⟩
              · have hl2 : ¬ W < (n * 2 ^ s) * g := by have := of_decide_eq_false hl; rwa [hw.hv, hS.hv] at this
                obtain ⟨hd1, hd2⟩ := digit_same hG.lt hl2
                have hgl : g < 4294967296 := by omega
                conv => whnf
                conv =>
                  arg 2
                  tactic' =>
                    apply eff_slice_lo (hi := irk1) (ho := ?how22) (hT := ?hTw22) (hx := ?hxw22) (hk := ?hkw22) (hlt := ?hltw22)
                    case how22 => rfl
                    case hTw22 => rfl
                    case hxw22 => rfl
                    case hkw22 => exact cint (pred_nat h0) irk1
                    case hltw22 => exact hk1u
                conv => whnf
                conv =>
                  arg 2
                  tactic' =>
                    apply eff_slice_hi (hi := irL) (h2 := hsl) (ho := ?how23) (hT := ?hTw23) (hx := ?hxw23) (hk := ?hkw23) (hlt := ?hltw23)
                    case how23 => rfl
                    case hTw23 => rfl
                    case hxw23 => rfl
                    case hkw23 => exact cint hLadd irL
                    case hltw23 => exact hsl.1
                conv => whnf
                refine .inr ?_
                conv => whnf
                conv =>
                  arg 2
                  tactic' => exact hwin.all hw.len.symm
                conv => whnf
                refine ⟨wsC_one _, ?_⟩
                conv => whnf
                refine ⟨⟨rfl, rfl, hLe⟩, fun h8 => absurd h8 (Nat.succ_ne_zero _), fun _ cap2 hcap2 => ?_⟩
                conv => whnf
                refine ⟨⟨word_pure, trivial⟩, ⟨_, _, _, _, _, _, _, [g], rfl, rfl, rfl, WAt.word (rfl : ((g : Nat) : Int) = (g : Int)), fun h9 => ?_⟩⟩
                conv => whnf
                refine ⟨⟨wsC_pure lv0, word_pure, trivial⟩, ⟨_, _, _, _, _, _, _, (lv0.take (tlen lv0)), _, _, _, _, _, _, _, dig WB (val WB [g]), rfl, rfl, hVL, tlen_dig (Dl.word hgl), WAt.norm lv0, WAt.wordn (rfl : ((g : Nat) : Int) = (g : Int)) hgl, hS.dl, dig_Dl WB_two _, hLc, Nat.le_trans (tlen_le1 _) (by decide), trivial, fun om _ hom => ?_⟩⟩
                conv => whnf
                have hom2 : om.l = dig WB ((n * 2 ^ s) * g) := by rw [hom, val_dig WB_two, val_word, hS.hv]
                have homv : val WB om.l = (n * 2 ^ s) * g := by rw [hom2, val_dig WB_two]
                have homl : om.l.length ≤ (tlen lv0) + 1 := by
                  rw [hom2]
                  have hx1 := val_lt hw.dl
                  rw [hw.len, hw.hv] at hx1
                  exact dig_length_le WB_two (Nat.lt_of_le_of_lt hd1 hx1)
                refine ⟨⟨wsC_pure lw, wsC_pure _, trivial⟩, ⟨_, _, _, _, _, _, _, lw, _, _, _, _, _, _, _, om.l, rfl, rfl, hw.len, rfl, WAt.mk' lw, WAt.ow om, hw.dl, by rw [hom2]; exact dig_Dl WB_two _, hLd, Nat.le_trans homl hLd, ⟨by rw [hw.len]; exact homl, by rw [homv, hw.hv]; exact hd1⟩, fun os hnl hos => ?_⟩⟩
                obtain ⟨ol, orr, onl, ocap, ook, ohr⟩ := os
                change onl = false at hnl
                subst hnl
                have hos : ol = dig WB (W - (n * 2 ^ s) * g) := by rw [← hw.hv, ← homv]; exact hos
                obtain ⟨hI2, hol1, hol2⟩ := hI.step hS h0 hz he hw hd1 hd2 hgl hos
                conv => whnf
                conv =>
                  arg 2
                  tactic' =>
                    apply eff_slice_hi (hi := irL) (h2 := hsl) (ho := ?how23) (hT := ?hTw23) (hx := ?hxw23) (hk := ?hkw23) (hlt := ?hltw23)
                    case how23 => rfl
                    case hTw23 => rfl
                    case hxw23 => rfl
                    case hkw23 => exact cint hLadd irL
                    case hltw23 => exact hsl.1
                conv => whnf
                refine ⟨rfl, rfl, wsC (lu.take (k - 1)), wsC lw, wsC (lu.drop (k + (tlen lv0))), hcs, hoff, by rw [wsC_size]; exact hw.len, ?_⟩
                conv => whnf
                refine ⟨rfl, ol.length, ir_nat (by omega), wsC (lu.take (k - 1)), wsC (List.replicate ol.length 0), wsC (List.replicate ((tlen lv0) + 1 - ol.length) 0 ++ lu.drop (k + (tlen lv0))), wsC ol, hmin ol.length hol1, congrArg (fun z => wsC (lu.take (k - 1)) ++ z) (rep_split hol1), hoff, by rw [wsC_size, List.length_replicate], (WAt.self ol orr).all1, wsC_one _, ?_⟩
                conv => whnf
                conv =>
                  arg 2
                  tactic' =>
                    apply eff_index_sli (hi := irk1) (ho := ?how24) (hT := ?hTw24) (hx := ?hxw24) (hk := ?hkw24) (hlt := ?hltw24)
                    case how24 => rfl
                    case hTw24 => rfl
                    case hxw24 => rfl
                    case hkw24 => exact cint (pred_nat h0) irk1
                    case hltw24 => exact hk1q
                conv => whnf
                conv =>
                  arg 2
                  tactic' =>
                    apply eff_store_at (l := [wC (g)]) (cs := wsC (lq.set (k - 1) g)) (ho := ?how25) (hT := ?hTw25) (hx := ?hxw25) (hy := ?hyw25) (hl := ?hlw25) (hb := ?hbw25) (hro := ?hrow25) (hs := ?hsw25)
                    case how25 => rfl
                    case hTw25 => rfl
                    case hxw25 => rfl
                    case hyw25 => exact congrArg (fun z => some [C.val (.int .u64 z)]) (rfl : ((g : Nat) : Int) = (g : Int))
                    case hlw25 => exact ⟨rfl, rfl⟩
                    case hbw25 => rfl
                    case hrow25 => rfl
                    case hsw25 => exact splice_ws hkql _
                conv => whnf
                rw [forceL_eq]
                conv => whnf
                refine ⟨[0, 1, 2, 3, 4], [8, 9, 10, 11, 12, 13, 14], [0, 1, 2, 3, 4], fun vs9 => ?_⟩
                conv => whnf
                refine ⟨hwa.1, hwb.1, pureL_append (wsC_pure _) (pureL_append (wsC_pure _) (wsC_pure _)), wsC_pure lv0, wsC_pure _, ?_⟩
                conv => whnf
                refine ⟨_, _, ?_, ?_, ⟨(k - 1, (lu.take (k - 1) ++ (ol ++ (List.replicate ((tlen lv0) + 1 - ol.length) 0 ++ lu.drop (k + (tlen lv0))))), lq.set (k - 1) g, vs9), hI2⟩, Nat.sub_lt h0 Nat.one_pos, rfl, rfl⟩
                · exact ⟨fun _ => rfl, fun _ => rfl, fun _ => rfl, fun _ => rfl, fun _ => rfl, fun _ => rfl, fun _ => rfl, fun _ => rfl, fun _ => rfl, fun _ => rfl, fun _ => rfl, fun _ => rfl, fun _ => rfl, fun _ => rfl, sint_eq (cmp_dec h0 (ir_nat (by have := hI.hk; omega))) _ _, stm _⟩
                · exact ⟨⟨rfl, rfl, rfl, fun _ => rfl⟩, ⟨rfl, rfl, rfl, fun _ => rfl⟩, ⟨rfl, rfl, rfl, fun ρ => by rw [wsC_append (lu.take (k - 1)), wsC_append ol]⟩, ⟨rfl, rfl, rfl, fun _ => rfl⟩, ⟨rfl, rfl, rfl, fun _ => rfl⟩, trivial⟩
          · have h0 : k = 0 := i_lt h0
            subst h0
            conv => whnf
            exact hqx ⟨(lu, lq), hI⟩ (fun i => nth uv (_ :: _ :: _ :: _ :: _ :: _ :: _ :: _ :: uv :: uv :: uv :: uv :: _ :: _ :: _ :: _ :: _ :: _ :: _ :: _ :: _ :: _ :: _ :: _ :: _ :: _ :: _ :: _ :: _ :: _ :: _ :: _ :: _ :: _ :: _ :: _ :: _ :: _ :: _ :: _ :: _ :: _ :: _ :: _ :: _ :: _ :: _ :: _ :: _ :: _ :: _ :: _ :: _ :: _ :: _ :: _ :: _ :: _ :: _ :: _ :: _ :: _ :: _ :: _ :: _ :: _ :: _ :: _ :: _ :: _ :: _ :: _ :: _ :: _ :: _ :: _ :: _ :: _ :: _ :: _ :: _ :: _ :: _ :: _ :: _ :: _ :: _ :: _ :: _ :: _ :: _ :: _ :: _ :: _ :: _ :: _ :: _ :: _ :: _ :: _ :: _ :: _ :: _ :: _ :: _ :: _ :: _ :: _ :: _ :: _ :: _ :: _ :: _ :: _ :: _ :: _ :: _ :: _ :: _ :: _ :: _ :: _ :: _ :: _ :: _ :: _ :: _ :: _ :: _ :: _ :: _ :: _ :: _ :: _ :: _ :: _ :: _ :: _ :: _ :: _ :: _ :: _ :: _ :: _ :: _ :: _ :: _ :: _ :: _ :: _ :: _ :: _ :: _ :: []) i)
        · rintro ⟨⟨lu, lq⟩, hI⟩ jj
          have hI : DivI (m * 2 ^ s) (n * 2 ^ s) (tlen lv0) ((dig WB m).length + 1 - tlen lv0) lu lq 0 := hI
          obtain ⟨hq1, hr1⟩ := hI.last hS rfl rfl
          have hul : lu.length = ((dig WB m).length + 1) := by rw [hI.ul]; exact hQL
          conv => whnf
          refine ⟨⟨wsC_pure (lq), trivial⟩, ⟨_, _, _, _, _, _, _, lq, rfl, rfl, hI.ql, ⟨wsC_pure (lq), [], [], by rw [List.append_nil]; rfl, rfl⟩, fun h6 => ?_⟩⟩
          conv => whnf
          refine ⟨⟨wsC_pure (lu), trivial⟩, ⟨_, _, _, _, _, _, _, lu, rfl, rfl, hul, ⟨wsC_pure (lu), [], [], by rw [List.append_nil]; rfl, rfl⟩, fun h7 => ?_⟩⟩
          conv => whnf
          refine ⟨⟨wsC_pure lu, trivial⟩, ⟨_, _, _, _, _, _, _, dig WB (val WB lu), s, _, rfl, rfl, tlen_dig hI.du, WAt.normd hI.du, dig_Dl WB_two _, by have := tlen_le lu; omega, by omega, fun o2 ho2 => ?_⟩⟩
          conv => whnf
          refine ⟨[0, 1, 4, 5], [0, 1, 2, 3], fun vs9 => ?_⟩
          conv => whnf
          refine ⟨hwa.1, hwb.1, wsC_pure lq, wsC_pure _, ?_⟩
          conv => whnf
          refine ⟨_, [(OW.ofNorm lq ((dig WB m).length + 1 - tlen lv0) h6 (Nat.le_of_eq hI.ql)).blk, o2.blk], rfl, ⟨⟨rfl, rfl, rfl, fun _ => rfl⟩, ⟨rfl, rfl, rfl, fun _ => rfl⟩, ⟨rfl, rfl, ?_, fun ρ => ?_⟩, ⟨rfl, rfl, rfl, fun _ => rfl⟩, trivial⟩, ⟨OW.new _, OW.new _, trivial⟩, .tup [(OW.ofNorm lq ((dig WB m).length + 1 - tlen lv0) h6 (Nat.le_of_eq hI.ql)).t 2, o2.t 3], fun ρ => tup2_den (ofNorm_t 2 ρ) rfl, hK2 hmn _ o2 ?_ ?_⟩
          · rw [OW.ofNorm_blk]; have := hI.ql; show 0 = ((dig WB m).length + 1 - tlen lv0) - lq.length; omega
          · rw [OW.ofNorm_blk]
          · rw [OW.ofNorm_l hI.dq, hq1]
          · rw [ho2, val_dig WB_two, hr1]
end Go.Proofs.YtocbklodkcdhkaaGreatDoor
