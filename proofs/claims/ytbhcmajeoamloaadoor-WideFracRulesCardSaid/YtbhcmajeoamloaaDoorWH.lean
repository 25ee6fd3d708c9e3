/- law 01: frac, over chunks that may be anything. -/
import Derived.Test.YtbhcmajeoamloaaDoorLwa
import Derived.Test.YtbhcmajeoamloaaDoorIab
import Derived.Test.YtbhcmajeoamloaaDoorRowW
namespace Go.Proofs.YtbhcmajeoamloaaDoor
open Go.RowKit
set_option maxRecDepth 100000

theorem bool_sv {a b : Bool} (e : a = b) (ρ : Rho) : (SV.c (.val (.bool a))).den ρ = (SV.c (.val (.bool b))).den ρ := by subst e; rfl
theorem mk8 (z : Int) (l : List UInt8) : 8 * (mkS z l).size ≤ 80000000 := by have := mkS_size z l; omega
def lawP : List (FuncId × Dn) := (15, dSane) :: lawE
theorem lawP_ok : AllOk lawP := .cons spSane lawE_ok
theorem mk320 (z : Int) (l : List UInt8) : 8 * (mkS z l).size ≤ 320 := by have := mkS_size z l; omega
theorem sli_min {n c : Nat} (h : SliOk false n c) (k : Nat) : SliOk false (min n k) c := ⟨Nat.le_trans (Nat.min_le_left _ _) h.1, h.2.1, fun e => by cases e⟩
theorem ir_min {n c : Nat} (h : SliOk false n c) (k : Nat) : IR ((min n k : Nat) : Int) := (sli_min h k).ir
theorem min_len (l : List UInt8) (k : Nat) : (l.take (min l.length k)).length = min l.length k := by rw [List.length_take]; omega
theorem bb_t (b : Bool) : (b == b) = true := by cases b <;> rfl
/-- a slice of bytes, and what it holds -/
def numC (c : C) (hf : Nat → Option Blk) : Option (Prop × List UInt8) :=
  match c with
  | .sli false b off len _ _ => (match hf b with
    | some blk => some (∃ l, subC blk.cs off len = some (bsC l) ∧ l.length = len ∧ len ≤ 140737488351232, bsOf blk.cs off len)
    | none => none)
  | .val (.slice _ 0 0) => some (True, [])
  | _ => none
def fracS (z : Int) (l : List UInt8) : ByteArray := mkS z (l.take 12)
def dFracW : Dr
  | [.agg [.val (.bool b), c, .int z _], .agg [.val (.bool d), e, .int y _]], hf => (match numC c hf, numC e hf with
    | some (p, l), some (q, m) => some (some (p ∧ q), raw4 b (fracS z l) d (fracS y m))
    | _, _ => none)
  | _, _ => none
theorem take_min12 (L : List UInt8) : L.take (min L.length 12) = L.take 12 := by
  by_cases h : L.length ≤ 12
  · rw [Nat.min_eq_left h, List.take_length, List.take_of_length_le h]
  · rw [Nat.min_eq_right (by omega)]
theorem frac_s {z : Int} {l : List UInt8} : mkS z (bsOf (bsC l) 0 (min l.length 12)) = fracS z l := by
  unfold fracS
  rw [bsOf_eq (bs_take l (Nat.min_le_left _ _)), take_min12]
theorem frac_n {z : Int} : mkS z [] = fracS z [] := rfl
theorem bs_range {w : World} {a o : Nat} {l : List UInt8} {ρ ρ' : Rho} (h : w.rangeAt a o (cellsL ρ (bsC l))) : w.rangeAt a o (cellsL ρ' (bsC l)) := by
  rw [bsC_cells] at h ⊢; exact h
def envF : Env := envN 0 [] rdW fun _ => false
theorem envF_ok : EOk Tryd.prog envF := envN_ok .nil rdW_ok 0 fun _ => false
set_option maxHeartbeats 4000000 in
theorem vcFracWAA (b0 : Bool) (z0 : Int) (h0 : IR z0) (l0 : List UInt8) (c0 : Nat) (g0 : SliOk false l0.length c0) (m0 : l0.length ≤ 140737488351232) (ty0 : TypeId) (b1 : Bool) (z1 : Int) (h1 : IR z1) (l1 : List UInt8) (c1 : Nat) (g1 : SliOk false l1.length c1) (m1 : l1.length ≤ 140737488351232) (ty1 : TypeId) : vcF envF (inl envF noF 0) Tryd.f37 [.agg [.val (.bool b0), .sli false 0 0 l0.length c0 g0, .int z0 h0], .agg [.val (.bool b1), .sli false 1 0 l1.length c1 g1, .int z1 h1]] [⟨ty0, true, bsC l0, 0⟩, ⟨ty1, true, bsC l1, 0⟩] fun u _ => ∀ ρ, u.den ρ = (raw4 b0 (fracS z0 l0) b1 (fracS z1 l1)).den ρ := by
  conv => whnf
  conv =>
    arg 2
    tactic' =>
      apply eff_slice_hi (k := min l0.length 12) (hi := ir_min g0 12) (h2 := sli_min g0 12) (ho := ?how5) (hT := ?hTw5) (hx := ?hxw5) (hk := ?hkw5) (hlt := ?hltw5)
      case how5 => rfl
      case hTw5 => rfl
      case hxw5 => rfl
      case hkw5 => exact cint (min_nat _ 12) (ir_min g0 12)
      case hltw5 => exact (sli_min g0 12).1
  conv => whnf
  conv =>
    arg 2
    tactic' =>
      apply eff_slice_hi (k := min l1.length 12) (hi := ir_min g1 12) (h2 := sli_min g1 12) (ho := ?how6) (hT := ?hTw6) (hx := ?hxw6) (hk := ?hkw6) (hlt := ?hltw6)
      case how6 => rfl
      case hTw6 => rfl
      case hxw6 => rfl
      case hkw6 => exact cint (min_nat _ 12) (ir_min g1 12)
      case hltw6 => exact (sli_min g1 12).1
  conv => whnf
  refine ⟨⟨l0.take (min l0.length 12), bs_take l0 (Nat.min_le_left _ _), min_len l0 12, Nat.le_trans (Nat.min_le_left _ _) m0⟩, ?_⟩
  conv => whnf
  refine ⟨⟨l1.take (min l1.length 12), bs_take l1 (Nat.min_le_left _ _), min_len l1 12, Nat.le_trans (Nat.min_le_left _ _) m1⟩, ?_⟩
  conv => whnf
  exact fun ρ => raw4_eq rfl frac_s rfl frac_s ρ
set_option maxHeartbeats 4000000 in
theorem vcFracWAB (b0 : Bool) (z0 : Int) (h0 : IR z0) (l0 : List UInt8) (c0 : Nat) (g0 : SliOk false l0.length c0) (m0 : l0.length ≤ 140737488351232) (ty0 : TypeId) (b1 : Bool) (z1 : Int) (h1 : IR z1) (a1 : Option Addr) : vcF envF (inl envF noF 0) Tryd.f37 [.agg [.val (.bool b0), .sli false 0 0 l0.length c0 g0, .int z0 h0], .agg [.val (.bool b1), .val (.slice a1 0 0), .int z1 h1]] [⟨ty0, true, bsC l0, 0⟩] fun u _ => ∀ ρ, u.den ρ = (raw4 b0 (fracS z0 l0) b1 (fracS z1 [])).den ρ := by
  conv => whnf
  conv =>
    arg 2
    tactic' =>
      apply eff_slice_hi (k := min l0.length 12) (hi := ir_min g0 12) (h2 := sli_min g0 12) (ho := ?how7) (hT := ?hTw7) (hx := ?hxw7) (hk := ?hkw7) (hlt := ?hltw7)
      case how7 => rfl
      case hTw7 => rfl
      case hxw7 => rfl
      case hkw7 => exact cint (min_nat _ 12) (ir_min g0 12)
      case hltw7 => exact (sli_min g0 12).1
  conv => whnf
  refine ⟨⟨l0.take (min l0.length 12), bs_take l0 (Nat.min_le_left _ _), min_len l0 12, Nat.le_trans (Nat.min_le_left _ _) m0⟩, ?_⟩
  conv => whnf
  exact fun ρ => raw4_eq rfl frac_s rfl frac_n ρ
set_option maxHeartbeats 4000000 in
theorem vcFracWBA (b0 : Bool) (z0 : Int) (h0 : IR z0) (a0 : Option Addr) (b1 : Bool) (z1 : Int) (h1 : IR z1) (l1 : List UInt8) (c1 : Nat) (g1 : SliOk false l1.length c1) (m1 : l1.length ≤ 140737488351232) (ty1 : TypeId) : vcF envF (inl envF noF 0) Tryd.f37 [.agg [.val (.bool b0), .val (.slice a0 0 0), .int z0 h0], .agg [.val (.bool b1), .sli false 0 0 l1.length c1 g1, .int z1 h1]] [⟨ty1, true, bsC l1, 0⟩] fun u _ => ∀ ρ, u.den ρ = (raw4 b0 (fracS z0 []) b1 (fracS z1 l1)).den ρ := by
  conv => whnf
  conv =>
    arg 2
    tactic' =>
      apply eff_slice_hi (k := min l1.length 12) (hi := ir_min g1 12) (h2 := sli_min g1 12) (ho := ?how8) (hT := ?hTw8) (hx := ?hxw8) (hk := ?hkw8) (hlt := ?hltw8)
      case how8 => rfl
      case hTw8 => rfl
      case hxw8 => rfl
      case hkw8 => exact cint (min_nat _ 12) (ir_min g1 12)
      case hltw8 => exact (sli_min g1 12).1
  conv => whnf
  refine ⟨⟨l1.take (min l1.length 12), bs_take l1 (Nat.min_le_left _ _), min_len l1 12, Nat.le_trans (Nat.min_le_left _ _) m1⟩, ?_⟩
  conv => whnf
  exact fun ρ => raw4_eq rfl frac_n rfl frac_s ρ
set_option maxHeartbeats 4000000 in
theorem vcFracWBB (b0 : Bool) (z0 : Int) (h0 : IR z0) (a0 : Option Addr) (b1 : Bool) (z1 : Int) (h1 : IR z1) (a1 : Option Addr) : vcF envF (inl envF noF 0) Tryd.f37 [.agg [.val (.bool b0), .val (.slice a0 0 0), .int z0 h0], .agg [.val (.bool b1), .val (.slice a1 0 0), .int z1 h1]] [] fun u _ => ∀ ρ, u.den ρ = (raw4 b0 (fracS z0 []) b1 (fracS z1 [])).den ρ := by
  conv => whnf
  exact fun ρ => raw4_eq rfl frac_n rfl frac_n ρ
set_option maxHeartbeats 4000000 in
theorem spFracW : SpR Tryd.prog 37 dFracW := by
  have hfn : FnOk Tryd.prog 37 Tryd.f37 := ⟨Tryd.func37, by kernel_rfl, by kernel_rfl⟩
  refine ⟨hfn.callable, fun args hf p v hd => ?_⟩
  unfold dFracW at hd
  split at hd
  · rename_i b0 x z0 h0 b1 y z1 h1
    split at hd
    · rename_i q0 m0 q1 m1 e0 e1
      cases hd
      refine ⟨fun _ _ => rfl, fun hp ρ w hh => ?_⟩
      obtain ⟨hp0, hp1⟩ := hp _ rfl
      unfold numC at e0
      split at e0
      · rename_i k0 off0 len0 c0 g0
        split at e0
        · rename_i blk0 hb0
          cases e0
          obtain ⟨l0, hs0, hlen0, hm0⟩ := hp0
          subst hlen0
          have hr0 := (hh k0 blk0 hb0).1
          obtain ⟨x0, r0, ea0, eb0, ec0⟩ := subC_spec hs0
          rw [ea0, cellsL_append, cellsL_append] at hr0
          have hr0 := range_sub hr0
          rw [← sizeC_eq, eb0] at hr0
          rw [bsOf_eq hs0]
          unfold numC at e1
          split at e1
          · rename_i k1 off1 len1 c1 g1
            split at e1
            · rename_i blk1 hb1
              cases e1
              obtain ⟨l1, hs1, hlen1, hm1⟩ := hp1
              subst hlen1
              have hr1 := (hh k1 blk1 hb1).1
              obtain ⟨x1, r1, ea1, eb1, ec1⟩ := subC_spec hs1
              rw [ea1, cellsL_append, cellsL_append] at hr1
              have hr1 := range_sub hr1
              rw [← sizeC_eq, eb1] at hr1
              rw [bsOf_eq hs1]
              refine read_ok (P := Tryd.prog) envF_ok mixed noF_ok hfn (fun _ _ => rfl) (fun i c hi => ?_) (fun i => match i with | 0 => ((ρ k0).1, (ρ k0).2 + off0) | _ => ((ρ k1).1, (ρ k1).2 + off1)) (fun ρ' hρ => ?_) (vcFracWAA b0 z0 h0 l0 c0 g0 hm0 blk0.ty b1 z1 h1 l1 c1 g1 hm1 blk1.ty) w (fun i c hi => ?_)
              · rcases i with _ | _ | i <;> simp [nthO] at hi <;> subst hi <;> exact ⟨rfl, bsC_pure _⟩
              · have f0 : ρ' 0 = ((ρ k0).1, (ρ k0).2 + off0) := hρ 0 rfl
                have f1 : ρ' 1 = ((ρ k1).1, (ρ k1).2 + off1) := hρ 1 rfl
                simp only [List.map_cons, List.map_nil, SV.den, cellsL_cons, C.cells, f0, f1]
                rfl
              · rcases i with _ | _ | i
                · simp [nthO] at hi; subst hi; exact bs_range hr0
                · simp [nthO] at hi; subst hi; exact bs_range hr1
                · simp [nthO] at hi
            · cases e1
          · rename_i a1
            cases e1
            refine read_ok (P := Tryd.prog) envF_ok mixed noF_ok hfn (fun _ _ => rfl) (fun i c hi => ?_) (fun i => match i with  | _ => ((ρ k0).1, (ρ k0).2 + off0)) (fun ρ' hρ => ?_) (vcFracWAB b0 z0 h0 l0 c0 g0 hm0 blk0.ty b1 z1 h1 a1) w (fun i c hi => ?_)
            · rcases i with _ | i <;> simp [nthO] at hi <;> subst hi <;> exact ⟨rfl, bsC_pure _⟩
            · have f0 : ρ' 0 = ((ρ k0).1, (ρ k0).2 + off0) := hρ 0 rfl
              simp only [List.map_cons, List.map_nil, SV.den, cellsL_cons, C.cells, f0]
              rfl
            · rcases i with _ | i
              · simp [nthO] at hi; subst hi; exact bs_range hr0
              · simp [nthO] at hi
          · cases e1
        · cases e0
      · rename_i a0
        cases e0
        unfold numC at e1
        split at e1
        · rename_i k1 off1 len1 c1 g1
          split at e1
          · rename_i blk1 hb1
            cases e1
            obtain ⟨l1, hs1, hlen1, hm1⟩ := hp1
            subst hlen1
            have hr1 := (hh k1 blk1 hb1).1
            obtain ⟨x1, r1, ea1, eb1, ec1⟩ := subC_spec hs1
            rw [ea1, cellsL_append, cellsL_append] at hr1
            have hr1 := range_sub hr1
            rw [← sizeC_eq, eb1] at hr1
            rw [bsOf_eq hs1]
            refine read_ok (P := Tryd.prog) envF_ok mixed noF_ok hfn (fun _ _ => rfl) (fun i c hi => ?_) (fun i => match i with  | _ => ((ρ k1).1, (ρ k1).2 + off1)) (fun ρ' hρ => ?_) (vcFracWBA b0 z0 h0 a0 b1 z1 h1 l1 c1 g1 hm1 blk1.ty) w (fun i c hi => ?_)
            · rcases i with _ | i <;> simp [nthO] at hi <;> subst hi <;> exact ⟨rfl, bsC_pure _⟩
            · have f1 : ρ' 0 = ((ρ k1).1, (ρ k1).2 + off1) := hρ 0 rfl
              simp only [List.map_cons, List.map_nil, SV.den, cellsL_cons, C.cells, f1]
              rfl
            · rcases i with _ | i
              · simp [nthO] at hi; subst hi; exact bs_range hr1
              · simp [nthO] at hi
          · cases e1
        · rename_i a1
          cases e1
          refine read_ok (P := Tryd.prog) envF_ok mixed noF_ok hfn (fun _ _ => rfl) (fun i c hi => ?_) (ρ) (fun ρ' hρ => ?_) (vcFracWBB b0 z0 h0 a0 b1 z1 h1 a1) w (fun i c hi => ?_)
          · simp [nthO] at hi
          · rfl
          · simp [nthO] at hi
        · cases e1
      · cases e0
    · cases hd
  · cases hd
/-! chunks that may be anything -/
theorem force_intro {x : C} {K : C → Prop} (h : K x) : C.force x K := by cases x <;> exact h
theorem eff_box {T : TypeId → Option TI} {op : Op} {ev : Operand → SV} {hp : Nat → Option Blk} {t : TypeId} {x : Operand} (ho : op = .box t x) {l : List C} (hx : (ev x).ch = some l) (h1 : allOne l = true) : eff T op ev hp = some (.new { ty := t, ro := false, cs := l } fun n => .c (.ptr n 0)) := by
  subst ho
  simp only [eff, hx]
  rw [if_pos h1]
def lstC (hf : Nat → Option Blk) (c : C) : List UInt8 :=
  match c with
  | .sli _ b off len _ _ => (match hf b with | some blk => bsOf blk.cs off len | none => [])
  | _ => []
def OKc (c : C) (hf : Nat → Option Blk) : Prop := (∃ b off len cap g blk l, c = .sli false b off len cap g ∧ hf b = some blk ∧ subC blk.cs off len = some (bsC l) ∧ l.length = len ∧ len ≤ 140737488351232) ∨ ∃ a, c = .val (.slice a 0 0)
theorem OKc.num {c : C} {hf : Nat → Option Blk} (h : OKc c hf) : ∃ p, numC c hf = some (p, lstC hf c) ∧ p := by
  rcases h with ⟨b, off, len, cap, g, blk, l, rfl, hb, h1, h2, h3⟩ | ⟨a, rfl⟩
  · refine ⟨∃ l, subC blk.cs off len = some (bsC l) ∧ l.length = len ∧ len ≤ 140737488351232, ?_, l, h1, h2, h3⟩
    simp only [numC, lstC, hb]
  · exact ⟨True, rfl, trivial⟩
def dFracX : Dr
  | [.agg [.val (.bool b), c, .int z _], .agg [.val (.bool d), e, .int y _]], hf => some (some (OKc c hf ∧ OKc e hf), raw4 b (fracS z (lstC hf c)) d (fracS y (lstC hf e)))
  | _, _ => none
theorem spFracX : SpR Tryd.prog 37 dFracX := by
  refine ⟨spFracW.1, fun args hf p v hd => ?_⟩
  unfold dFracX at hd
  split at hd
  · rename_i b c z hz d e y hy
    cases hd
    refine ⟨fun _ _ => rfl, fun hp ρ w hh => ?_⟩
    obtain ⟨k1, k2⟩ := hp _ rfl
    obtain ⟨p1, e1, t1⟩ := k1.num
    obtain ⟨p2, e2, t2⟩ := k2.num
    refine (spFracW.2 [.agg [.val (.bool b), c, .int z hz], .agg [.val (.bool d), e, .int y hy]] hf (some (p1 ∧ p2)) (raw4 b (fracS z (lstC hf c)) d (fracS y (lstC hf e))) ?_).2 (fun q hq => by cases hq; exact ⟨t1, t2⟩) ρ w hh
    unfold dFracW
    simp only [e1, e2]
  · cases hd
/-- a number among the law's arguments: its slice is block i, or nothing -/
def ChOk (i : Nat) (c : C) (l : List UInt8) : Prop := (∃ cap g, c = .sli false i 0 l.length cap g ∧ l.length ≤ 140737488351232) ∨ ∃ a, c = .val (.slice a 0 0)
theorem ChOk.n {i : Nat} {c : C} {l : List UInt8} (h : ChOk i c l) : c.n = 1 := by rcases h with ⟨cap, g, rfl, _⟩ | ⟨a, rfl⟩ <;> rfl
theorem ChOk.one {i : Nat} {c : C} {l : List UInt8} (h : ChOk i c l) : c.one = true := by rcases h with ⟨cap, g, rfl, _⟩ | ⟨a, rfl⟩ <;> rfl
theorem ChOk.ok {i : Nat} {c : C} {l : List UInt8} (h : ChOk i c l) {hf : Nat → Option Blk} {ty : TypeId} (hb : hf i = some ⟨ty, true, bsC l, 0⟩) : OKc c hf := by
  rcases h with ⟨cap, g, rfl, hl⟩ | ⟨a, rfl⟩
  · exact .inl ⟨i, 0, l.length, cap, g, _, l, rfl, hb, bs_all l rfl, rfl, hl⟩
  · exact .inr ⟨a, rfl⟩
theorem ChOk.cells {i : Nat} {c : C} {l : List UInt8} (h : ChOk i c l) {ρ ρ' : Rho} (e : ρ i = ρ' i) : c.cells ρ = c.cells ρ' := by
  rcases h with ⟨cap, g, rfl, _⟩ | ⟨a, rfl⟩
  · simp only [C.cells, e]
  · rfl
theorem NumC.open {W : World} {x : List Value} (h : NumC W x) : ∃ (b : Bool) (z : Int) (hz : IR z) (ch : Nat → C) (l : List UInt8) (p : Nat × Nat), (∀ i, ChOk i (ch i) l) ∧ (∀ i ρ, ρ i = p → cellsL ρ [.val (.bool b), ch i, .int z hz] = x) ∧ ∀ ρ, W.rangeAt p.1 p.2 (cellsL ρ (bsC l)) := by
  rcases h with ⟨b, z, l, c, p, rfl, hz, g, m, r⟩ | ⟨b, z, a, rfl, hz⟩
  · exact ⟨b, z, hz, fun i => .sli false i 0 l.length c g, l, p, fun i => .inl ⟨c, g, rfl, m⟩, fun i ρ e => by simp only [cellsL_cons, C.cells, e]; rfl, r⟩
  · exact ⟨b, z, hz, fun _ => .val (.slice a 0 0), [], (0, 0), fun _ => .inr ⟨a, rfl⟩, fun _ _ _ => rfl, fun ρ j v hj => by simp [bsC, cellsL] at hj⟩
theorem fr320 (z : Int) (l : List UInt8) : 8 * (fracS z l).size ≤ 320 := by have := mkS_size z (l.take 12); unfold fracS; omega
theorem and_t {a b : Bool} (h1 : a = true) (h2 : b = true) : (a && b) = true := by subst h1 h2; rfl
end Go.Proofs.YtbhcmajeoamloaaDoor
