/- law 22: Equal, Inside, RayKeeps, by the reckoner. -/
import Derived.Test.YtefgchmbdijjdaaGreatDoorRyc
namespace Go.Proofs.YtefgchmbdijjdaaGreatDoor
open Go.RowKit
set_option maxRecDepth 100000

set_option maxHeartbeats 8000000 in
theorem vcEqT (l : List TR) (ty ty2 : TypeId) (nl nl2 : Bool) (cap cap2 : Nat) (h1 : l.length ≤ 1000000) (hl : SliOk nl l.length cap) (hl2 : SliOk nl2 l.length cap2) : vcF (envN 0 baseC [] fun _ => false) (mix [] (envN 0 baseC [] fun _ => false) noF 0) Tryz.f32 [.c (.sli nl 0 0 l.length cap hl), .c (.sli nl2 1 0 l.length cap2 hl2)] [⟨ty, true, trsC l, 0⟩, ⟨ty2, true, trsC l, 0⟩] fun u _ => ∀ ρ, u.den ρ = (SV.c (.val (.bool true))).den ρ := by
  have _ := h1
  conv => whnf
  refine bcase_intro (fun h0 => absurd h0 (by simp)) (fun _ => ?_)
  conv => whnf
  refine loop_st (G := {k : Nat // k ≤ l.length} × (Nat → Value)) (fun g => (.c (.sli nl 0 0 l.length cap hl) :: .c (.sli nl2 1 0 l.length cap2 hl2) :: .c (.val (g.2 2)) :: .c (.val (g.2 3)) :: .c (.val (g.2 4)) :: .c (.int (g.1.1 : Nat) (lt_irT hl g.1.2)) :: .c (.val (g.2 6)) :: .c (.val (g.2 7)) :: .c (.val (g.2 8)) :: .c (.val (g.2 9)) :: .c (.val (g.2 10)) :: .c (.val (g.2 11)) :: .c (.val (g.2 12)) :: .c (.val (g.2 13)) :: .c (.val (g.2 14)) :: .c (.val (g.2 15)) :: .c (.val (g.2 16)) :: .c (.val (g.2 17)) :: .c (.val (g.2 18)) :: .c (.val (g.2 19)) :: .c (.val (g.2 20)) :: .c (.val (g.2 21)) :: .c (.val (g.2 22)) :: .c (.val (g.2 23)) :: .c (.val (g.2 24)) :: .c (.val (g.2 25)) :: [])) (fun _ => [⟨ty, true, trsC l, 0⟩, ⟨ty2, true, trsC l, 0⟩]) (fun g => l.length - g.1.1) ?_ ?_
  · refine ⟨[0, 1], [0, 1, 5], [0, 1], fun vs => ?_⟩
    conv => whnf
    refine ⟨pureL_trs2 l, pureL_trs2 l, ?_⟩
    conv => whnf
    refine ⟨_, _, ?_, ?_, (⟨0, Nat.zero_le _⟩, vs), rfl, rfl⟩
    · exact stm _
    · exact ⟨⟨rfl, rfl, rfl, fun _ => rfl⟩, ⟨rfl, rfl, rfl, fun _ => rfl⟩, trivial⟩
  · rintro ⟨⟨k, hk⟩, vs⟩
    conv => whnf
    refine bcase_intro (fun hlt => ?_) (fun hlt => ?_)
    · have hlt : k < l.length := n_lt hlt
      conv => whnf
      conv =>
        arg 2
        tactic' =>
          apply eff_index_sli (ho := ?how9) (hT := ?hTw9) (hx := ?hxw9) (hk := ?hkw9) (hlt := ?hltw9)
          case how9 => rfl
          case hTw9 => rfl
          case hxw9 => rfl
          case hkw9 => rfl
          case hltw9 => exact hlt
      conv => whnf
      conv =>
        arg 2
        tactic' =>
          apply eff_load_sub (ho := ?how10) (hT := ?hTw10) (hx := ?hxw10) (hb := ?hbw10) (hm := ?hmw10) (hv := ?hvw10)
          case how10 => rfl
          case hTw10 => rfl
          case hxw10 => rfl
          case hbw10 => rfl
          case hmw10 => exact (by rw [Nat.zero_add]; exact subC_trs l hlt : subC (trsC l) (0 + k * 9) 9 = some (trC l[k]))
          case hvw10 => rfl
      conv => whnf
      conv =>
        arg 2
        tactic' =>
          apply eff_index_sli (ho := ?how11) (hT := ?hTw11) (hx := ?hxw11) (hk := ?hkw11) (hlt := ?hltw11)
          case how11 => rfl
          case hTw11 => rfl
          case hxw11 => rfl
          case hkw11 => rfl
          case hltw11 => exact hlt
      conv => whnf
      conv =>
        arg 2
        tactic' =>
          apply eff_load_sub (ho := ?how12) (hT := ?hTw12) (hx := ?hxw12) (hb := ?hbw12) (hm := ?hmw12) (hv := ?hvw12)
          case how12 => rfl
          case hTw12 => rfl
          case hxw12 => rfl
          case hbw12 => rfl
          case hmw12 => exact (by rw [Nat.zero_add]; exact subC_trs l hlt : subC (trsC l) (0 + k * 9) 9 = some (trC l[k]))
          case hvw12 => rfl
      conv => whnf
      refine bcase_intro (fun h0 => absurd h0 (by simp)) (fun _ => ?_)
      conv => whnf
      refine ⟨[0, 1], [0, 1, 5], [0, 1], fun vs2 => ?_⟩
      conv => whnf
      refine ⟨pureL_trs2 l, pureL_trs2 l, ?_⟩
      conv => whnf
      refine ⟨_, _, ?_, ?_, (⟨k + 1, hlt⟩, vs2), (by omega : l.length - (k + 1) < l.length - k), rfl, rfl⟩
      · exact ⟨fun _ => rfl, fun _ => rfl, fun _ => rfl, fun _ => rfl, fun _ => rfl, fun ρ => sint_e (wrap_add1 hlt hl.ir) ρ, stm _⟩
      · exact ⟨⟨rfl, rfl, rfl, fun _ => rfl⟩, ⟨rfl, rfl, rfl, fun _ => rfl⟩, trivial⟩
    · conv => whnf
      exact fun ρ => rfl
/-- two lists that are equal -/
def dEqT : Dr
  | [.c (.sli _ b off len _ _), .c (.sli _ b2 off2 len2 _ _)], hf => (match hf b, off, hf b2, off2 with
    | some blk, 0, some blk2, 0 => (match toTrs blk.cs, toTrs blk2.cs with
      | some l, some l2 => if (l.length = len ∧ l2.length = len2) ∧ l.length ≤ 1000000 then some (some (l = l2), .c (.val (.bool true))) else none
      | _, _ => none)
    | _, _, _, _ => none)
  | _, _ => none
theorem spEqT : SpR Tryz.prog 32 dEqT := by
  refine ⟨(⟨Tryz.func32, by kernel_rfl, by kernel_rfl⟩ : FnOk Tryz.prog 32 Tryz.f32).callable, fun args hf p v hd => ?_⟩
  unfold dEqT at hd
  split at hd
  · rename_i nl b off len cap hl nl2 b2 off2 len2 cap2 hl2
    split at hd
    · rename_i blk blk2 hb hb2
      split at hd
      · rename_i l l2 hpl hpl2
        split at hd
        · rename_i hlen
          cases hd
          obtain ⟨⟨rfl, rfl⟩, h1⟩ := hlen
          have hcs := toTrs_ok hpl
          have hcs2 := toTrs_ok hpl2
          refine ⟨fun _ _ => rfl, fun ho ρ w hh => ?_⟩
          obtain rfl : l = l2 := ho _ rfl
          have hH := (hh b blk hb).1
          have hH2 := (hh b2 blk2 hb2).1
          rw [hcs] at hH
          rw [hcs2] at hH2
          have hv := vcEqT l blk.ty blk2.ty nl nl2 cap cap2 h1 hl hl2
          refine read_okH (envN_ok baseC_ok .nil 0 fun _ => false) mixed (mix_ok .nil (envN_ok baseC_ok .nil 0 fun _ => false) mixed noF_ok 0) ⟨Tryz.func32, by kernel_rfl, by kernel_rfl⟩ (fun _ _ => rfl) (fun i c hi => ?_) (fun i => if i = 0 then ρ b else ρ b2) (fun ρ' hρ => ?_) hv w (fun i c hi => ?_)
          · match i with
            | 0 => simp [nthO] at hi; subst hi; exact ⟨rfl, trsC_pure l⟩
            | 1 => simp [nthO] at hi; subst hi; exact ⟨rfl, trsC_pure l⟩
            | i + 2 => simp [nthO] at hi
          · have e0 := hρ 0 rfl
            have e1 := hρ 1 rfl
            simp only [List.map_cons, List.map_nil, SV.den, C.den, C.cells, e0, e1]
          · match i with
            | 0 => simp [nthO] at hi; subst hi; rw [trsC_pure l _ ρ]; exact hH
            | 1 => simp [nthO] at hi; subst hi; rw [trsC_pure l _ ρ]; exact hH2
            | i + 2 => simp [nthO] at hi
        · cases hd
      · cases hd
    · cases hd
  · cases hd
def insV (R : RI) (l : List TR) : Bool := decide (((cntK R l l.length : Nat) : Int).tmod 2 = 1)
def dIns : Dr
  | [.c (.sli _ b off len _ _), .c (.int x hx), .c (.int y hy), .c (.int z hz), .c (.int w hw)], hf => (match hf b, off with
    | some blk, 0 => (match toTrs blk.cs with
      | some l => if l.length = len ∧ l.length ≤ 1000000 then some (none, .c (.val (.bool (insV ⟨x, y, z, w, 1, 0, 0, hx, hy, hz, hw, by decide, by decide, by decide⟩ l)))) else none
      | none => none)
    | _, _ => none)
  | _, _ => none
theorem dCnt_bl {l : List TR} {nl : Bool} {b cap : Nat} {hl : SliOk nl l.length cap} {R : RI} {hf : Nat → Option Blk} {ty : TypeId} {ro : Bool} {tl : Nat} (hb : hf b = some ⟨ty, ro, trsC l, tl⟩) (hn : l.length ≤ 1000000) : dCnt [.agg (riC R), .c (.sli nl b 0 l.length cap hl)] hf = some (none, cntV R l hn) := by
  unfold dCnt riC
  simp only [hb, toTrs_trs]
  rw [dif_pos ⟨trivial, hn⟩]
abbrev rdI : List (FuncId × Dr) := [(24, dCnt)]
theorem rdI_ok : AllR rdI := .cons spCountY .nil
abbrev EI : Env := envN 0 baseC rdI fun _ => false
theorem dI0 {n0 : Nat} {args : List SV} {hf : Nat → Option Blk} {l : List TR} {nl : Bool} {b cap : Nat} {hl : SliOk nl l.length cap} {R : RI} {ty : TypeId} {ro : Bool} {tl : Nat} (ha : args = [.agg (riC R), .c (.sli nl b 0 l.length cap hl)]) (hb : hf b = some ⟨ty, ro, trsC l, tl⟩) (hn : l.length ≤ 1000000) :
    ({ T := EI.T, un := EI.un, D := EI.D, O := EI.O, n0 := n0, ord := EI.ord } : Env).D 24 args hf = some (none, cntV R l hn) := by
  subst ha
  exact dCnt_bl (nl := nl) (cap := cap) (hl := hl) hb hn
set_option maxHeartbeats 4000000 in
theorem vcIns (l : List TR) (ty : TypeId) (nl : Bool) (cap : Nat) (h1 : l.length ≤ 1000000) (hl : SliOk nl l.length cap) {x y z w : Int} (hx : IR x) (hy : IR y) (hz : IR z) (hw : IR w) : vcF EI (mix [] EI noF 0) Tryz.f27 [.c (.sli nl 0 0 l.length cap hl), .c (.int x hx), .c (.int y hy), .c (.int z hz), .c (.int w hw)] [⟨ty, true, trsC l, 0⟩] fun u _ => ∀ ρ, u.den ρ = (SV.c (.val (.bool (insV ⟨x, y, z, w, 1, 0, 0, hx, hy, hz, hw, by decide, by decide, by decide⟩ l)))).den ρ := by
  conv => whnf
  conv =>
    arg 2
    tactic' =>
      apply dI0 (hn := h1) (l := l) (b := 0) (R := ⟨x, y, z, w, 1, 0, 0, hx, hy, hz, hw, by decide, by decide, by decide⟩) (ha := ?haw13) (hb := ?hbw13)
      case haw13 => rfl
      case hbw13 => rfl
  conv => whnf
  exact fun _ => rfl
theorem spIns : SpR Tryz.prog 27 dIns := by
  refine ⟨(⟨Tryz.func27, by kernel_rfl, by kernel_rfl⟩ : FnOk Tryz.prog 27 Tryz.f27).callable, fun args hf p v hd => ?_⟩
  unfold dIns at hd
  split at hd
  · rename_i nl b off len cap hl x hx y hy z hz ww hw
    split at hd
    · rename_i blk hb
      split at hd
      · rename_i l hpl
        split at hd
        · rename_i hlen
          cases hd
          obtain ⟨rfl, h1⟩ := hlen
          have hcs := toTrs_ok hpl
          refine ⟨fun _ _ => rfl, fun _ ρ w hh => ?_⟩
          have hH := (hh b blk hb).1
          rw [hcs] at hH
          have hv := vcIns l blk.ty nl cap h1 hl hx hy hz hw
          refine read_okH (envN_ok baseC_ok rdI_ok 0 fun _ => false) mixed (mix_ok .nil (envN_ok baseC_ok rdI_ok 0 fun _ => false) mixed noF_ok 0) ⟨Tryz.func27, by kernel_rfl, by kernel_rfl⟩ (fun _ _ => rfl) (fun i c hi => ?_) (fun _ => ρ b) (fun ρ' hρ => ?_) hv w (fun i c hi => ?_)
          · cases i with
            | zero => simp [nthO] at hi; subst hi; exact ⟨rfl, trsC_pure l⟩
            | succ i => simp [nthO] at hi
          · have := hρ 0 rfl
            simp only [List.map_cons, List.map_nil, SV.den, C.den, C.cells, this]
          · cases i with
            | zero => simp [nthO] at hi; subst hi; rw [trsC_pure l (fun _ => ρ b) ρ]; exact hH
            | succ i => simp [nthO] at hi
        · cases hd
      · cases hd
    · cases hd
  · cases hd
abbrev rdKe : List (FuncId × Dr) := [(28, dFst), (24, dCnt), (27, dIns), (32, dEqT)]
theorem rdKe_ok : AllR rdKe := .cons spFirstY (.cons spCountY (.cons spIns (.cons spEqT .nil)))
noncomputable abbrev EKe : Env := envN 0 baseLL rdKe fun _ => false
theorem dKe0 {n0 : Nat} {args : List SV} {hf : Nat → Option Blk} {o : OT} {b : Nat} {R : RI} (ha : args = [.agg (riC R), o.sl b]) (hb : hf b = some o.blk) (hn : o.l.length ≤ 1000000) :
    ({ T := EKe.T, un := EKe.un, D := EKe.D, O := EKe.O, n0 := n0, ord := EKe.ord } : Env).D 28 args hf = some (none, frstV R o.l) := by
  subst ha
  exact dFst_ot hb hn
theorem dKe1 {n0 : Nat} {args : List SV} {hf : Nat → Option Blk} {o : OT} {b : Nat} {R : RI} (ha : args = [.agg (riC R), o.sl b]) (hb : hf b = some o.blk) (hn : o.l.length ≤ 1000000) :
    ({ T := EKe.T, un := EKe.un, D := EKe.D, O := EKe.O, n0 := n0, ord := EKe.ord } : Env).D 24 args hf = some (none, cntV R o.l hn) := by
  subst ha
  exact dCnt_ot hb hn
theorem dIns_ot {o : OT} {b : Nat} {x y z w : Int} {hx : IR x} {hy : IR y} {hz : IR z} {hw : IR w} {hf : Nat → Option Blk} (hb : hf b = some o.blk) (hn : o.l.length ≤ 1000000) : dIns [o.sl b, .c (.int x hx), .c (.int y hy), .c (.int z hz), .c (.int w hw)] hf = some (none, .c (.val (.bool (insV ⟨x, y, z, w, 1, 0, 0, hx, hy, hz, hw, by decide, by decide, by decide⟩ o.l)))) := by
  unfold dIns OT.sl
  simp only [hb, OT.blk, toTrs_trs]
  rw [if_pos ⟨trivial, hn⟩]
theorem dEq_ot {o o2 : OT} {b b2 : Nat} {hf : Nat → Option Blk} (hb : hf b = some o.blk) (hb2 : hf b2 = some o2.blk) (hn : o.l.length ≤ 1000000) : dEqT [o.sl b, o2.sl b2] hf = some (some (o.l = o2.l), .c (.val (.bool true))) := by
  unfold dEqT OT.sl
  simp only [hb, hb2, OT.blk, toTrs_trs]
  rw [if_pos ⟨⟨trivial, trivial⟩, hn⟩]
theorem dKe2 {n0 : Nat} {args : List SV} {hf : Nat → Option Blk} {o : OT} {b : Nat} {x y z w : Int} {hx : IR x} {hy : IR y} {hz : IR z} {hw : IR w} (ha : args = [o.sl b, .c (.int x hx), .c (.int y hy), .c (.int z hz), .c (.int w hw)]) (hb : hf b = some o.blk) (hn : o.l.length ≤ 1000000) :
    ({ T := EKe.T, un := EKe.un, D := EKe.D, O := EKe.O, n0 := n0, ord := EKe.ord } : Env).D 27 args hf = some (none, .c (.val (.bool (insV ⟨x, y, z, w, 1, 0, 0, hx, hy, hz, hw, by decide, by decide, by decide⟩ o.l)))) := by
  subst ha
  exact dIns_ot hb hn
theorem dKe3 {n0 : Nat} {args : List SV} {hf : Nat → Option Blk} {o o2 : OT} {b b2 : Nat} (ha : args = [o.sl b, o2.sl b2]) (hb : hf b = some o.blk) (hb2 : hf b2 = some o2.blk) (hn : o.l.length ≤ 1000000) :
    ({ T := EKe.T, un := EKe.un, D := EKe.D, O := EKe.O, n0 := n0, ord := EKe.ord } : Env).D 32 args hf = some (some (o.l = o2.l), .c (.val (.bool true))) := by
  subst ha
  exact dEq_ot hb hb2 hn
theorem cnt_l {R : RI} {l m : List TR} (h : l = m) : ((cntK R m m.length : Nat) : Int) = ((cntK R l l.length : Nat) : Int) := by subst h; rfl
theorem ins_l {R : RI} {l m : List TR} (h : l = m) : (insV R m == insV R l) = true := by subst h; simp
set_option maxHeartbeats 16000000 in
theorem csLawKe : CSp Tryz.prog 10 cLaw := csp_of (envN_ok baseLL_ok rdKe_ok 0 fun _ => false) mixed (hnew_ok lawC_ok (inl_ok (envN_ok baseLL_ok rdKe_ok 20 fun _ => false) mixed noF_ok 0)) ⟨Tryz.func10, by kernel_rfl, by kernel_rfl⟩ fun args ros K hc => by
  obtain ⟨⟨r, b, v, ty, L, rfl, rfl, hv⟩, hc⟩ := hc
  rcases hv with ⟨nl, len, cap, hl, rfl, hL⟩ | ⟨a, cap, rfl, hL0, _⟩
  · refine ⟨fun ρ ρ' e => ?_, ?_⟩
    · have := e 0 (Nat.zero_lt_one)
      simp only [List.map, SV.den, C.den, C.cells, this]
      rfl
    conv => whnf
    refine ⟨⟨intsC_pure L, trivial⟩, .inl ⟨_, _, _, _, _, _, L, rfl, rfl, hL, fun o ho => ?_⟩⟩
    have hn : o.l.length ≤ 1000000 := by rw [ho]; exact Nat.le_trans (shpL_len _ _ _) (by decide)
    conv => whnf
    refine ⟨⟨intsC_pure L, trivial⟩, .inl ⟨_, _, _, _, _, _, L, rfl, rfl, hL, fun o2 ho2 => ?_⟩⟩
    have hn2 : o2.l.length ≤ 1000000 := by rw [ho2]; exact Nat.le_trans (shpL_len _ _ _) (by decide)
    have h12 : o.l = o2.l := ho.trans ho2.symm
    conv => whnf
    conv =>
      arg 2
      tactic' =>
        apply dKe0 (hn := hn) (o := o) (b := 2) (R := nearI r) (ha := ?haw14) (hb := ?hbw14)
        case haw14 => rfl
        case hbw14 => rfl
    conv => whnf
    conv =>
      arg 2
      tactic' =>
        apply dKe1 (hn := hn) (o := o) (b := 2) (R := nearI r) (ha := ?haw15) (hb := ?hbw15)
        case haw15 => rfl
        case hbw15 => rfl
    conv => whnf
    conv =>
      arg 2
      tactic' =>
        apply dKe2 (hn := hn) (o := o) (b := 2) (ha := ?haw16) (hb := ?hbw16)
        case haw16 => rfl
        case hbw16 => rfl
    conv => whnf
    conv =>
      arg 2
      tactic' =>
        apply dKe0 (hn := hn) (o := o) (b := 2) (R := nearI r) (ha := ?haw17) (hb := ?hbw17)
        case haw17 => rfl
        case hbw17 => rfl
    conv => whnf
    conv =>
      arg 2
      tactic' =>
        apply dKe3 (hn := hn) (o := o) (o2 := o2) (b := 2) (b2 := 3) (ha := ?haw18) (hb := ?hbw18) (hb2 := ?hb2w18)
        case haw18 => rfl
        case hbw18 => rfl
        case hb2w18 => rfl
    conv => whnf
    refine ⟨h12, ?_⟩
    conv => whnf
    refine bcase_intro (fun _ => ?_) (fun h1 => absurd h1 (by simp))
    conv => whnf
    refine bcase_intro (fun _ => ?_) (fun h1 => absurd h1 (by simp))
    conv => whnf
    conv =>
      arg 2
      tactic' =>
        apply dKe1 (hn := hn2) (o := o2) (b := 3) (R := nearI r) (ha := ?haw19) (hb := ?hbw19)
        case haw19 => rfl
        case hbw19 => rfl
    conv => whnf
    refine bcase_intro (fun _ => ?_) (fun h1 => absurd (h1.symm.trans (decide_eq_true (cnt_l h12))) (by decide))
    conv => whnf
    conv =>
      arg 2
      tactic' =>
        apply dKe2 (hn := hn2) (o := o2) (b := 3) (ha := ?haw20) (hb := ?hbw20)
        case haw20 => rfl
        case hbw20 => rfl
    conv => whnf
    refine ⟨[0], [0], fun vs3 => ?_⟩
    conv => whnf
    refine ⟨intsC_pure L, ?_⟩
    conv => whnf
    refine ⟨_, [], rfl, ⟨⟨rfl, rfl, rfl, fun _ => rfl⟩, trivial⟩, trivial, _, fun ρ => ?_, hc⟩
    exact sbool_e (ins_l h12) ρ
  · refine ⟨fun ρ ρ' _ => rfl, ?_⟩
    conv => whnf
    refine ⟨trivial, .inr ⟨_, _, _, rfl, rfl, fun o ho => ?_⟩⟩
    have hn : o.l.length ≤ 1000000 := by rw [ho]; exact Nat.le_trans (shpL_len _ _ _) (by decide)
    conv => whnf
    refine ⟨trivial, .inr ⟨_, _, _, rfl, rfl, fun o2 ho2 => ?_⟩⟩
    have hn2 : o2.l.length ≤ 1000000 := by rw [ho2]; exact Nat.le_trans (shpL_len _ _ _) (by decide)
    have h12 : o.l = o2.l := ho.trans ho2.symm
    conv => whnf
    conv =>
      arg 2
      tactic' =>
        apply dKe0 (hn := hn) (o := o) (b := 2) (R := nearI r) (ha := ?haw14) (hb := ?hbw14)
        case haw14 => rfl
        case hbw14 => rfl
    conv => whnf
    conv =>
      arg 2
      tactic' =>
        apply dKe1 (hn := hn) (o := o) (b := 2) (R := nearI r) (ha := ?haw15) (hb := ?hbw15)
        case haw15 => rfl
        case hbw15 => rfl
    conv => whnf
    conv =>
      arg 2
      tactic' =>
        apply dKe2 (hn := hn) (o := o) (b := 2) (ha := ?haw16) (hb := ?hbw16)
        case haw16 => rfl
        case hbw16 => rfl
    conv => whnf
    conv =>
      arg 2
      tactic' =>
        apply dKe0 (hn := hn) (o := o) (b := 2) (R := nearI r) (ha := ?haw17) (hb := ?hbw17)
        case haw17 => rfl
        case hbw17 => rfl
    conv => whnf
    conv =>
      arg 2
      tactic' =>
        apply dKe3 (hn := hn) (o := o) (o2 := o2) (b := 2) (b2 := 3) (ha := ?haw18) (hb := ?hbw18) (hb2 := ?hb2w18)
        case haw18 => rfl
        case hbw18 => rfl
        case hb2w18 => rfl
    conv => whnf
    refine ⟨h12, ?_⟩
    conv => whnf
    refine bcase_intro (fun _ => ?_) (fun h1 => absurd h1 (by simp))
    conv => whnf
    refine bcase_intro (fun _ => ?_) (fun h1 => absurd h1 (by simp))
    conv => whnf
    conv =>
      arg 2
      tactic' =>
        apply dKe1 (hn := hn2) (o := o2) (b := 3) (R := nearI r) (ha := ?haw19) (hb := ?hbw19)
        case haw19 => rfl
        case hbw19 => rfl
    conv => whnf
    refine bcase_intro (fun _ => ?_) (fun h1 => absurd (h1.symm.trans (decide_eq_true (cnt_l h12))) (by decide))
    conv => whnf
    conv =>
      arg 2
      tactic' =>
        apply dKe2 (hn := hn2) (o := o2) (b := 3) (ha := ?haw20) (hb := ?hbw20)
        case haw20 => rfl
        case hbw20 => rfl
    conv => whnf
    refine ⟨[0], [0], fun vs3 => ?_⟩
    conv => whnf
    refine ⟨intsC_pure L, ?_⟩
    conv => whnf
    refine ⟨_, [], rfl, ⟨⟨rfl, rfl, rfl, fun _ => rfl⟩, trivial⟩, trivial, _, fun ρ => ?_, hc⟩
    exact sbool_e (ins_l h12) ρ
end Go.Proofs.YtefgchmbdijjdaaGreatDoor
