/- law 10: number and sanity, by the reckoner. law 10: QuadricOf, by the reckoner. shape: cubes or hills, by the reckoner. law 10: QuadricAround, by the reckoner. law 10: QuadricValues, by the reckoner. Corners, and what they count: plain laws. Corners: an ordered list of points, by the reckoner. Corners, by the reckoner. law 10: QuadricPositive, by the reckoner. -/
import Derived.Test.YtapppahniablmaaDoorQua
import Derived.Test.YtapppahniablmaaDoorVxs
namespace Go.Proofs.YtapppahniablmaaDoor
open Go.RowKit
set_option maxRecDepth 100000

def dNum10l : Dn
  | [.c (.int n hn)] =>
    some (none, .agg [.wid 64 n (smI hn)])
  | _ => none
theorem spNum10l : SpOk Tryd.prog 17 dNum10l := sp_of2 (un := 20) (n := 0) ⟨Tryd.func17, by kernel_rfl, by kernel_rfl⟩ base8_ok noF_ok fun args p v hd => by
  unfold dNum10l at hd
  split at hd
  · rename_i n hn
    cases hd
    refine ⟨[.c (.int n hn)], fun _ => rfl, fun _ _ => rfl, fun _ _ => rfl, fun _ => ?_⟩
    conv => whnf
    exact fun _ => rfl
  · cases hd
theorem readers_ok : AllR [(23, dAround)] := .cons spAroundQ .nil
def base9 : List (FuncId × Dn) := (17, dNum10l) :: base8
theorem base9_ok : AllOk base9 := .cons spNum10l <| base8_ok
def dSanity : Dn
  | [] => some (none, .c (.val (.bool true)))
  | _ => none
theorem spSanity : SpOk Tryd.prog 11 dSanity := sp_of3 (un := 20) (n := 0) ⟨Tryd.func11, by kernel_rfl, by kernel_rfl⟩ base9_ok readers_ok noF_ok fun args p v hd => by
  unfold dSanity at hd
  split at hd
  · cases hd
    refine ⟨[], fun _ => rfl, fun _ _ => rfl, fun _ _ => rfl, fun _ => ?_⟩
    conv => whnf
    exact fun _ => rfl
  · cases hd
end Go.Proofs.YtapppahniablmaaDoor

namespace Go.Proofs.YtapppahniablmaaDoor
open Go.RowKit
set_option maxRecDepth 100000

def base10 : List (FuncId × Dn) := (11, dSanity) :: base9
theorem base10_ok : AllOk base10 := .cons spSanity <| base9_ok
theorem bcase_true {b : Bool} {X Y : Prop} (h : b = true) (hx : X) : bcase b X Y := bcase_intro (fun _ => hx) (fun h1 => by rw [h] at h1; cases h1)
section
variable (x1 y1 z1 x2 y2 z2 x3 y3 z3 : Int)
theorem plA_cyc : plA x2 y2 z2 x3 y3 z3 x1 y1 z1 = plA x1 y1 z1 x2 y2 z2 x3 y3 z3 := by unfold plA; grind
theorem plA_swap : plA x2 y2 z2 x1 y1 z1 x3 y3 z3 = -plA x1 y1 z1 x2 y2 z2 x3 y3 z3 := by unfold plA; grind
theorem plA_aab : plA x1 y1 z1 x1 y1 z1 x2 y2 z2 = 0 := by unfold plA; grind
theorem plB_cyc : plB x2 y2 z2 x3 y3 z3 x1 y1 z1 = plB x1 y1 z1 x2 y2 z2 x3 y3 z3 := by unfold plB; grind
theorem plB_swap : plB x2 y2 z2 x1 y1 z1 x3 y3 z3 = -plB x1 y1 z1 x2 y2 z2 x3 y3 z3 := by unfold plB; grind
theorem plB_aab : plB x1 y1 z1 x1 y1 z1 x2 y2 z2 = 0 := by unfold plB; grind
theorem plC_cyc : plC x2 y2 z2 x3 y3 z3 x1 y1 z1 = plC x1 y1 z1 x2 y2 z2 x3 y3 z3 := by unfold plC; grind
theorem plC_swap : plC x2 y2 z2 x1 y1 z1 x3 y3 z3 = -plC x1 y1 z1 x2 y2 z2 x3 y3 z3 := by unfold plC; grind
theorem plC_aab : plC x1 y1 z1 x1 y1 z1 x2 y2 z2 = 0 := by unfold plC; grind
theorem plD_cyc : plD x2 y2 z2 x3 y3 z3 x1 y1 z1 = plD x1 y1 z1 x2 y2 z2 x3 y3 z3 := by unfold plD plA plB plC; grind
theorem plD_swap : plD x2 y2 z2 x1 y1 z1 x3 y3 z3 = -plD x1 y1 z1 x2 y2 z2 x3 y3 z3 := by unfold plD plA plB plC; grind
theorem plD_aab : plD x1 y1 z1 x1 y1 z1 x2 y2 z2 = 0 := by unfold plD plA plB plC; grind
end
def dLawOf : Dn
  | [.agg [.int _ _, .int _ _, .int _ _], .agg [.int _ _, .int _ _, .int _ _], .agg [.int _ _, .int _ _, .int _ _]] =>
    some (none, .c (.val (.bool true)))
  | _ => none
theorem spLawOf : SpOk Tryd.prog 3 dLawOf := sp_of2 (un := 20) (n := 0) ⟨Tryd.func3, by kernel_rfl, by kernel_rfl⟩ base10_ok noF_ok fun args p v hd => by
  unfold dLawOf at hd
  split at hd
  · rename_i x1 hx1 y1 hy1 z1 hz1 x2 hx2 y2 hy2 z2 hz2 x3 hx3 y3 hy3 z3 hz3
    cases hd
    refine ⟨[.agg [.int x1 hx1, .int y1 hy1, .int z1 hz1], .agg [.int x2 hx2, .int y2 hy2, .int z2 hz2], .agg [.int x3 hx3, .int y3 hy3, .int z3 hz3]], fun _ => rfl, fun _ _ => rfl, fun _ _ => rfl, fun _ => ?_⟩
    conv => whnf
    refine bcase_true ?_ ?_
    · simp only [cond_true, Bool.and_self, decide_true]
    conv => whnf
    refine bcase_true ?_ ?_
    · simp only [cond_true, show plA x2 y2 z2 x3 y3 z3 x1 y1 z1 = _ from plA_cyc x1 y1 z1 x2 y2 z2 x3 y3 z3, show plB x2 y2 z2 x3 y3 z3 x1 y1 z1 = _ from plB_cyc x1 y1 z1 x2 y2 z2 x3 y3 z3, show plC x2 y2 z2 x3 y3 z3 x1 y1 z1 = _ from plC_cyc x1 y1 z1 x2 y2 z2 x3 y3 z3, show plD x2 y2 z2 x3 y3 z3 x1 y1 z1 = _ from plD_cyc x1 y1 z1 x2 y2 z2 x3 y3 z3, Bool.and_self, decide_true]
    conv => whnf
    refine bcase_true ?_ ?_
    · simp only [cond_true, show plA x2 y2 z2 x1 y1 z1 x3 y3 z3 = _ from plA_swap x1 y1 z1 x2 y2 z2 x3 y3 z3, show plB x2 y2 z2 x1 y1 z1 x3 y3 z3 = _ from plB_swap x1 y1 z1 x2 y2 z2 x3 y3 z3, show plC x2 y2 z2 x1 y1 z1 x3 y3 z3 = _ from plC_swap x1 y1 z1 x2 y2 z2 x3 y3 z3, show plD x2 y2 z2 x1 y1 z1 x3 y3 z3 = _ from plD_swap x1 y1 z1 x2 y2 z2 x3 y3 z3, Int.neg_mul_neg, Bool.and_self, decide_true]
    conv => whnf
    intro ρ
    simp only [cond_true, show plA x1 y1 z1 x1 y1 z1 x2 y2 z2 = _ from plA_aab x1 y1 z1 x2 y2 z2, show plB x1 y1 z1 x1 y1 z1 x2 y2 z2 = _ from plB_aab x1 y1 z1 x2 y2 z2, show plC x1 y1 z1 x1 y1 z1 x2 y2 z2 = _ from plC_aab x1 y1 z1 x2 y2 z2, show plD x1 y1 z1 x1 y1 z1 x2 y2 z2 = _ from plD_aab x1 y1 z1 x2 y2 z2, Int.mul_zero, decide_true, Bool.and_self]
    rfl
  · cases hd
end Go.Proofs.YtapppahniablmaaDoor

namespace Go.Proofs.YtapppahniablmaaDoor
open Go.RowKit
set_option maxRecDepth 100000

/-- a list of numbers of the caller's, or an empty one -/
def okHs (v : SV) (ty : TypeId) (L : List ZI) : Prop := (∃ nl len cap h, v = .c (.sli nl 0 0 len cap h) ∧ len ≤ L.length) ∨ (∃ a cap, v = .c (.val (.slice a 0 cap)) ∧ L = [] ∧ ty = 0)
def okShape (args : List SV) (ros : List Blk) : Prop := ∃ b nl len cap h ty L, args = [.c (.val (.int .u32 b)), .c (.sli nl 0 0 len cap h)] ∧ ros = [⟨ty, true, intsC L, 0⟩] ∧ len ≤ L.length
/-- an empty list of heights -/
def okShape0 (args : List SV) (ros : List Blk) : Prop := ∃ b a cap, args = [.c (.val (.int .u32 b)), .c (.val (.slice a 0 cap))] ∧ ros = []
def cShape : NewC := fun args ros K => (okShape args ros ∧ ∀ o : OT, o.l.length ≤ 324 → K (o.sl 1) [o.blk]) ∨ (okShape0 args ros ∧ ∀ o : OT, o.l.length ≤ 324 → K (o.sl 0) [o.blk])
def makeC : List (FuncId × NewC) := [(46, cHills), (47, cSome 324 okVox)]
theorem makeC_ok : AllC Tryd.prog makeC := .cons csHills (.cons csVox .nil)
theorem min30 (n : Nat) : minI (n : Int) 30 = ((min n 30 : Nat) : Int) := by unfold minI; split <;> omega
theorem sliOk_le {nl : Bool} {len cap k : Nat} (h : SliOk nl len cap) (hk : k ≤ len) : SliOk nl k cap := ⟨Nat.le_trans hk h.1, h.2.1, h.2.2⟩
set_option maxHeartbeats 4000000 in
theorem csShape : CSp Tryd.prog 22 cShape := csp_of (env_ok base_ok 0) mixed (hnew_ok makeC_ok (inl_ok (env_ok base_ok 20) mixed modF_ok 1)) ⟨Tryd.func22, by kernel_rfl, by kernel_rfl⟩ fun args ros K hc => by
  rcases hc with ⟨⟨b, nl, len, cap, hl, ty, L, rfl, rfl, hL⟩, hc⟩ | ⟨⟨b, a, cap, rfl, rfl⟩, hc⟩
  · refine ⟨fun ρ ρ' e => ?_, ?_⟩
    · have := e 0 (Nat.zero_lt_one)
      simp only [List.map, SV.den, C.den, C.cells, this]
    conv => whnf
    refine bcase_intro (fun _ => ?_) (fun _ => ?_)
    · conv => whnf
      rw [eff_slice_hi (h2 := sliOk_le hl (Nat.min_le_left len 30)) (ho := ?hos) (hT := ?hTs) (hx := ?hxs) (hk := ?hks) (hlt := ?hlts)]
      case hos => rfl
      case hTs => rfl
      case hxs => rfl
      case hks => exact cint (min30 len) (sliOk_le hl (Nat.min_le_left len 30)).ir
      case hlts => exact Nat.le_trans (Nat.min_le_left len 30) hl.1
      conv => whnf
      refine ⟨⟨intsC_pure L, trivial⟩, ⟨_, _, _, _, _, _, _, L, rfl, isInt_mk, isInt_mk, rfl, Nat.le_trans (Nat.min_le_left len 30) hL⟩, fun o ho => ?_⟩
      conv => whnf
      refine ⟨[0, 1], [0, 1], fun vs => ?_⟩
      conv => whnf
      refine ⟨intsC_pure L, o.new.1, ?_⟩
      conv => whnf
      exact ⟨_, [o.blk], rfl, ⟨⟨rfl, rfl, rfl, fun _ => rfl⟩, ⟨rfl, rfl, rfl, fun _ => rfl⟩, trivial⟩, ⟨o.new, trivial⟩, o.sl 1, fun _ => rfl, hc o (by omega)⟩
    · conv => whnf
      refine ⟨fun _ _ => rfl, ?_⟩
      conv => whnf
      refine ⟨trivial, ⟨_, _, _, rfl, isInt_mk, isInt_mk, isPt_mk⟩, rfl, fun o ho => ?_⟩
      conv => whnf
      refine ⟨[0, 1], [0, 1], fun vs => ?_⟩
      conv => whnf
      refine ⟨intsC_pure L, o.new.1, ?_⟩
      conv => whnf
      exact ⟨_, [o.blk], rfl, ⟨⟨rfl, rfl, rfl, fun _ => rfl⟩, ⟨rfl, rfl, rfl, fun _ => rfl⟩, trivial⟩, ⟨o.new, trivial⟩, o.sl 1, fun _ => rfl, hc o (by omega)⟩
  · refine ⟨fun ρ ρ' _ => rfl, ?_⟩
    conv => whnf
    refine ⟨fun _ _ => rfl, ?_⟩
    conv => whnf
    refine ⟨trivial, ⟨_, _, _, rfl, isInt_mk, isInt_mk, isPt_mk⟩, rfl, fun o ho => ?_⟩
    conv => whnf
    refine ⟨[0], [0], fun vs => ?_⟩
    conv => whnf
    refine ⟨o.new.1, ?_⟩
    conv => whnf
    exact ⟨_, [o.blk], rfl, ⟨⟨rfl, rfl, rfl, fun _ => rfl⟩, trivial⟩, ⟨o.new, trivial⟩, o.sl 0, fun _ => rfl, hc o (by omega)⟩
end Go.Proofs.YtapppahniablmaaDoor

namespace Go.Proofs.YtapppahniablmaaDoor
open Go.RowKit
set_option maxRecDepth 100000

theorem readers2_ok : AllR [(23, dAround), (24, dAround)] := .cons spAroundQ (.cons spAround10 .nil)
def lawC : List (FuncId × NewC) := [(22, cShape)]
theorem lawC_ok : AllC Tryd.prog lawC := .cons csShape .nil
def okLaw (args : List SV) (ros : List Blk) : Prop := ∃ b v ty L p, args = [.c (.val (.int .u32 b)), v, .agg (ptC p)] ∧ ros = [⟨ty, true, intsC L, 0⟩] ∧ okHs v ty L
/-- a law: true for all arguments -/
def cLaw : NewC := fun args ros K => okLaw args ros ∧ K (.c (.val (.bool true))) []
theorem eff_index_arr {T : TypeId → Option TI} {op : Op} {ev : Operand → SV} {hp : Nat → Option Blk} {t : TypeId} {x i : Operand} (ho : op = .indexAddr t x i) {sz : Nat} {ag ea : Bool} {z : List C} {m esz : Nat} {eq : Option (List K)} (hT : T t = some ⟨sz, ag, z, .array m esz ea, eq⟩)
    {b off : Nat} (hx : ev x = .c (.ptr b off)) {k : Nat} {hi : IR k} (hk : ev i = .c (.int k hi)) (hlt : k < m) : eff T op ev hp = some (.val (.c (.ptr b (off + k * esz)))) := by
  subst ho
  simp only [eff, hT, hx, hk]
  show (if k < m then _ else _) = _
  rw [if_pos hlt]
theorem dAround_ot {o : OT} {b : Nat} {p : PT} {hf : Nat → Option Blk} (hb : hf b = some o.blk) (hn : o.l.length ≤ 1000000) : dAround [o.sl b, .agg (ptC p)] hf = some (none, .agg (aroC o.l p hn)) := by
  unfold dAround OT.sl ptC
  simp only [hb, OT.blk, toTrs_trs]
  rw [dif_pos ⟨trivial, hn⟩]
abbrev readers2 : List (FuncId × Dr) := [(23, dAround), (24, dAround)]
theorem dq {n0 : Nat} {args : List SV} {hf : Nat → Option Blk} {o : OT} {b : Nat} {p : PT} (ha : args = [o.sl b, .agg (ptC p)]) (hb : hf b = some o.blk) (hn : o.l.length ≤ 1000000) :
    ({ T := (envR 0 base10 readers2).T, un := (envR 0 base10 readers2).un, D := (envR 0 base10 readers2).D, O := (envR 0 base10 readers2).O, n0 := n0 } : Env).D 23 args hf = some (none, .agg (aroC o.l p hn)) := by
  subst ha
  exact dAround_ot hb hn
theorem dr {n0 : Nat} {args : List SV} {hf : Nat → Option Blk} {o : OT} {b : Nat} {p : PT} (ha : args = [o.sl b, .agg (ptC p)]) (hb : hf b = some o.blk) (hn : o.l.length ≤ 1000000) :
    ({ T := (envR 0 base10 readers2).T, un := (envR 0 base10 readers2).un, D := (envR 0 base10 readers2).D, O := (envR 0 base10 readers2).O, n0 := n0 } : Env).D 24 args hf = some (none, .agg (aroC o.l p hn)) := by
  subst ha
  exact dAround_ot hb hn

set_option maxHeartbeats 16000000 in
theorem csLawAround : CSp Tryd.prog 7 cLaw := csp_of (envR_ok base10_ok readers2_ok 0) mixed (hnew_ok lawC_ok (inl_ok (envR_ok base10_ok readers2_ok 20) mixed noF_ok 0)) ⟨Tryd.func7, by kernel_rfl, by kernel_rfl⟩ fun args ros K hc => by
  obtain ⟨⟨b, _, ty, L, p, rfl, rfl, hv⟩, hc⟩ := hc
  rcases hv with ⟨nl, len, cap, hl, rfl, hL⟩ | ⟨a, cap, rfl, rfl, rfl⟩
  · refine ⟨fun ρ ρ' e => ?_, ?_⟩
    · have := e 0 (Nat.zero_lt_one)
      simp only [List.map, SV.den, C.den, C.cells, this]
      rfl
    conv => whnf
    refine ⟨⟨intsC_pure L, trivial⟩, .inl ⟨⟨_, _, _, _, _, _, L, rfl, rfl, hL⟩, fun o ho => ?_⟩⟩
    conv => whnf
    have hn : o.l.length ≤ 1000000 := by omega
    refine loop_st (G := {k : Nat // k ≤ o.l.length} × (Nat → Value)) (fun g => [.c (.val (g.2 0)), .c (.val (g.2 1)), .c (.val (g.2 2)), .c (.val (g.2 3)), .c (.val (g.2 4)), .c (.ptr 1 0), .c (.val (g.2 6)), .c (.val (.bool true)), o.sl 2, .c (.val (g.2 9)), .c (.val (g.2 10)), .c (.val (g.2 11)), .c (.val (g.2 12)), .c (.val (g.2 13)), .c (.val (g.2 14)), o.sl 2, .c (.int (o.l.length : Nat) o.ok.ir), .c (.int (g.1.1 : Nat) (lt_ir o.ok g.1.2)), .c (.val (g.2 18)), .c (.val (g.2 19)), .c (.val (g.2 20)), .c (.val (g.2 21)), .c (.val (g.2 22)), .c (.val (g.2 23)), .c (.val (g.2 24)), .c (.val (g.2 25)), .c (.val (g.2 26)), .c (.val (g.2 27)), .c (.val (g.2 28)), .c (.val (g.2 29)), .c (.val (g.2 30)), .c (.val (g.2 31)), .c (.val (g.2 32)), .c (.val (g.2 33)), .c (.val (g.2 34)), .c (.val (g.2 35)), .c (.val (g.2 36)), .c (.val (g.2 37)), .c (.val (g.2 38)), .c (.val (g.2 39)), .c (.val (g.2 40)), .c (.val (g.2 41)), .c (.val (g.2 42)), .c (.val (g.2 43)), .c (.val (g.2 44)), .c (.val (g.2 45)), .c (.val (g.2 46)), .c (.val (g.2 47)), .c (.val (g.2 48)), .c (.val (g.2 49)), .c (.val (g.2 50)), .c (.val (g.2 51)), .c (.val (g.2 52)), .c (.val (g.2 53)), .c (.val (g.2 54)), .c (.val (g.2 55)), .c (.val (g.2 56))]) (fun _ => [⟨ty, true, intsC L, 0⟩, ⟨23, false, ptC p, 0⟩, o.blk]) (fun g => o.l.length - g.1.1) ?_ ?_
    · refine ⟨[0, 1, 2], [5, 7, 8, 15, 16, 17], [0, 2], fun vs => ?_⟩
      conv => whnf
      refine ⟨intsC_pure L, o.new.1, ?_⟩
      conv => whnf
      refine ⟨_, _, ?_, ?_, (⟨0, Nat.zero_le _⟩, vs), rfl, rfl⟩
      · exact ⟨fun _ => rfl, fun _ => rfl, fun _ => rfl, fun _ => rfl, fun _ => rfl, fun _ => rfl, fun _ => rfl, fun _ => rfl, fun _ => rfl, fun _ => rfl, fun _ => rfl, fun _ => rfl, fun _ => rfl, fun _ => rfl, fun _ => rfl, fun _ => rfl, fun _ => rfl, fun _ => rfl, fun _ => rfl, fun _ => rfl, fun _ => rfl, fun _ => rfl, fun _ => rfl, fun _ => rfl, fun _ => rfl, fun _ => rfl, fun _ => rfl, fun _ => rfl, fun _ => rfl, fun _ => rfl, fun _ => rfl, fun _ => rfl, fun _ => rfl, fun _ => rfl, fun _ => rfl, fun _ => rfl, fun _ => rfl, fun _ => rfl, fun _ => rfl, fun _ => rfl, fun _ => rfl, fun _ => rfl, fun _ => rfl, fun _ => rfl, fun _ => rfl, fun _ => rfl, fun _ => rfl, fun _ => rfl, fun _ => rfl, fun _ => rfl, fun _ => rfl, fun _ => rfl, fun _ => rfl, fun _ => rfl, fun _ => rfl, fun _ => rfl, fun _ => rfl, trivial⟩
      · exact ⟨⟨rfl, rfl, rfl, fun _ => rfl⟩, ⟨rfl, rfl, rfl, fun _ => rfl⟩, ⟨rfl, rfl, rfl, fun _ => rfl⟩, trivial⟩
    · rintro ⟨⟨k, hk⟩, vs⟩
      conv => whnf
      refine bcase_intro (fun hlt => ?_) (fun hge => ?_)
      · have hlt : k < o.l.length := n_lt hlt
        conv => whnf
        rw [eff_index_sli (ho := ?hoi) (hT := ?hTi) (hx := ?hxi) (hk := ?hki) (hlt := ?hlti)]
        case hoi => rfl
        case hTi => rfl
        case hxi => rfl
        case hki => rfl
        case hlti => exact hlt
        conv => whnf
        rw [eff_load_sub (ho := ?hol) (hT := ?hTl) (hx := ?hxl) (hb := ?hbl) (hm := ?hml) (hv := ?hvl)]
        case hol => rfl
        case hTl => rfl
        case hxl => rfl
        case hbl => rfl
        case hml => exact (by rw [Nat.zero_add]; exact subC_trs o.l hlt : subC (trsC o.l) (0 + k * 9) 9 = some (trC o.l[k]))
        case hvl => rfl
        conv => whnf
        refine bcase_intro (fun h7 => ?_) (fun h7 => ?_)
        · have h3 : (k : Int).tmod 3 = (0 : Nat) ∨ (k : Int).tmod 3 = (1 : Nat) ∨ (k : Int).tmod 3 = (2 : Nat) := by have : (k : Int).tmod 3 = ((k % 3 : Nat) : Int) := rfl; omega
          rcases h3 with h3 | h3 | h3
          · conv => whnf
            rw [eff_index_arr (k := 0) (ho := ?hoa01) (hT := ?hTa01) (hx := ?hxa01) (hk := ?hka01) (hlt := ?hlta01)]
            case hoa01 => rfl
            case hTa01 => rfl
            case hxa01 => rfl
            case hka01 => exact cint h3 (by decide)
            case hlta01 => decide
            conv => whnf
            rw [dq (hn := hn) (o := o) (b := 2) (p := o.l[k].a) (ha := ?had01) (hb := ?hbd01)]
            case had01 => rfl
            case hbd01 => rfl
            conv => whnf
            rw [eff_index_arr (k := 0) (ho := ?hoa02) (hT := ?hTa02) (hx := ?hxa02) (hk := ?hka02) (hlt := ?hlta02)]
            case hoa02 => rfl
            case hTa02 => rfl
            case hxa02 => rfl
            case hka02 => exact cint h3 (by decide)
            case hlta02 => decide
            conv => whnf
            rw [dr (hn := hn) (o := o) (b := 2) (p := o.l[k].a) (ha := ?had02) (hb := ?hbd02)]
            case had02 => rfl
            case hbd02 => rfl
            conv => whnf
            refine bcase_intro (fun h => ?_) (fun _ => ?_)
            · exact absurd h (by simp)
            · conv => whnf
              refine ⟨[0, 1, 2], [5, 7, 8, 15, 16, 17], [0, 2], fun vs2 => ?_⟩
              conv => whnf
              refine ⟨intsC_pure L, o.new.1, ?_⟩
              conv => whnf
              refine ⟨_, _, ?_, ?_, (⟨k + 1, hlt⟩, vs2), (by omega : o.l.length - (k + 1) < o.l.length - k), rfl, rfl⟩
              · exact ⟨fun _ => rfl, fun _ => rfl, fun _ => rfl, fun _ => rfl, fun _ => rfl, fun _ => rfl, fun _ => rfl, fun _ => rfl, fun _ => rfl, fun _ => rfl, fun _ => rfl, fun _ => rfl, fun _ => rfl, fun _ => rfl, fun _ => rfl, fun _ => rfl, fun _ => rfl, sint_eq (wrap_add1 hlt o.ok.ir) _ _, fun _ => rfl, fun _ => rfl, fun _ => rfl, fun _ => rfl, fun _ => rfl, fun _ => rfl, fun _ => rfl, fun _ => rfl, fun _ => rfl, fun _ => rfl, fun _ => rfl, fun _ => rfl, fun _ => rfl, fun _ => rfl, fun _ => rfl, fun _ => rfl, fun _ => rfl, fun _ => rfl, fun _ => rfl, fun _ => rfl, fun _ => rfl, fun _ => rfl, fun _ => rfl, fun _ => rfl, fun _ => rfl, fun _ => rfl, fun _ => rfl, fun _ => rfl, fun _ => rfl, fun _ => rfl, fun _ => rfl, fun _ => rfl, fun _ => rfl, fun _ => rfl, fun _ => rfl, fun _ => rfl, fun _ => rfl, fun _ => rfl, fun _ => rfl, trivial⟩
              · exact ⟨⟨rfl, rfl, rfl, fun _ => rfl⟩, ⟨rfl, rfl, rfl, fun _ => rfl⟩, ⟨rfl, rfl, rfl, fun _ => rfl⟩, trivial⟩
          · conv => whnf
            rw [eff_index_arr (k := 1) (ho := ?hoa11) (hT := ?hTa11) (hx := ?hxa11) (hk := ?hka11) (hlt := ?hlta11)]
            case hoa11 => rfl
            case hTa11 => rfl
            case hxa11 => rfl
            case hka11 => exact cint h3 (by decide)
            case hlta11 => decide
            conv => whnf
            rw [dq (hn := hn) (o := o) (b := 2) (p := o.l[k].b) (ha := ?had11) (hb := ?hbd11)]
            case had11 => rfl
            case hbd11 => rfl
            conv => whnf
            rw [eff_index_arr (k := 1) (ho := ?hoa12) (hT := ?hTa12) (hx := ?hxa12) (hk := ?hka12) (hlt := ?hlta12)]
            case hoa12 => rfl
            case hTa12 => rfl
            case hxa12 => rfl
            case hka12 => exact cint h3 (by decide)
            case hlta12 => decide
            conv => whnf
            rw [dr (hn := hn) (o := o) (b := 2) (p := o.l[k].b) (ha := ?had12) (hb := ?hbd12)]
            case had12 => rfl
            case hbd12 => rfl
            conv => whnf
            refine bcase_intro (fun h => ?_) (fun _ => ?_)
            · exact absurd h (by simp)
            · conv => whnf
              refine ⟨[0, 1, 2], [5, 7, 8, 15, 16, 17], [0, 2], fun vs2 => ?_⟩
              conv => whnf
              refine ⟨intsC_pure L, o.new.1, ?_⟩
              conv => whnf
              refine ⟨_, _, ?_, ?_, (⟨k + 1, hlt⟩, vs2), (by omega : o.l.length - (k + 1) < o.l.length - k), rfl, rfl⟩
              · exact ⟨fun _ => rfl, fun _ => rfl, fun _ => rfl, fun _ => rfl, fun _ => rfl, fun _ => rfl, fun _ => rfl, fun _ => rfl, fun _ => rfl, fun _ => rfl, fun _ => rfl, fun _ => rfl, fun _ => rfl, fun _ => rfl, fun _ => rfl, fun _ => rfl, fun _ => rfl, sint_eq (wrap_add1 hlt o.ok.ir) _ _, fun _ => rfl, fun _ => rfl, fun _ => rfl, fun _ => rfl, fun _ => rfl, fun _ => rfl, fun _ => rfl, fun _ => rfl, fun _ => rfl, fun _ => rfl, fun _ => rfl, fun _ => rfl, fun _ => rfl, fun _ => rfl, fun _ => rfl, fun _ => rfl, fun _ => rfl, fun _ => rfl, fun _ => rfl, fun _ => rfl, fun _ => rfl, fun _ => rfl, fun _ => rfl, fun _ => rfl, fun _ => rfl, fun _ => rfl, fun _ => rfl, fun _ => rfl, fun _ => rfl, fun _ => rfl, fun _ => rfl, fun _ => rfl, fun _ => rfl, fun _ => rfl, fun _ => rfl, fun _ => rfl, fun _ => rfl, fun _ => rfl, fun _ => rfl, trivial⟩
              · exact ⟨⟨rfl, rfl, rfl, fun _ => rfl⟩, ⟨rfl, rfl, rfl, fun _ => rfl⟩, ⟨rfl, rfl, rfl, fun _ => rfl⟩, trivial⟩
          · conv => whnf
            rw [eff_index_arr (k := 2) (ho := ?hoa21) (hT := ?hTa21) (hx := ?hxa21) (hk := ?hka21) (hlt := ?hlta21)]
            case hoa21 => rfl
            case hTa21 => rfl
            case hxa21 => rfl
            case hka21 => exact cint h3 (by decide)
            case hlta21 => decide
            conv => whnf
            rw [dq (hn := hn) (o := o) (b := 2) (p := o.l[k].c) (ha := ?had21) (hb := ?hbd21)]
            case had21 => rfl
            case hbd21 => rfl
            conv => whnf
            rw [eff_index_arr (k := 2) (ho := ?hoa22) (hT := ?hTa22) (hx := ?hxa22) (hk := ?hka22) (hlt := ?hlta22)]
            case hoa22 => rfl
            case hTa22 => rfl
            case hxa22 => rfl
            case hka22 => exact cint h3 (by decide)
            case hlta22 => decide
            conv => whnf
            rw [dr (hn := hn) (o := o) (b := 2) (p := o.l[k].c) (ha := ?had22) (hb := ?hbd22)]
            case had22 => rfl
            case hbd22 => rfl
            conv => whnf
            refine bcase_intro (fun h => ?_) (fun _ => ?_)
            · exact absurd h (by simp)
            · conv => whnf
              refine ⟨[0, 1, 2], [5, 7, 8, 15, 16, 17], [0, 2], fun vs2 => ?_⟩
              conv => whnf
              refine ⟨intsC_pure L, o.new.1, ?_⟩
              conv => whnf
              refine ⟨_, _, ?_, ?_, (⟨k + 1, hlt⟩, vs2), (by omega : o.l.length - (k + 1) < o.l.length - k), rfl, rfl⟩
              · exact ⟨fun _ => rfl, fun _ => rfl, fun _ => rfl, fun _ => rfl, fun _ => rfl, fun _ => rfl, fun _ => rfl, fun _ => rfl, fun _ => rfl, fun _ => rfl, fun _ => rfl, fun _ => rfl, fun _ => rfl, fun _ => rfl, fun _ => rfl, fun _ => rfl, fun _ => rfl, sint_eq (wrap_add1 hlt o.ok.ir) _ _, fun _ => rfl, fun _ => rfl, fun _ => rfl, fun _ => rfl, fun _ => rfl, fun _ => rfl, fun _ => rfl, fun _ => rfl, fun _ => rfl, fun _ => rfl, fun _ => rfl, fun _ => rfl, fun _ => rfl, fun _ => rfl, fun _ => rfl, fun _ => rfl, fun _ => rfl, fun _ => rfl, fun _ => rfl, fun _ => rfl, fun _ => rfl, fun _ => rfl, fun _ => rfl, fun _ => rfl, fun _ => rfl, fun _ => rfl, fun _ => rfl, fun _ => rfl, fun _ => rfl, fun _ => rfl, fun _ => rfl, fun _ => rfl, fun _ => rfl, fun _ => rfl, fun _ => rfl, fun _ => rfl, fun _ => rfl, fun _ => rfl, fun _ => rfl, trivial⟩
              · exact ⟨⟨rfl, rfl, rfl, fun _ => rfl⟩, ⟨rfl, rfl, rfl, fun _ => rfl⟩, ⟨rfl, rfl, rfl, fun _ => rfl⟩, trivial⟩
        · conv => whnf
          refine ⟨[0, 1, 2], [5, 7, 8, 15, 16, 17], [0, 2], fun vs2 => ?_⟩
          conv => whnf
          refine ⟨intsC_pure L, o.new.1, ?_⟩
          conv => whnf
          refine ⟨_, _, ?_, ?_, (⟨k + 1, hlt⟩, vs2), (by omega : o.l.length - (k + 1) < o.l.length - k), rfl, rfl⟩
          · exact ⟨fun _ => rfl, fun _ => rfl, fun _ => rfl, fun _ => rfl, fun _ => rfl, fun _ => rfl, fun _ => rfl, fun _ => rfl, fun _ => rfl, fun _ => rfl, fun _ => rfl, fun _ => rfl, fun _ => rfl, fun _ => rfl, fun _ => rfl, fun _ => rfl, fun _ => rfl, sint_eq (wrap_add1 hlt o.ok.ir) _ _, fun _ => rfl, fun _ => rfl, fun _ => rfl, fun _ => rfl, fun _ => rfl, fun _ => rfl, fun _ => rfl, fun _ => rfl, fun _ => rfl, fun _ => rfl, fun _ => rfl, fun _ => rfl, fun _ => rfl, fun _ => rfl, fun _ => rfl, fun _ => rfl, fun _ => rfl, fun _ => rfl, fun _ => rfl, fun _ => rfl, fun _ => rfl, fun _ => rfl, fun _ => rfl, fun _ => rfl, fun _ => rfl, fun _ => rfl, fun _ => rfl, fun _ => rfl, fun _ => rfl, fun _ => rfl, fun _ => rfl, fun _ => rfl, fun _ => rfl, fun _ => rfl, fun _ => rfl, fun _ => rfl, fun _ => rfl, fun _ => rfl, fun _ => rfl, trivial⟩
          · exact ⟨⟨rfl, rfl, rfl, fun _ => rfl⟩, ⟨rfl, rfl, rfl, fun _ => rfl⟩, ⟨rfl, rfl, rfl, fun _ => rfl⟩, trivial⟩
      · conv => whnf
        rw [dq (hn := hn) (o := o) (b := 2) (p := p) (ha := ?haz1) (hb := ?hbz1)]
        case haz1 => rfl
        case hbz1 => rfl
        conv => whnf
        rw [dr (hn := hn) (o := o) (b := 2) (p := p) (ha := ?haz2) (hb := ?hbz2)]
        case haz2 => rfl
        case hbz2 => rfl
        conv => whnf
        refine bcase_true (by simp) ?_
        conv => whnf
        refine ⟨[0], [0], fun vs3 => ?_⟩
        conv => whnf
        refine ⟨intsC_pure L, ?_⟩
        conv => whnf
        refine ⟨_, [], rfl, ⟨⟨rfl, rfl, rfl, fun _ => rfl⟩, trivial⟩, trivial, _, fun ρ => ?_, hc⟩
        simp only [cond_true, decide_true, Bool.and_self]
  · refine ⟨fun ρ ρ' _ => rfl, ?_⟩
    conv => whnf
    refine ⟨trivial, .inr ⟨⟨_, _, _, rfl, rfl⟩, fun o ho => ?_⟩⟩
    conv => whnf
    have hn : o.l.length ≤ 1000000 := by omega
    refine loop_st (G := {k : Nat // k ≤ o.l.length} × (Nat → Value)) (fun g => [.c (.val (g.2 0)), .c (.val (g.2 1)), .c (.val (g.2 2)), .c (.val (g.2 3)), .c (.val (g.2 4)), .c (.ptr 1 0), .c (.val (g.2 6)), .c (.val (.bool true)), o.sl 2, .c (.val (g.2 9)), .c (.val (g.2 10)), .c (.val (g.2 11)), .c (.val (g.2 12)), .c (.val (g.2 13)), .c (.val (g.2 14)), o.sl 2, .c (.int (o.l.length : Nat) o.ok.ir), .c (.int (g.1.1 : Nat) (lt_ir o.ok g.1.2)), .c (.val (g.2 18)), .c (.val (g.2 19)), .c (.val (g.2 20)), .c (.val (g.2 21)), .c (.val (g.2 22)), .c (.val (g.2 23)), .c (.val (g.2 24)), .c (.val (g.2 25)), .c (.val (g.2 26)), .c (.val (g.2 27)), .c (.val (g.2 28)), .c (.val (g.2 29)), .c (.val (g.2 30)), .c (.val (g.2 31)), .c (.val (g.2 32)), .c (.val (g.2 33)), .c (.val (g.2 34)), .c (.val (g.2 35)), .c (.val (g.2 36)), .c (.val (g.2 37)), .c (.val (g.2 38)), .c (.val (g.2 39)), .c (.val (g.2 40)), .c (.val (g.2 41)), .c (.val (g.2 42)), .c (.val (g.2 43)), .c (.val (g.2 44)), .c (.val (g.2 45)), .c (.val (g.2 46)), .c (.val (g.2 47)), .c (.val (g.2 48)), .c (.val (g.2 49)), .c (.val (g.2 50)), .c (.val (g.2 51)), .c (.val (g.2 52)), .c (.val (g.2 53)), .c (.val (g.2 54)), .c (.val (g.2 55)), .c (.val (g.2 56))]) (fun _ => [⟨0, true, intsC [], 0⟩, ⟨23, false, ptC p, 0⟩, o.blk]) (fun g => o.l.length - g.1.1) ?_ ?_
    · refine ⟨[0, 1, 2], [5, 7, 8, 15, 16, 17], [0, 2], fun vs => ?_⟩
      conv => whnf
      refine ⟨intsC_pure [], o.new.1, ?_⟩
      conv => whnf
      refine ⟨_, _, ?_, ?_, (⟨0, Nat.zero_le _⟩, vs), rfl, rfl⟩
      · exact ⟨fun _ => rfl, fun _ => rfl, fun _ => rfl, fun _ => rfl, fun _ => rfl, fun _ => rfl, fun _ => rfl, fun _ => rfl, fun _ => rfl, fun _ => rfl, fun _ => rfl, fun _ => rfl, fun _ => rfl, fun _ => rfl, fun _ => rfl, fun _ => rfl, fun _ => rfl, fun _ => rfl, fun _ => rfl, fun _ => rfl, fun _ => rfl, fun _ => rfl, fun _ => rfl, fun _ => rfl, fun _ => rfl, fun _ => rfl, fun _ => rfl, fun _ => rfl, fun _ => rfl, fun _ => rfl, fun _ => rfl, fun _ => rfl, fun _ => rfl, fun _ => rfl, fun _ => rfl, fun _ => rfl, fun _ => rfl, fun _ => rfl, fun _ => rfl, fun _ => rfl, fun _ => rfl, fun _ => rfl, fun _ => rfl, fun _ => rfl, fun _ => rfl, fun _ => rfl, fun _ => rfl, fun _ => rfl, fun _ => rfl, fun _ => rfl, fun _ => rfl, fun _ => rfl, fun _ => rfl, fun _ => rfl, fun _ => rfl, fun _ => rfl, fun _ => rfl, trivial⟩
      · exact ⟨⟨rfl, rfl, rfl, fun _ => rfl⟩, ⟨rfl, rfl, rfl, fun _ => rfl⟩, ⟨rfl, rfl, rfl, fun _ => rfl⟩, trivial⟩
    · rintro ⟨⟨k, hk⟩, vs⟩
      conv => whnf
      refine bcase_intro (fun hlt => ?_) (fun hge => ?_)
      · have hlt : k < o.l.length := n_lt hlt
        conv => whnf
        rw [eff_index_sli (ho := ?hoi) (hT := ?hTi) (hx := ?hxi) (hk := ?hki) (hlt := ?hlti)]
        case hoi => rfl
        case hTi => rfl
        case hxi => rfl
        case hki => rfl
        case hlti => exact hlt
        conv => whnf
        rw [eff_load_sub (ho := ?hol) (hT := ?hTl) (hx := ?hxl) (hb := ?hbl) (hm := ?hml) (hv := ?hvl)]
        case hol => rfl
        case hTl => rfl
        case hxl => rfl
        case hbl => rfl
        case hml => exact (by rw [Nat.zero_add]; exact subC_trs o.l hlt : subC (trsC o.l) (0 + k * 9) 9 = some (trC o.l[k]))
        case hvl => rfl
        conv => whnf
        refine bcase_intro (fun h7 => ?_) (fun h7 => ?_)
        · have h3 : (k : Int).tmod 3 = (0 : Nat) ∨ (k : Int).tmod 3 = (1 : Nat) ∨ (k : Int).tmod 3 = (2 : Nat) := by have : (k : Int).tmod 3 = ((k % 3 : Nat) : Int) := rfl; omega
          rcases h3 with h3 | h3 | h3
          · conv => whnf
            rw [eff_index_arr (k := 0) (ho := ?hoa01) (hT := ?hTa01) (hx := ?hxa01) (hk := ?hka01) (hlt := ?hlta01)]
            case hoa01 => rfl
            case hTa01 => rfl
            case hxa01 => rfl
            case hka01 => exact cint h3 (by decide)
            case hlta01 => decide
            conv => whnf
            rw [dq (hn := hn) (o := o) (b := 2) (p := o.l[k].a) (ha := ?had01) (hb := ?hbd01)]
            case had01 => rfl
            case hbd01 => rfl
            conv => whnf
            rw [eff_index_arr (k := 0) (ho := ?hoa02) (hT := ?hTa02) (hx := ?hxa02) (hk := ?hka02) (hlt := ?hlta02)]
            case hoa02 => rfl
            case hTa02 => rfl
            case hxa02 => rfl
            case hka02 => exact cint h3 (by decide)
            case hlta02 => decide
            conv => whnf
            rw [dr (hn := hn) (o := o) (b := 2) (p := o.l[k].a) (ha := ?had02) (hb := ?hbd02)]
            case had02 => rfl
            case hbd02 => rfl
            conv => whnf
            refine bcase_intro (fun h => ?_) (fun _ => ?_)
            · exact absurd h (by simp)
            · conv => whnf
              refine ⟨[0, 1, 2], [5, 7, 8, 15, 16, 17], [0, 2], fun vs2 => ?_⟩
              conv => whnf
              refine ⟨intsC_pure [], o.new.1, ?_⟩
              conv => whnf
              refine ⟨_, _, ?_, ?_, (⟨k + 1, hlt⟩, vs2), (by omega : o.l.length - (k + 1) < o.l.length - k), rfl, rfl⟩
              · exact ⟨fun _ => rfl, fun _ => rfl, fun _ => rfl, fun _ => rfl, fun _ => rfl, fun _ => rfl, fun _ => rfl, fun _ => rfl, fun _ => rfl, fun _ => rfl, fun _ => rfl, fun _ => rfl, fun _ => rfl, fun _ => rfl, fun _ => rfl, fun _ => rfl, fun _ => rfl, sint_eq (wrap_add1 hlt o.ok.ir) _ _, fun _ => rfl, fun _ => rfl, fun _ => rfl, fun _ => rfl, fun _ => rfl, fun _ => rfl, fun _ => rfl, fun _ => rfl, fun _ => rfl, fun _ => rfl, fun _ => rfl, fun _ => rfl, fun _ => rfl, fun _ => rfl, fun _ => rfl, fun _ => rfl, fun _ => rfl, fun _ => rfl, fun _ => rfl, fun _ => rfl, fun _ => rfl, fun _ => rfl, fun _ => rfl, fun _ => rfl, fun _ => rfl, fun _ => rfl, fun _ => rfl, fun _ => rfl, fun _ => rfl, fun _ => rfl, fun _ => rfl, fun _ => rfl, fun _ => rfl, fun _ => rfl, fun _ => rfl, fun _ => rfl, fun _ => rfl, fun _ => rfl, fun _ => rfl, trivial⟩
              · exact ⟨⟨rfl, rfl, rfl, fun _ => rfl⟩, ⟨rfl, rfl, rfl, fun _ => rfl⟩, ⟨rfl, rfl, rfl, fun _ => rfl⟩, trivial⟩
          · conv => whnf
            rw [eff_index_arr (k := 1) (ho := ?hoa11) (hT := ?hTa11) (hx := ?hxa11) (hk := ?hka11) (hlt := ?hlta11)]
            case hoa11 => rfl
            case hTa11 => rfl
            case hxa11 => rfl
            case hka11 => exact cint h3 (by decide)
            case hlta11 => decide
            conv => whnf
            rw [dq (hn := hn) (o := o) (b := 2) (p := o.l[k].b) (ha := ?had11) (hb := ?hbd11)]
            case had11 => rfl
            case hbd11 => rfl
            conv => whnf
            rw [eff_index_arr (k := 1) (ho := ?hoa12) (hT := ?hTa12) (hx := ?hxa12) (hk := ?hka12) (hlt := ?hlta12)]
            case hoa12 => rfl
            case hTa12 => rfl
            case hxa12 => rfl
            case hka12 => exact cint h3 (by decide)
            case hlta12 => decide
            conv => whnf
            rw [dr (hn := hn) (o := o) (b := 2) (p := o.l[k].b) (ha := ?had12) (hb := ?hbd12)]
            case had12 => rfl
            case hbd12 => rfl
            conv => whnf
            refine bcase_intro (fun h => ?_) (fun _ => ?_)
            · exact absurd h (by simp)
            · conv => whnf
              refine ⟨[0, 1, 2], [5, 7, 8, 15, 16, 17], [0, 2], fun vs2 => ?_⟩
              conv => whnf
              refine ⟨intsC_pure [], o.new.1, ?_⟩
              conv => whnf
              refine ⟨_, _, ?_, ?_, (⟨k + 1, hlt⟩, vs2), (by omega : o.l.length - (k + 1) < o.l.length - k), rfl, rfl⟩
              · exact ⟨fun _ => rfl, fun _ => rfl, fun _ => rfl, fun _ => rfl, fun _ => rfl, fun _ => rfl, fun _ => rfl, fun _ => rfl, fun _ => rfl, fun _ => rfl, fun _ => rfl, fun _ => rfl, fun _ => rfl, fun _ => rfl, fun _ => rfl, fun _ => rfl, fun _ => rfl, sint_eq (wrap_add1 hlt o.ok.ir) _ _, fun _ => rfl, fun _ => rfl, fun _ => rfl, fun _ => rfl, fun _ => rfl, fun _ => rfl, fun _ => rfl, fun _ => rfl, fun _ => rfl, fun _ => rfl, fun _ => rfl, fun _ => rfl, fun _ => rfl, fun _ => rfl, fun _ => rfl, fun _ => rfl, fun _ => rfl, fun _ => rfl, fun _ => rfl, fun _ => rfl, fun _ => rfl, fun _ => rfl, fun _ => rfl, fun _ => rfl, fun _ => rfl, fun _ => rfl, fun _ => rfl, fun _ => rfl, fun _ => rfl, fun _ => rfl, fun _ => rfl, fun _ => rfl, fun _ => rfl, fun _ => rfl, fun _ => rfl, fun _ => rfl, fun _ => rfl, fun _ => rfl, fun _ => rfl, trivial⟩
              · exact ⟨⟨rfl, rfl, rfl, fun _ => rfl⟩, ⟨rfl, rfl, rfl, fun _ => rfl⟩, ⟨rfl, rfl, rfl, fun _ => rfl⟩, trivial⟩
          · conv => whnf
            rw [eff_index_arr (k := 2) (ho := ?hoa21) (hT := ?hTa21) (hx := ?hxa21) (hk := ?hka21) (hlt := ?hlta21)]
            case hoa21 => rfl
            case hTa21 => rfl
            case hxa21 => rfl
            case hka21 => exact cint h3 (by decide)
            case hlta21 => decide
            conv => whnf
            rw [dq (hn := hn) (o := o) (b := 2) (p := o.l[k].c) (ha := ?had21) (hb := ?hbd21)]
            case had21 => rfl
            case hbd21 => rfl
            conv => whnf
            rw [eff_index_arr (k := 2) (ho := ?hoa22) (hT := ?hTa22) (hx := ?hxa22) (hk := ?hka22) (hlt := ?hlta22)]
            case hoa22 => rfl
            case hTa22 => rfl
            case hxa22 => rfl
            case hka22 => exact cint h3 (by decide)
            case hlta22 => decide
            conv => whnf
            rw [dr (hn := hn) (o := o) (b := 2) (p := o.l[k].c) (ha := ?had22) (hb := ?hbd22)]
            case had22 => rfl
            case hbd22 => rfl
            conv => whnf
            refine bcase_intro (fun h => ?_) (fun _ => ?_)
            · exact absurd h (by simp)
            · conv => whnf
              refine ⟨[0, 1, 2], [5, 7, 8, 15, 16, 17], [0, 2], fun vs2 => ?_⟩
              conv => whnf
              refine ⟨intsC_pure [], o.new.1, ?_⟩
              conv => whnf
              refine ⟨_, _, ?_, ?_, (⟨k + 1, hlt⟩, vs2), (by omega : o.l.length - (k + 1) < o.l.length - k), rfl, rfl⟩
              · exact ⟨fun _ => rfl, fun _ => rfl, fun _ => rfl, fun _ => rfl, fun _ => rfl, fun _ => rfl, fun _ => rfl, fun _ => rfl, fun _ => rfl, fun _ => rfl, fun _ => rfl, fun _ => rfl, fun _ => rfl, fun _ => rfl, fun _ => rfl, fun _ => rfl, fun _ => rfl, sint_eq (wrap_add1 hlt o.ok.ir) _ _, fun _ => rfl, fun _ => rfl, fun _ => rfl, fun _ => rfl, fun _ => rfl, fun _ => rfl, fun _ => rfl, fun _ => rfl, fun _ => rfl, fun _ => rfl, fun _ => rfl, fun _ => rfl, fun _ => rfl, fun _ => rfl, fun _ => rfl, fun _ => rfl, fun _ => rfl, fun _ => rfl, fun _ => rfl, fun _ => rfl, fun _ => rfl, fun _ => rfl, fun _ => rfl, fun _ => rfl, fun _ => rfl, fun _ => rfl, fun _ => rfl, fun _ => rfl, fun _ => rfl, fun _ => rfl, fun _ => rfl, fun _ => rfl, fun _ => rfl, fun _ => rfl, fun _ => rfl, fun _ => rfl, fun _ => rfl, fun _ => rfl, fun _ => rfl, trivial⟩
              · exact ⟨⟨rfl, rfl, rfl, fun _ => rfl⟩, ⟨rfl, rfl, rfl, fun _ => rfl⟩, ⟨rfl, rfl, rfl, fun _ => rfl⟩, trivial⟩
        · conv => whnf
          refine ⟨[0, 1, 2], [5, 7, 8, 15, 16, 17], [0, 2], fun vs2 => ?_⟩
          conv => whnf
          refine ⟨intsC_pure [], o.new.1, ?_⟩
          conv => whnf
          refine ⟨_, _, ?_, ?_, (⟨k + 1, hlt⟩, vs2), (by omega : o.l.length - (k + 1) < o.l.length - k), rfl, rfl⟩
          · exact ⟨fun _ => rfl, fun _ => rfl, fun _ => rfl, fun _ => rfl, fun _ => rfl, fun _ => rfl, fun _ => rfl, fun _ => rfl, fun _ => rfl, fun _ => rfl, fun _ => rfl, fun _ => rfl, fun _ => rfl, fun _ => rfl, fun _ => rfl, fun _ => rfl, fun _ => rfl, sint_eq (wrap_add1 hlt o.ok.ir) _ _, fun _ => rfl, fun _ => rfl, fun _ => rfl, fun _ => rfl, fun _ => rfl, fun _ => rfl, fun _ => rfl, fun _ => rfl, fun _ => rfl, fun _ => rfl, fun _ => rfl, fun _ => rfl, fun _ => rfl, fun _ => rfl, fun _ => rfl, fun _ => rfl, fun _ => rfl, fun _ => rfl, fun _ => rfl, fun _ => rfl, fun _ => rfl, fun _ => rfl, fun _ => rfl, fun _ => rfl, fun _ => rfl, fun _ => rfl, fun _ => rfl, fun _ => rfl, fun _ => rfl, fun _ => rfl, fun _ => rfl, fun _ => rfl, fun _ => rfl, fun _ => rfl, fun _ => rfl, fun _ => rfl, fun _ => rfl, fun _ => rfl, fun _ => rfl, trivial⟩
          · exact ⟨⟨rfl, rfl, rfl, fun _ => rfl⟩, ⟨rfl, rfl, rfl, fun _ => rfl⟩, ⟨rfl, rfl, rfl, fun _ => rfl⟩, trivial⟩
      · conv => whnf
        rw [dq (hn := hn) (o := o) (b := 2) (p := p) (ha := ?haz1) (hb := ?hbz1)]
        case haz1 => rfl
        case hbz1 => rfl
        conv => whnf
        rw [dr (hn := hn) (o := o) (b := 2) (p := p) (ha := ?haz2) (hb := ?hbz2)]
        case haz2 => rfl
        case hbz2 => rfl
        conv => whnf
        refine bcase_true (by simp) ?_
        conv => whnf
        refine ⟨[0], [0], fun vs3 => ?_⟩
        conv => whnf
        refine ⟨intsC_pure [], ?_⟩
        conv => whnf
        refine ⟨_, [], rfl, ⟨⟨rfl, rfl, rfl, fun _ => rfl⟩, trivial⟩, trivial, _, fun ρ => ?_, hc⟩
        simp only [cond_true, decide_true, Bool.and_self]
theorem call_law {f : FuncId} (hf : CSp Tryd.prog f cLaw) {b : Int} {v : SV} {ty : TypeId} {L : List ZI} {a : Nat × Nat} (p : PT) (hv : okHs v ty L) (w : World) (hr : w.rangeAt a.1 a.2 (cellsL (fun _ => a) (intsC L))) :
    Calls Tryd.prog f #[.int .u32 b, v.den (fun _ => a), .agg #[.int .i64 p.x, .int .i64 p.y, .int .i64 p.z]] w fun e w' => e = .returned (.bool true) ∧ Below w.heap.size w w' := by
  refine (hf.2 [.c (.val (.int .u32 b)), v, .agg (ptC p)] [⟨ty, true, intsC L, 0⟩] (fun u _ => u = .c (.val (.bool true))) ⟨⟨_, _, _, _, _, rfl, rfl, hv⟩, rfl⟩ ⟨rfl, trivial⟩ ⟨intsC_pure L, trivial⟩ (fun _ => a) w (fun i c hi => ?_)).mono ?_
  · cases i with
    | zero => simp [nthO] at hi; subst hi; exact hr
    | succ i => simp [nthO] at hi
  · rintro e w' ⟨u, news, σ, rfl, _, hh, _, he⟩
    exact ⟨he σ (Agr.refl _ _), hh.bel⟩
end Go.Proofs.YtapppahniablmaaDoor

namespace Go.Proofs.YtapppahniablmaaDoor
open Go.RowKit
set_option maxRecDepth 100000

def dVal10 : Dn
  | [.agg [.int x1 hx1, .int y1 hy1, .int z1 hz1, .int x2 hx2, .int y2 hy2, .int z2 hz2, .int x3 hx3, .int y3 hy3, .int z3 hz3], .agg [.int x hx, .int y hy, .int z hz]] =>
    some (none, .agg [.wid 3491 (plA x1 y1 z1 x2 y2 z2 x3 y3 z3 * x + plB x1 y1 z1 x2 y2 z2 x3 y3 z3 * y + (plC x1 y1 z1 x2 y2 z2 x3 y3 z3 * z + plD x1 y1 z1 x2 y2 z2 x3 y3 z3)) (sm_addj (sm_addj (Sm.mul (plA_sm hx1 hy1 hz1 hx2 hy2 hz2 hx3 hy3 hz3) (smI hx)) (Sm.mul (plB_sm hx1 hy1 hz1 hx2 hy2 hz2 hx3 hy3 hz3) (smI hy))) (sm_addj (Sm.mul (plC_sm hx1 hy1 hz1 hx2 hy2 hz2 hx3 hy3 hz3) (smI hz)) (plD_sm hx1 hy1 hz1 hx2 hy2 hz2 hx3 hy3 hz3)))])
  | _ => none
theorem spVal10 : SpOk Tryd.prog 14 dVal10 := sp_of2 (un := 20) (n := 0) ⟨Tryd.func14, by kernel_rfl, by kernel_rfl⟩ base10_ok noF_ok fun args p v hd => by
  unfold dVal10 at hd
  split at hd
  · rename_i x1 hx1 y1 hy1 z1 hz1 x2 hx2 y2 hy2 z2 hz2 x3 hx3 y3 hy3 z3 hz3 x hx y hy z hz
    cases hd
    refine ⟨[.agg [.int x1 hx1, .int y1 hy1, .int z1 hz1, .int x2 hx2, .int y2 hy2, .int z2 hz2, .int x3 hx3, .int y3 hy3, .int z3 hz3], .agg [.int x hx, .int y hy, .int z hz]], fun _ => rfl, fun _ _ => rfl, fun _ _ => rfl, fun _ => ?_⟩
    conv => whnf
    exact fun _ => rfl
  · cases hd
def base11 : List (FuncId × Dn) := (14, dVal10) :: base10
theorem base11_ok : AllOk base11 := .cons spVal10 <| base10_ok
theorem val_sq (A B C D x y z : Int) : qAt (A * A) (2 * (A * B)) (2 * (A * C)) (2 * (A * D)) (B * B) (2 * (B * C)) (2 * (B * D)) (C * C) (2 * (C * D)) (D * D) x y z = (A * x + B * y + (C * z + D)) * (A * x + B * y + (C * z + D)) := by unfold qAt; grind
theorem bcase_false {b : Bool} {X Y : Prop} (h : b = false) (hy : Y) : bcase b X Y := bcase_intro (fun h1 => by rw [h] at h1; cases h1) (fun _ => hy)
section
variable (x1 y1 z1 x2 y2 z2 x3 y3 z3 : Int)
theorem pl_c1 : plA x1 y1 z1 x2 y2 z2 x3 y3 z3 * x1 + plB x1 y1 z1 x2 y2 z2 x3 y3 z3 * y1 + (plC x1 y1 z1 x2 y2 z2 x3 y3 z3 * z1 + plD x1 y1 z1 x2 y2 z2 x3 y3 z3) = 0 := by unfold plD plA plB plC; grind
theorem pl_c2 : plA x1 y1 z1 x2 y2 z2 x3 y3 z3 * x2 + plB x1 y1 z1 x2 y2 z2 x3 y3 z3 * y2 + (plC x1 y1 z1 x2 y2 z2 x3 y3 z3 * z2 + plD x1 y1 z1 x2 y2 z2 x3 y3 z3) = 0 := by unfold plD plA plB plC; grind
theorem pl_c3 : plA x1 y1 z1 x2 y2 z2 x3 y3 z3 * x3 + plB x1 y1 z1 x2 y2 z2 x3 y3 z3 * y3 + (plC x1 y1 z1 x2 y2 z2 x3 y3 z3 * z3 + plD x1 y1 z1 x2 y2 z2 x3 y3 z3) = 0 := by unfold plD plA plB plC; grind
end
def dLawVal : Dn
  | [.agg [.int _ _, .int _ _, .int _ _, .int _ _, .int _ _, .int _ _, .int _ _, .int _ _, .int _ _], .agg [.int _ _, .int _ _, .int _ _]] =>
    some (none, .c (.val (.bool true)))
  | _ => none
theorem spLawVal : SpOk Tryd.prog 4 dLawVal := sp_of2 (un := 20) (n := 0) ⟨Tryd.func4, by kernel_rfl, by kernel_rfl⟩ base11_ok noF_ok fun args p v hd => by
  unfold dLawVal at hd
  split at hd
  · rename_i x1 hx1 y1 hy1 z1 hz1 x2 hx2 y2 hy2 z2 hz2 x3 hx3 y3 hy3 z3 hz3 x hx y hy z hz
    cases hd
    refine ⟨[.agg [.int x1 hx1, .int y1 hy1, .int z1 hz1, .int x2 hx2, .int y2 hy2, .int z2 hz2, .int x3 hx3, .int y3 hy3, .int z3 hz3], .agg [.int x hx, .int y hy, .int z hz]], fun _ => rfl, fun _ _ => rfl, fun _ _ => rfl, fun _ => ?_⟩
    conv => whnf
    refine bcase_false ?_ ?_
    · simp only [val_sq, pl_c1, Int.mul_zero, decide_true, Bool.not_true]
    conv => whnf
    refine bcase_false ?_ ?_
    · simp only [val_sq, pl_c2, Int.mul_zero, decide_true, Bool.not_true]
    conv => whnf
    refine bcase_false ?_ ?_
    · simp only [val_sq, pl_c3, Int.mul_zero, decide_true, Bool.not_true]
    conv => whnf
    intro ρ
    simp only [cond_true, val_sq, decide_true]
    rfl
  · cases hd
end Go.Proofs.YtapppahniablmaaDoor

namespace Go.Proofs.YtapppahniablmaaDoor
open Go.RowKit
set_option maxRecDepth 100000

/-! the order of points -/
def lessI (x1 y1 z1 x2 y2 z2 : Int) : Bool := cond (!decide (x1 = x2)) (decide (x1 < x2)) (cond (!decide (y1 = y2)) (decide (y1 < y2)) (decide (z1 < z2)))
def lessP (p q : PT) : Bool := lessI p.x p.y p.z q.x q.y q.z
def LtP (p q : PT) : Prop := p.x < q.x ∨ (p.x = q.x ∧ (p.y < q.y ∨ (p.y = q.y ∧ p.z < q.z)))
theorem lessP_iff (p q : PT) : lessP p q = true ↔ LtP p q := by
  unfold lessP lessI LtP
  by_cases hx : p.x = q.x
  · by_cases hy : p.y = q.y
    · simp [hx, hy]
    · simp [hx, hy]
  · simp [hx]
theorem PT.ext' {p q : PT} (hx : p.x = q.x) (hy : p.y = q.y) (hz : p.z = q.z) : p = q := by
  cases p; cases q; simp only at hx hy hz; subst hx hy hz; rfl
theorem eqP_iff (p q : PT) : eqP p q = true ↔ p = q := by
  unfold eqP
  simp only [Bool.and_eq_true, decide_eq_true_eq]
  exact ⟨fun ⟨a, b, c⟩ => PT.ext' a b c, fun h => by subst h; exact ⟨rfl, rfl, rfl⟩⟩
theorem less_irr (p : PT) : ¬ lessP p p = true := by rw [lessP_iff]; unfold LtP; omega
theorem less_trans {p q r : PT} (h : lessP p q = true) (h' : lessP q r = true) : lessP p r = true := by
  rw [lessP_iff] at *; unfold LtP at *; omega
theorem less_tot {p q : PT} (h : lessP p q = false) (hn : p ≠ q) : lessP q p = true := by
  have h1 : ¬ LtP p q := fun hh => by rw [(lessP_iff p q).2 hh] at h; cases h
  have h2 : ¬ (p.x = q.x ∧ p.y = q.y ∧ p.z = q.z) := fun ⟨a, b, c⟩ => hn (PT.ext' a b c)
  rw [lessP_iff]; unfold LtP at *; omega
def Srt (l : List PT) : Prop := l.Pairwise fun p q => lessP p q = true
theorem Srt.nodup {l : List PT} (h : Srt l) : l.Nodup := List.Pairwise.imp (fun {a b} hab he => by subst he; exact less_irr a hab) h
theorem srt_at {l : List PT} (h : Srt l) {i j : Nat} (hi : i < l.length) (hj : j < l.length) (hij : i < j) : lessP l[i] l[j] = true := List.pairwise_iff_getElem.1 h i j hi hj hij
/-- the place of a point in a list is found -/
theorem srt_ins {l : List PT} (h : Srt l) {k : Nat} {p : PT} (hk : k ≤ l.length) (h1 : ∀ i (hi : i < l.length), i < k → lessP l[i] p = true) (h2 : ∀ hk : k < l.length, lessP p l[k] = true) : Srt (l.take k ++ p :: l.drop k) := by
  unfold Srt
  rw [List.pairwise_append, List.pairwise_cons]
  have hd : ∀ x ∈ l.drop k, lessP p x = true := fun x hx => by
    obtain ⟨i, hi, rfl⟩ := List.getElem_of_mem hx
    have hlen : k + i < l.length := by simp at hi; omega
    rw [List.getElem_drop]
    have hkl : k < l.length := by omega
    by_cases h0 : i = 0
    · subst h0; exact h2 hkl
    · exact less_trans (h2 hkl) (srt_at h hkl hlen (by omega))
  have ht : ∀ x ∈ l.take k, lessP x p = true := fun x hx => by
    obtain ⟨i, hi, rfl⟩ := List.getElem_of_mem hx
    have hlen : i < k ∧ i < l.length := by simp at hi; omega
    rw [List.getElem_take]
    exact h1 i hlen.2 hlen.1
  have hs : Srt (l.take k ++ l.drop k) := by rw [List.take_append_drop]; exact h
  unfold Srt at hs
  rw [List.pairwise_append] at hs
  refine ⟨hs.1, ⟨hd, hs.2.1⟩, fun a ha b hb => ?_⟩
  rcases List.mem_cons.1 hb with rfl | hb
  · exact ht a ha
  · exact hs.2.2 a ha b hb
theorem mem_ins {l : List PT} {k : Nat} {p q : PT} : q ∈ l.take k ++ p :: l.drop k ↔ q = p ∨ q ∈ l := by
  conv => rhs; rhs; rw [← List.take_append_drop k l]
  simp only [List.mem_append, List.mem_cons]
  constructor
  · rintro (h | rfl | h)
    · exact .inr (.inl h)
    · exact .inl rfl
    · exact .inr (.inr h)
  · rintro (rfl | h | h)
    · exact .inr (.inl rfl)
    · exact .inl h
    · exact .inr (.inr h)
/-- what comes behind the place is not the point -/
theorem not_mem_at {l : List PT} (h : Srt l) {k : Nat} {p : PT} (h1 : ∀ i (hi : i < l.length), i < k → lessP l[i] p = true) (h2 : ∀ hk : k < l.length, lessP p l[k] = true) : p ∉ l := fun hm => by
  obtain ⟨i, hi, rfl⟩ := List.getElem_of_mem hm
  by_cases hik : i < k
  · exact less_irr _ (h1 i hi hik)
  · have hk : k < l.length := by omega
    have h3 := h2 hk
    by_cases e : i = k
    · subst e; exact less_irr _ h3
    · exact less_irr _ (less_trans h3 (srt_at h hk hi (by omega)))

/-! the corners count every triangle three times -/
def corT (t : TR) : List PT := [t.a, t.b, t.c]
def cor (l : List TR) : List PT := l.flatMap corT
/-- the sum over the triangles, thrice -/
def sum3 : List TR → Nat → Int
  | [], _ => 0
  | t :: l, k => (qc t k + (qc t k + qc t k)) + sum3 l k
theorem sum3_snoc (k : Nat) (t : TR) : ∀ l, sum3 (l ++ [t]) k = sum3 l k + (qc t k + (qc t k + qc t k))
  | [] => by simp [sum3]
  | x :: l => by simp only [List.cons_append, sum3, sum3_snoc k t l]; omega
theorem sum3_take (l : List TR) (j k : Nat) (hk : k < l.length) : sum3 (l.take (k + 1)) j = sum3 (l.take k) j + (qc l[k] j + (qc l[k] j + qc l[k] j)) := by
  rw [List.take_succ_eq_append_getElem hk, sum3_snoc]
/-- the sum over corners -/
def corQ : List PT → List TR → Nat → Int
  | [], _, _ => 0
  | c :: cs, l, k => aro l c k + corQ cs l k
theorem corQ_snoc (k : Nat) (c : PT) (l : List TR) : ∀ cs, corQ (cs ++ [c]) l k = corQ cs l k + aro l c k
  | [] => by simp [corQ]
  | x :: cs => by simp only [List.cons_append, corQ, corQ_snoc k c l cs]; omega
theorem corQ_take (cs : List PT) (l : List TR) (j k : Nat) (hk : k < cs.length) : corQ (cs.take (k + 1)) l j = corQ (cs.take k) l j + aro l cs[k] j := by
  rw [List.take_succ_eq_append_getElem hk, corQ_snoc]
def cntP (a : PT) (cs : List PT) : Nat := cs.countP fun c => eqP a c
theorem cntP_one {a : PT} : ∀ {cs : List PT}, cs.Nodup → a ∈ cs → cntP a cs = 1
  | [], _, h => by cases h
  | c :: cs, hn, hm => by
    rw [List.nodup_cons] at hn
    unfold cntP
    rw [List.countP_cons]
    by_cases e : a = c
    · subst e
      have h0 : cs.countP (fun c => eqP a c) = 0 := by
        rw [List.countP_eq_zero]
        intro x hx hh
        rw [eqP_iff] at hh; subst hh; exact hn.1 hx
      rw [h0, if_pos ((eqP_iff a a).2 rfl)]
    · have hm' : a ∈ cs := by rcases List.mem_cons.1 hm with h | h; exact absurd h e; exact h
      have ih := cntP_one hn.2 hm'
      unfold cntP at ih
      rw [ih, if_neg (fun hh => e ((eqP_iff a c).1 hh))]
def cntT (t : TR) (cs : List PT) : Nat := cs.countP fun c => touch t c
theorem cntT_three {t : TR} (h1 : t.a ≠ t.b) (h2 : t.a ≠ t.c) (h3 : t.b ≠ t.c) : ∀ cs : List PT, cntT t cs = cntP t.a cs + cntP t.b cs + cntP t.c cs
  | [] => rfl
  | c :: cs => by
    have ih := cntT_three h1 h2 h3 cs
    unfold cntT cntP at *
    simp only [List.countP_cons]
    rw [ih]
    unfold touch
    by_cases ea : t.a = c
    · have eb : eqP t.b c = false := by rw [Bool.eq_false_iff]; intro hh; rw [eqP_iff] at hh; exact h1 (ea.trans hh.symm)
      have ec : eqP t.c c = false := by rw [Bool.eq_false_iff]; intro hh; rw [eqP_iff] at hh; exact h2 (ea.trans hh.symm)
      simp only [(eqP_iff t.a c).2 ea, eb, ec, Bool.true_or, if_true, if_false, Bool.false_eq_true]; omega
    · have ea' : eqP t.a c = false := by rw [Bool.eq_false_iff]; intro hh; exact ea ((eqP_iff _ _).1 hh)
      by_cases eb : t.b = c
      · have ec : eqP t.c c = false := by rw [Bool.eq_false_iff]; intro hh; rw [eqP_iff] at hh; exact h3 (eb.trans hh.symm)
        simp only [ea', (eqP_iff t.b c).2 eb, ec, Bool.true_or, Bool.false_or, if_true, if_false, Bool.false_eq_true]; omega
      · have eb' : eqP t.b c = false := by rw [Bool.eq_false_iff]; intro hh; exact eb ((eqP_iff _ _).1 hh)
        simp only [ea', eb', Bool.false_or, if_false, Bool.false_eq_true]
        split <;> omega
/-- the coefficients of a triangle with two equal corners are 0 -/
theorem qc_flat {t : TR} (h : t.a = t.b ∨ t.a = t.c ∨ t.b = t.c) (k : Nat) : qc t k = 0 := by
  have z : plA t.a.x t.a.y t.a.z t.b.x t.b.y t.b.z t.c.x t.c.y t.c.z = 0 ∧ plB t.a.x t.a.y t.a.z t.b.x t.b.y t.b.z t.c.x t.c.y t.c.z = 0 ∧ plC t.a.x t.a.y t.a.z t.b.x t.b.y t.b.z t.c.x t.c.y t.c.z = 0 := by
    rcases h with h | h | h <;> rw [h] <;> unfold plA plB plC <;> refine ⟨?_, ?_, ?_⟩ <;> grind
  have zD : plD t.a.x t.a.y t.a.z t.b.x t.b.y t.b.z t.c.x t.c.y t.c.z = 0 := by unfold plD; rw [z.1, z.2.1, z.2.2]; simp
  unfold qc
  simp only [z.1, z.2.1, z.2.2, zD]
  split <;> rfl
theorem corQ_cons (t : TR) (l : List TR) (k : Nat) : ∀ cs : List PT, corQ cs (t :: l) k = (cntT t cs : Int) * qc t k + corQ cs l k
  | [] => by simp [corQ, cntT]
  | c :: cs => by
    rw [corQ, corQ, corQ_cons t l k cs, aro]
    unfold cntT
    rw [List.countP_cons]
    by_cases h : touch t c = true
    · simp only [h, if_true]; rw [show ((cs.countP (fun c => touch t c) + 1 : Nat) : Int) = (cs.countP (fun c => touch t c) : Nat) + 1 from rfl, Int.add_mul]; omega
    · simp only [h, if_false, Bool.false_eq_true]; rw [Nat.add_zero]; omega
theorem corQ_nil (k : Nat) : ∀ cs : List PT, corQ cs [] k = 0
  | [] => rfl
  | c :: cs => by rw [corQ, corQ_nil k cs]; rfl
theorem corQ_sum3 {cs : List PT} (hn : cs.Nodup) (k : Nat) : ∀ {l : List TR}, (∀ q ∈ cor l, q ∈ cs) → corQ cs l k = sum3 l k
  | [], _ => by rw [corQ_nil]; rfl
  | t :: l, h => by
    have ht : ∀ q ∈ corT t, q ∈ cs := fun q hq => h q (by unfold cor; rw [List.flatMap_cons]; exact List.mem_append_left _ hq)
    have hl : ∀ q ∈ cor l, q ∈ cs := fun q hq => h q (by unfold cor; rw [List.flatMap_cons]; exact List.mem_append_right _ hq)
    rw [corQ_cons, corQ_sum3 hn k hl, sum3]
    congr 1
    by_cases hf : t.a = t.b ∨ t.a = t.c ∨ t.b = t.c
    · rw [qc_flat hf]; simp
    · have h1 : t.a ≠ t.b := fun e => hf (.inl e)
      have h2 : t.a ≠ t.c := fun e => hf (.inr (.inl e))
      have h3 : t.b ≠ t.c := fun e => hf (.inr (.inr e))
      rw [cntT_three h1 h2 h3, cntP_one hn (ht _ (by simp [corT])), cntP_one hn (ht _ (by simp [corT])), cntP_one hn (ht _ (by simp [corT]))]
      omega
/-! values -/
def aroAt (l : List TR) (c p : PT) : Int := qAt (aro l c 0) (aro l c 1) (aro l c 2) (aro l c 3) (aro l c 4) (aro l c 5) (aro l c 6) (aro l c 7) (aro l c 8) (aro l c 9) p.x p.y p.z
/-- the value of the plane -/
def plV (t : TR) (p : PT) : Int :=
  plA t.a.x t.a.y t.a.z t.b.x t.b.y t.b.z t.c.x t.c.y t.c.z * p.x + plB t.a.x t.a.y t.a.z t.b.x t.b.y t.b.z t.c.x t.c.y t.c.z * p.y + (plC t.a.x t.a.y t.a.z t.b.x t.b.y t.b.z t.c.x t.c.y t.c.z * p.z + plD t.a.x t.a.y t.a.z t.b.x t.b.y t.b.z t.c.x t.c.y t.c.z)
theorem qAt_add (a0 a1 a2 a3 a4 a5 a6 a7 a8 a9 b0 b1 b2 b3 b4 b5 b6 b7 b8 b9 x y z : Int) : qAt (a0 + b0) (a1 + b1) (a2 + b2) (a3 + b3) (a4 + b4) (a5 + b5) (a6 + b6) (a7 + b7) (a8 + b8) (a9 + b9) x y z = qAt a0 a1 a2 a3 a4 a5 a6 a7 a8 a9 x y z + qAt b0 b1 b2 b3 b4 b5 b6 b7 b8 b9 x y z := by
  unfold qAt; grind
theorem aroAt_cons (t : TR) (l : List TR) (c p : PT) : aroAt (t :: l) c p = (if touch t c = true then plV t p * plV t p else 0) + aroAt l c p := by
  unfold aroAt
  simp only [aro]
  rw [qAt_add]
  congr 1
  by_cases h : touch t c = true
  · simp only [h, if_true]
    exact val_sq _ _ _ _ _ _ _
  · simp only [h]
    unfold qAt; simp
theorem aroAt_nonneg (c p : PT) : ∀ l, 0 ≤ aroAt l c p
  | [] => by unfold aroAt aro qAt; simp
  | t :: l => by
    have ih := aroAt_nonneg c p l
    rw [aroAt_cons]
    split
    · have : 0 ≤ plV t p * plV t p := by
        rcases Int.le_total 0 (plV t p) with h | h
        · exact Int.mul_nonneg h h
        · exact Int.mul_nonneg_of_nonpos_of_nonpos h h
      omega
    · omega
theorem plV_corner {t : TR} {c : PT} (h : touch t c = true) : plV t c = 0 := by
  unfold touch at h
  simp only [Bool.or_eq_true, eqP_iff] at h
  unfold plV
  rcases h with rfl | rfl | rfl
  · exact pl_c1 _ _ _ _ _ _ _ _ _
  · exact pl_c2 _ _ _ _ _ _ _ _ _
  · exact pl_c3 _ _ _ _ _ _ _ _ _
theorem aroAt_corner (c : PT) : ∀ l, aroAt l c c = 0
  | [] => by unfold aroAt aro qAt; simp
  | t :: l => by
    rw [aroAt_cons, aroAt_corner c l]
    split
    · rename_i h; rw [plV_corner h]; rfl
    · rfl
/-! the sums are small -/
theorem sum3_bd {M : Nat} (k : Nat) (hM : ∀ t, (qc t k).natAbs ≤ M) : ∀ l : List TR, (sum3 l k).natAbs ≤ 3 * l.length * M
  | [] => by simp [sum3]
  | t :: l => by
    have ih := sum3_bd k hM l
    have h := hM t
    rw [sum3, List.length_cons, show 3 * (l.length + 1) = 3 * l.length + 3 by omega, Nat.add_mul]
    omega
theorem qc_bd (k : Nat) (t : TR) : (qc t k).natAbs ≤ 2 ^ 3490 := by
  have h := qc_sm t k
  unfold Sm at h
  exact Nat.le_of_lt h
theorem sum3_sm (k : Nat) {l : List TR} (hl : l.length ≤ 300000) : Sm 3510 (sum3 l k) := by
  have h := lt_pow (n := 3490) (m := 3510) (show 3 * l.length ≤ 1000000 by omega) (by decide)
  unfold Sm
  exact Nat.lt_of_le_of_lt (sum3_bd k (qc_bd k) l) h
theorem corQ_bd {M : Nat} {l : List TR} (k : Nat) (hM : ∀ c, (aro l c k).natAbs ≤ M) : ∀ cs : List PT, (corQ cs l k).natAbs ≤ cs.length * M
  | [] => by simp [corQ]
  | c :: cs => by
    have ih := corQ_bd k hM cs
    have h := hM c
    rw [corQ, List.length_cons, Nat.succ_mul]
    omega
theorem corQ_sm (k : Nat) {l : List TR} {cs : List PT} (hl : l.length ≤ 1000000) (hc : cs.length ≤ 1000000) : Sm 3530 (corQ cs l k) := by
  have h := lt_pow (n := 3510) (m := 3530) hc (by decide)
  unfold Sm
  refine Nat.lt_of_le_of_lt (corQ_bd (M := 2 ^ 3510) k (fun c => ?_) cs) h
  have h := aro_sm c k hl
  unfold Sm at h
  exact Nat.le_of_lt h
end Go.Proofs.YtapppahniablmaaDoor

namespace Go.Proofs.YtapppahniablmaaDoor
open Go.RowKit
set_option maxRecDepth 100000

def ptsC : List PT → List C
  | [] => []
  | p :: l => ptC p ++ ptsC l
theorem ptsC_size : ∀ l : List PT, sizeC (ptsC l) = 3 * l.length
  | [] => rfl
  | _ :: l => by rw [ptsC, sizeC_append, ptsC_size l, List.length_cons]; show 3 + _ = _; omega
theorem ptsC_append : ∀ a b : List PT, ptsC (a ++ b) = ptsC a ++ ptsC b
  | [], _ => rfl
  | _ :: l, b => by rw [List.cons_append, ptsC, ptsC_append l b, ptsC, List.append_assoc]
theorem ptsC_pure : ∀ l : List PT, PureL (ptsC l)
  | [] => fun _ _ => rfl
  | _ :: l => pureL_append (fun _ _ => rfl) (ptsC_pure l)
theorem allOne_pts : ∀ l : List PT, allOne (ptsC l) = true
  | [] => rfl
  | _ :: l => by rw [ptsC, allOne_append, allOne_pts l]; rfl
theorem subC_pts (l : List PT) {k : Nat} (hk : k < l.length) : subC (ptsC l) (k * 3) 3 = some (ptC l[k]) := by
  have e : ptsC l = ptsC (l.take k) ++ (ptC l[k] ++ ptsC (l.drop (k + 1))) := by
    have h : l = l.take k ++ (l[k] :: l.drop (k + 1)) := by rw [← List.drop_eq_getElem_cons hk, List.take_append_drop]
    rw [show ptsC l = ptsC (l.take k ++ (l[k] :: l.drop (k + 1))) by rw [← h], ptsC_append]
    rfl
  have s : sizeC (ptsC (l.take k)) = k * 3 := by rw [ptsC_size]; simp; omega
  rw [e, ← s]
  exact subC_app _ (ptC l[k]) _
theorem subC_pts_take (l : List PT) {k : Nat} (hk : k ≤ l.length) : subC (ptsC l) 0 (k * 3) = some (ptsC (l.take k)) := by
  have h := subC_app [] (ptsC (l.take k)) (ptsC (l.drop k))
  rw [ptsC_size, List.length_take, Nat.min_eq_left hk, List.nil_append, ← ptsC_append, List.take_append_drop, Nat.mul_comm] at h
  exact h
theorem subC_nil : ∀ cs : List C, subC cs 0 0 = some []
  | [] => rfl
  | _ :: _ => rfl
theorem subC_pts_drop (l : List PT) {k cap : Nat} (hk : k ≤ l.length) (hc : l.length ≤ cap) : subC (ptsC l) (slOff 0 3 k cap) ((l.length - k) * 3) = some (ptsC (l.drop k)) := by
  have h := subC_app (ptsC (l.take k)) (ptsC (l.drop k)) []
  rw [List.append_nil, ← ptsC_append, List.take_append_drop, ptsC_size, ptsC_size, List.length_take, Nat.min_eq_left hk, List.length_drop] at h
  cases k with
  | zero => simpa [slOff, Nat.mul_comm] using h
  | succ k =>
    show subC (ptsC l) (if cap = k + 1 then 0 else 0 + (k + 1) * 3) _ = _
    split
    · rename_i e
      have : l.length = k + 1 := by omega
      rw [this, Nat.sub_self, Nat.zero_mul, subC_nil, List.drop_eq_nil_of_le (by omega)]; rfl
    · rw [Nat.zero_add, Nat.mul_comm (k + 1), Nat.mul_comm (l.length - (k + 1))]; exact h
theorem eff_slice_lo {T : TypeId → Option TI} {op : Op} {ev : Operand → SV} {hp : Nat → Option Blk} {t : TypeId} {x y : Operand} (ho : op = .slice t x (some y) none none) {sz : Nat} {ag : Bool} {z : List C} {e : TypeId} {esz : Nat} {ez : List C} {eq : Option (List K)} (hT : T t = some ⟨sz, ag, z, .slice e esz ez, eq⟩)
    {nl : Bool} {b off len cap : Nat} {hl : SliOk nl len cap} (hx : ev x = .c (.sli nl b off len cap hl)) {k : Nat} {hi : IR k} (hk : ev y = .c (.int k hi)) (hlt : k ≤ len) : eff T op ev hp = some (.val (.c (.sli nl b (slOff off esz k cap) (len - k) (cap - k) (hl.sub ⟨hlt, hl.1, Nat.le_refl _⟩)))) := by
  subst ho
  simp only [eff, hT, hx, Option.map, bndO, hk]
  show (if hc : _ then _ else _) = _
  rw [dif_pos ⟨⟨hlt, hl.1, Nat.le_refl _⟩, rfl⟩]
/-- a list of points of the call's own -/
structure OP where
  l : List PT
  nl : Bool
  cap : Nat
  ok : SliOk nl l.length cap
def OP.sl (o : OP) (b : Nat) : SV := .c (.sli o.nl b 0 o.l.length o.cap o.ok)
def OP.blk (o : OP) : Blk := ⟨23, o.nl, ptsC o.l, (o.cap - o.l.length) * 3⟩
def OP.none : OP := ⟨[], true, 0, by unfold SliOk; decide⟩
theorem OP.new (o : OP) : NewB o.blk := by
  refine ⟨ptsC_pure o.l, ?_⟩
  cases h : o.nl with
  | false => exact .inl h
  | true =>
    right
    have h1 := o.ok.1; have h2 := o.ok.2.2 h
    have : o.l = [] := List.eq_nil_of_length_eq_zero (by omega)
    unfold OP.blk Blk.void
    rw [h, this]; rfl
theorem OP.app (o : OP) {m : Nat} (hm : (o.l.length + m) * 3 ≤ 5000000000000) : o.blk.ty = 23 ∧ o.blk.ro = o.nl ∧ sizeC o.blk.cs = o.l.length * 3 ∧ (o.nl = false → sizeC o.blk.cs + o.blk.tl = o.cap * 3) ∧ (o.l.length + m) * 3 ≤ 5000000000000 := by
  have h1 : sizeC o.blk.cs = o.l.length * 3 := by show sizeC (ptsC o.l) = _; rw [ptsC_size]; omega
  refine ⟨rfl, rfl, h1, fun _ => ?_, hm⟩
  rw [h1]
  show o.l.length * 3 + (o.cap - o.l.length) * 3 = o.cap * 3
  have := o.ok.1
  omega
def OP.push (o : OP) (m : List PT) {n : Nat} (hn : m.length = n) (cap2 : Nat) (h2 : SliOk (o.nl && decide (n = 0)) (o.l.length + n) cap2) : OP := ⟨o.l ++ m, o.nl && decide (n = 0), cap2, by rw [List.length_append, hn]; exact h2⟩
theorem OP.push_sl (o : OP) (m : List PT) {n : Nat} (hn : m.length = n) (cap2 : Nat) (h2 : SliOk (o.nl && decide (n = 0)) (o.l.length + n) cap2) (b : Nat) (ρ : Rho) : (SV.c (.sli (o.nl && decide (n = 0)) b 0 (o.l.length + n) cap2 h2)).den ρ = ((o.push m hn cap2 h2).sl b).den ρ := by
  simp only [OP.sl, OP.push, SV.den, C.den, C.cells, List.length_append, hn]
theorem OP.push_blk (o : OP) (m : List PT) {n : Nat} (hn : m.length = n) (cap2 : Nat) (h2 : SliOk (o.nl && decide (n = 0)) (o.l.length + n) cap2) {cs : List C} (hcs : ∀ ρ, cellsL ρ cs = cellsL ρ (ptsC m)) :
    23 = (o.push m hn cap2 h2).blk.ty ∧ (o.nl && decide (n = 0)) = (o.push m hn cap2 h2).blk.ro ∧ (cap2 - (o.l.length + n)) * 3 = (o.push m hn cap2 h2).blk.tl ∧ ∀ ρ, cellsL ρ (ptsC o.l ++ cs) = cellsL ρ (o.push m hn cap2 h2).blk.cs := by
  refine ⟨rfl, rfl, ?_, fun ρ => ?_⟩
  · simp only [OP.push, OP.blk, List.length_append, hn]
  · show _ = cellsL ρ (ptsC (o.l ++ m))
    rw [ptsC_append, cellsL_append, cellsL_append, hcs]
def dLess : Dn
  | [.agg [.int x1 _, .int y1 _, .int z1 _], .agg [.int x2 _, .int y2 _, .int z2 _]] =>
    some (none, .c (.val (.bool (lessI x1 y1 z1 x2 y2 z2))))
  | _ => none
theorem spLess : SpOk Tryd.prog 64 dLess := sp_of2 (un := 20) (n := 0) ⟨Tryd.func64, by kernel_rfl, by kernel_rfl⟩ base_ok noF_ok fun args p v hd => by
  unfold dLess at hd
  split at hd
  · rename_i x1 hx1 y1 hy1 z1 hz1 x2 hx2 y2 hy2 z2 hz2
    cases hd
    refine ⟨[.agg [.int x1 hx1, .int y1 hy1, .int z1 hz1], .agg [.int x2 hx2, .int y2 hy2, .int z2 hz2]], fun _ => rfl, fun _ _ => rfl, fun _ _ => rfl, fun _ => ?_⟩
    conv => whnf
    refine bcase_intro (fun h1 => ?_) (fun h1 => ?_)
    · conv => whnf
      intro ρ
      rw [lessI, h1]; rfl
    · conv => whnf
      refine bcase_intro (fun h2 => ?_) (fun h2 => ?_)
      · conv => whnf
        intro ρ
        rw [lessI, h1, h2]; rfl
      · conv => whnf
        intro ρ
        rw [lessI, h1, h2]; rfl
  · cases hd
def baseW : List (FuncId × Dn) := (64, dLess) :: base
theorem baseW_ok : AllOk baseW := .cons spLess <| base_ok
/-- a point put into an ordered list: the list itself, or a new one -/
def cWith : NewC := fun args ros K => ∃ nl len cap h ty l p, args = [.c (.sli nl 0 0 len cap h), .agg (ptC p)] ∧ ros = [⟨ty, true, ptsC l, 0⟩] ∧ l.length = len ∧ len ≤ 1000000 ∧ Srt l ∧
  (p ∈ l → K (.c (.sli nl 0 0 len cap h)) []) ∧ ∀ o : OP, Srt o.l → (∀ q, q ∈ o.l ↔ q = p ∨ q ∈ l) → o.l.length = l.length + 1 → K (o.sl 1) [o.blk]
theorem less_upto {l : List PT} {p : PT} {k : Nat} {hlt : k < l.length} (h : ∀ i (hi : i < l.length), i < k → lessP l[i] p = true) (hk : lessP l[k] p = true) : ∀ i (hi : i < l.length), i < k + 1 → lessP l[i] p = true := fun i hi hik => by
  by_cases e : i = k
  · subst e; exact hk
  · exact h i hi (by omega)
theorem sliOk_le2 {nl : Bool} {len cap k : Nat} (h : SliOk nl len cap) (hk : k ≤ len) : SliOk nl k cap := ⟨Nat.le_trans hk h.1, h.2.1, h.2.2⟩
theorem n_lt' {k M : Nat} (h : k < M) : decide ((k : Int) < (M : Int)) = true := decide_eq_true (by omega)
theorem n_ge' {k M : Nat} (h : M ≤ k) : decide ((k : Int) < (M : Int)) = false := decide_eq_false (by omega)
set_option maxHeartbeats 8000000 in
theorem csWith : CSp Tryd.prog 48 cWith := csp_of (env_ok baseW_ok 0) mixed (inl_ok (env_ok baseW_ok 0) mixed noF_ok 0) ⟨Tryd.func48, by kernel_rfl, by kernel_rfl⟩ fun args ros K hc => by
  obtain ⟨nl, _, cap, hl, ty, l, p, rfl, rfl, rfl, hlen, hs, hc, hn⟩ := hc
  refine ⟨fun ρ ρ' e => ?_, ?_⟩
  · have := e 0 (Nat.zero_lt_one)
    simp only [List.map, SV.den, C.den, C.cells, this]
    rfl
  conv => whnf
  refine loop_st (G := {k : Nat // k ≤ l.length ∧ ∀ i (hi : i < l.length), i < k → lessP l[i] p = true} × (Nat → Value)) (fun g => [.c (.sli nl 0 0 l.length cap hl), .c (.val (g.2 1)), .c (.val (g.2 2)), .c (.ptr 1 0), .c (.val (g.2 4)), .c (.int (g.1.1 : Nat) (lt_ir hl g.1.2.1)), .c (.val (g.2 6)), .c (.val (g.2 7)), .c (.val (g.2 8)), .c (.val (g.2 9)), .c (.val (g.2 10)), .c (.val (g.2 11)), .c (.val (g.2 12)), .c (.val (g.2 13)), .c (.val (g.2 14)), .c (.val (g.2 15)), .c (.val (g.2 16)), .c (.val (g.2 17)), .c (.val (g.2 18)), .c (.val (g.2 19)), .c (.val (g.2 20)), .c (.val (g.2 21)), .c (.val (g.2 22)), .c (.val (g.2 23)), .c (.val (g.2 24)), .c (.val (g.2 25)), .c (.val (g.2 26)), .c (.val (g.2 27)), .c (.val (g.2 28)), .c (.val (g.2 29)), .c (.val (g.2 30)), .c (.val (g.2 31)), .c (.val (g.2 32)), .c (.val (g.2 33)), .c (.val (g.2 34)), .c (.val (g.2 35)), .c (.val (g.2 36)), .c (.val (g.2 37)), .c (.val (g.2 38)), .c (.val (g.2 39)), .c (.val (g.2 40)), .c (.val (g.2 41)), .c (.val (g.2 42)), .c (.val (g.2 43)), .c (.val (g.2 44)), .c (.val (g.2 45)), .c (.val (g.2 46)), .c (.val (g.2 47)), .c (.val (g.2 48))]) (fun _ => [⟨ty, true, ptsC l, 0⟩, ⟨23, false, ptC p, 0⟩]) (fun g => l.length - g.1.1) ?_ ?_
  · refine ⟨[0, 1], [0, 3, 5], [0], fun vs => ?_⟩
    conv => whnf
    refine ⟨ptsC_pure l, ?_⟩
    conv => whnf
    refine ⟨_, _, ?_, ?_, (⟨0, Nat.zero_le _, fun i _ h => by omega⟩, vs), rfl, rfl⟩
    · exact ⟨fun _ => rfl, fun _ => rfl, fun _ => rfl, fun _ => rfl, fun _ => rfl, fun _ => rfl, fun _ => rfl, fun _ => rfl, fun _ => rfl, fun _ => rfl, fun _ => rfl, fun _ => rfl, fun _ => rfl, fun _ => rfl, fun _ => rfl, fun _ => rfl, fun _ => rfl, fun _ => rfl, fun _ => rfl, fun _ => rfl, fun _ => rfl, fun _ => rfl, fun _ => rfl, fun _ => rfl, fun _ => rfl, fun _ => rfl, fun _ => rfl, fun _ => rfl, fun _ => rfl, fun _ => rfl, fun _ => rfl, fun _ => rfl, fun _ => rfl, fun _ => rfl, fun _ => rfl, fun _ => rfl, fun _ => rfl, fun _ => rfl, fun _ => rfl, fun _ => rfl, fun _ => rfl, fun _ => rfl, fun _ => rfl, fun _ => rfl, fun _ => rfl, fun _ => rfl, fun _ => rfl, fun _ => rfl, fun _ => rfl, trivial⟩
    · exact ⟨⟨rfl, rfl, rfl, fun _ => rfl⟩, ⟨rfl, rfl, rfl, fun _ => rfl⟩, trivial⟩
  · rintro ⟨⟨k, hk, hbe⟩, vs⟩
    conv => whnf
    refine bcase_intro (fun hlt => ?_) (fun hge => ?_)
    · have hlt : k < l.length := n_lt hlt
      conv => whnf
      rw [eff_index_sli (ho := ?hoi1) (hT := ?hTi1) (hx := ?hxi1) (hk := ?hki1) (hlt := ?hlti1)]
      case hoi1 => rfl
      case hTi1 => rfl
      case hxi1 => rfl
      case hki1 => rfl
      case hlti1 => exact hlt
      conv => whnf
      rw [eff_load_sub (ho := ?hol1) (hT := ?hTl1) (hx := ?hxl1) (hb := ?hbl1) (hm := ?hml1) (hv := ?hvl1)]
      case hol1 => rfl
      case hTl1 => rfl
      case hxl1 => rfl
      case hbl1 => rfl
      case hml1 => exact (by rw [Nat.zero_add]; exact subC_pts l hlt : subC (ptsC l) (0 + k * 3) 3 = some (ptC l[k]))
      case hvl1 => rfl
      conv => whnf
      refine bcase_intro (fun hle => ?_) (fun hle => ?_)
      · have hle : lessP l[k] p = false := by rw [← Bool.not_eq_true']; exact hle
        conv => whnf
        refine bcase_true (n_lt' hlt) ?_
        conv => whnf
        rw [eff_index_sli (ho := ?hoi2) (hT := ?hTi2) (hx := ?hxi2) (hk := ?hki2) (hlt := ?hlti2)]
        case hoi2 => rfl
        case hTi2 => rfl
        case hxi2 => rfl
        case hki2 => rfl
        case hlti2 => exact hlt
        conv => whnf
        rw [eff_load_sub (ho := ?hol2) (hT := ?hTl2) (hx := ?hxl2) (hb := ?hbl2) (hm := ?hml2) (hv := ?hvl2)]
        case hol2 => rfl
        case hTl2 => rfl
        case hxl2 => rfl
        case hbl2 => rfl
        case hml2 => exact (by rw [Nat.zero_add]; exact subC_pts l hlt : subC (ptsC l) (0 + k * 3) 3 = some (ptC l[k]))
        case hvl2 => rfl
        conv => whnf
        refine bcase_intro (fun he => ?_) (fun he => ?_)
        · have he : l[k] = p := (eqP_iff _ _).1 he
          have hm : p ∈ l := he ▸ List.getElem_mem hlt
          conv => whnf
          refine ⟨[0], [0], fun vs2 => ?_⟩
          conv => whnf
          refine ⟨ptsC_pure l, ?_⟩
          conv => whnf
          exact ⟨_, [], rfl, ⟨⟨rfl, rfl, rfl, fun _ => rfl⟩, trivial⟩, trivial, _, fun _ => rfl, hc hm⟩
        · have he : l[k] ≠ p := fun e => by have h2 := (eqP_iff _ _).2 e; rw [show eqP l[k] p = false from he] at h2; cases h2
          have haf : ∀ h : k < l.length, lessP p l[k] = true := fun _ => less_tot hle he
          conv => whnf
          rw [eff_slice_hi (h2 := sliOk_le2 hl hk) (ho := ?hosa) (hT := ?hTsa) (hx := ?hxsa) (hk := ?hksa) (hlt := ?hltsa)]
          case hosa => rfl
          case hTsa => rfl
          case hxsa => rfl
          case hksa => rfl
          case hltsa => exact Nat.le_trans hk hl.1
          conv => whnf
          rw [subC_pts_take l hk]
          conv => whnf
          refine ⟨allOne_pts _, ?_⟩
          conv => whnf
          refine ⟨by omega, fun c2 k2 => ?_⟩
          have hsz : sizeC (ptsC (l.take k)) = k * 3 := by rw [ptsC_size, List.length_take]; omega
          have hp3 : sizeC (ptC p) = 3 := rfl
          conv => whnf
          refine ⟨rfl, ?_⟩
          conv => whnf
          refine ⟨⟨rfl, rfl, hsz, fun _ => by have := k2.1; show sizeC (ptsC (l.take k)) + (c2 - k) * 3 = c2 * 3; omega, by omega⟩, fun c3 k3 => ?_⟩
          have hsz2 : sizeC (ptsC (l.take k) ++ ptC p) = (k + 1) * 3 := by rw [sizeC_append, hsz, hp3]; omega
          conv => whnf
          rw [eff_slice_lo (ho := ?hota) (hT := ?hTta) (hx := ?hxta) (hk := ?hkta) (hlt := ?hltta)]
          case hota => rfl
          case hTta => rfl
          case hxta => rfl
          case hkta => rfl
          case hltta => exact hk
          conv => whnf
          rw [subC_pts_drop l hk hl.1]
          conv => whnf
          refine ⟨allOne_pts _, ?_⟩
          conv => whnf
          refine ⟨⟨rfl, rfl, hsz2, fun _ => by have := k3.1; show sizeC (ptsC (l.take k) ++ ptC p) + (c3 - (k + 1)) * 3 = c3 * 3; omega, by omega⟩, fun c4 k4 => ?_⟩
          conv => whnf
          refine ⟨[0, 5], [0, 1], fun vs2 => ?_⟩
          conv => whnf
          refine ⟨ptsC_pure l, pureL_append (pureL_append (ptsC_pure _) (fun _ _ => rfl)) (ptsC_pure _), ?_⟩
          conv => whnf
          have hl2 : (l.take k ++ p :: l.drop k).length = k + 1 + (l.length - k) := by simp only [List.length_append, List.length_take, List.length_cons, List.length_drop]; omega
          have h4 : SliOk ((decide (k = 0) && decide (1 = 0)) && decide (l.length - k = 0)) (l.take k ++ p :: l.drop k).length c4 := by rw [hl2]; exact k4
          refine ⟨_, [(OP.mk _ _ c4 h4).blk], rfl, ⟨⟨rfl, rfl, rfl, fun _ => rfl⟩, ⟨rfl, rfl, ?_, fun ρ => ?_⟩, trivial⟩, ⟨OP.new _, trivial⟩, (OP.mk _ _ c4 h4).sl 1, fun ρ => ?_, hn _ (srt_ins hs hk hbe haf) (fun q => mem_ins) ?_⟩
          · simp only [OP.blk, hl2]
          · simp only [OP.blk, ptsC_append, ptsC, List.append_assoc]; rfl
          · simp only [OP.sl, SV.den, C.den, C.cells, hl2]
          · show (l.take k ++ p :: l.drop k).length = _; omega
      · have hle : lessP l[k] p = true := by rw [← Bool.not_eq_false']; exact hle
        conv => whnf
        refine ⟨[0, 1], [0, 3, 5], [0], fun vs2 => ?_⟩
        conv => whnf
        refine ⟨ptsC_pure l, ?_⟩
        conv => whnf
        refine ⟨_, _, ?_, ?_, (⟨k + 1, hlt, fun i hi hik => less_upto hbe hle i hi hik⟩, vs2), (by omega : l.length - (k + 1) < l.length - k), rfl, rfl⟩
        · exact ⟨fun _ => rfl, fun _ => rfl, fun _ => rfl, fun _ => rfl, fun _ => rfl, sint_eq (wrap_add1 hlt hl.ir) _ _, fun _ => rfl, fun _ => rfl, fun _ => rfl, fun _ => rfl, fun _ => rfl, fun _ => rfl, fun _ => rfl, fun _ => rfl, fun _ => rfl, fun _ => rfl, fun _ => rfl, fun _ => rfl, fun _ => rfl, fun _ => rfl, fun _ => rfl, fun _ => rfl, fun _ => rfl, fun _ => rfl, fun _ => rfl, fun _ => rfl, fun _ => rfl, fun _ => rfl, fun _ => rfl, fun _ => rfl, fun _ => rfl, fun _ => rfl, fun _ => rfl, fun _ => rfl, fun _ => rfl, fun _ => rfl, fun _ => rfl, fun _ => rfl, fun _ => rfl, fun _ => rfl, fun _ => rfl, fun _ => rfl, fun _ => rfl, fun _ => rfl, fun _ => rfl, fun _ => rfl, fun _ => rfl, fun _ => rfl, fun _ => rfl, trivial⟩
        · exact ⟨⟨rfl, rfl, rfl, fun _ => rfl⟩, ⟨rfl, rfl, rfl, fun _ => rfl⟩, trivial⟩
    · have hge : l.length ≤ k := n_ge hge
      have haf : ∀ h : k < l.length, lessP p l[k] = true := fun h => by omega
      conv => whnf
      refine bcase_false (n_ge' hge) ?_
      conv => whnf
      rw [eff_slice_hi (h2 := sliOk_le2 hl hk) (ho := ?hosb) (hT := ?hTsb) (hx := ?hxsb) (hk := ?hksb) (hlt := ?hltsb)]
      case hosb => rfl
      case hTsb => rfl
      case hxsb => rfl
      case hksb => rfl
      case hltsb => exact Nat.le_trans hk hl.1
      conv => whnf
      rw [subC_pts_take l hk]
      conv => whnf
      refine ⟨allOne_pts _, ?_⟩
      conv => whnf
      refine ⟨by omega, fun c2 k2 => ?_⟩
      have hsz : sizeC (ptsC (l.take k)) = k * 3 := by rw [ptsC_size, List.length_take]; omega
      have hp3 : sizeC (ptC p) = 3 := rfl
      conv => whnf
      refine ⟨rfl, ?_⟩
      conv => whnf
      refine ⟨⟨rfl, rfl, hsz, fun _ => by have := k2.1; show sizeC (ptsC (l.take k)) + (c2 - k) * 3 = c2 * 3; omega, by omega⟩, fun c3 k3 => ?_⟩
      have hsz2 : sizeC (ptsC (l.take k) ++ ptC p) = (k + 1) * 3 := by rw [sizeC_append, hsz, hp3]; omega
      conv => whnf
      rw [eff_slice_lo (ho := ?hotb) (hT := ?hTtb) (hx := ?hxtb) (hk := ?hktb) (hlt := ?hlttb)]
      case hotb => rfl
      case hTtb => rfl
      case hxtb => rfl
      case hktb => rfl
      case hlttb => exact hk
      conv => whnf
      rw [subC_pts_drop l hk hl.1]
      conv => whnf
      refine ⟨allOne_pts _, ?_⟩
      conv => whnf
      refine ⟨⟨rfl, rfl, hsz2, fun _ => by have := k3.1; show sizeC (ptsC (l.take k) ++ ptC p) + (c3 - (k + 1)) * 3 = c3 * 3; omega, by omega⟩, fun c4 k4 => ?_⟩
      conv => whnf
      refine ⟨[0, 5], [0, 1], fun vs2 => ?_⟩
      conv => whnf
      refine ⟨ptsC_pure l, pureL_append (pureL_append (ptsC_pure _) (fun _ _ => rfl)) (ptsC_pure _), ?_⟩
      conv => whnf
      have hl2 : (l.take k ++ p :: l.drop k).length = k + 1 + (l.length - k) := by simp only [List.length_append, List.length_take, List.length_cons, List.length_drop]; omega
      have h4 : SliOk ((decide (k = 0) && decide (1 = 0)) && decide (l.length - k = 0)) (l.take k ++ p :: l.drop k).length c4 := by rw [hl2]; exact k4
      refine ⟨_, [(OP.mk _ _ c4 h4).blk], rfl, ⟨⟨rfl, rfl, rfl, fun _ => rfl⟩, ⟨rfl, rfl, ?_, fun ρ => ?_⟩, trivial⟩, ⟨OP.new _, trivial⟩, (OP.mk _ _ c4 h4).sl 1, fun ρ => ?_, hn _ (srt_ins hs hk hbe haf) (fun q => mem_ins) ?_⟩
      · simp only [OP.blk, hl2]
      · simp only [OP.blk, ptsC_append, ptsC, List.append_assoc]; rfl
      · simp only [OP.sl, SV.den, C.den, C.cells, hl2]
      · show (l.take k ++ p :: l.drop k).length = _; omega
end Go.Proofs.YtapppahniablmaaDoor

namespace Go.Proofs.YtapppahniablmaaDoor
open Go.RowKit
set_option maxRecDepth 100000

theorem cor_take (l : List TR) {k : Nat} (hk : k < l.length) (q : PT) : q ∈ cor (l.take (k + 1)) ↔ q ∈ cor (l.take k) ∨ q ∈ corT l[k] := by
  rw [List.take_succ_eq_append_getElem hk]
  unfold cor
  rw [List.flatMap_append, List.mem_append]
  simp
theorem mem_same {l T : List PT} {C : PT → Prop} {j : Nat} (hj : j < T.length) (h : ∀ q, q ∈ l ↔ C q ∨ q ∈ T.take j) (hm : T[j] ∈ l) (q : PT) : q ∈ l ↔ C q ∨ q ∈ T.take (j + 1) := by
  rw [List.take_succ_eq_append_getElem hj, List.mem_append, List.mem_singleton]
  constructor
  · intro hq
    rcases (h q).1 hq with h1 | h1
    · exact .inl h1
    · exact .inr (.inl h1)
  · rintro (h1 | h1 | rfl)
    · exact (h q).2 (.inl h1)
    · exact (h q).2 (.inr h1)
    · exact hm
theorem mem_new {l l3 T : List PT} {C : PT → Prop} {j : Nat} (hj : j < T.length) (h : ∀ q, q ∈ l ↔ C q ∨ q ∈ T.take j) (h3 : ∀ q, q ∈ l3 ↔ q = T[j] ∨ q ∈ l) (q : PT) : q ∈ l3 ↔ C q ∨ q ∈ T.take (j + 1) := by
  rw [List.take_succ_eq_append_getElem hj, List.mem_append, List.mem_singleton, h3, h]
  constructor
  · rintro (h1 | h1 | h1)
    · exact .inr (.inr h1)
    · exact .inl h1
    · exact .inr (.inl h1)
  · rintro (h1 | h1 | h1)
    · exact .inr (.inl h1)
    · exact .inr (.inr h1)
    · exact .inl h1
def cCorners : NewC := fun args ros K => ∃ nl len cap h ty l, args = [.c (.sli nl 0 0 len cap h)] ∧ ros = [⟨ty, true, trsC l, 0⟩] ∧ l.length = len ∧ len ≤ 300000 ∧
  ∀ o : OP, Srt o.l → (∀ q, q ∈ o.l ↔ q ∈ cor l) → o.l.length ≤ 3 * len → K (o.sl 1) [o.blk]
def withC : List (FuncId × NewC) := [(48, cWith)]
theorem withC_ok : AllC Tryd.prog withC := .cons csWith .nil
theorem ir3 {j : Nat} (h : j ≤ 3) : IR j := by unfold IR; omega
/-- the list of corners after k triangles -/
def CorO (l : List TR) (k : Nat) (o : OP) : Prop := Srt o.l ∧ (∀ q, q ∈ o.l ↔ q ∈ cor (l.take k)) ∧ o.l.length ≤ 3 * k
def CorI (l : List TR) (k : Nat) (T : List PT) (j : Nat) (o : OP) : Prop := Srt o.l ∧ (∀ q, q ∈ o.l ↔ q ∈ cor (l.take k) ∨ q ∈ T.take j) ∧ o.l.length ≤ 3 * k + j
theorem CorI.len {l : List TR} {k : Nat} {T : List PT} {j : Nat} {o : OP} (h : CorI l k T j o) (hk : k < l.length) (hl : l.length ≤ 300000) (hj : j ≤ 3) : o.l.length ≤ 1000000 := by have := h.2.2; omega
set_option maxHeartbeats 8000000 in
theorem csCorners : CSp Tryd.prog 25 cCorners := csp_of (env_ok baseW_ok 0) mixed (hnew_ok withC_ok (inl_ok (env_ok baseW_ok 0) mixed noF_ok 0)) ⟨Tryd.func25, by kernel_rfl, by kernel_rfl⟩ fun args ros K hc => by
  obtain ⟨nl, _, cap, hl, ty, l, rfl, rfl, rfl, hlen, hc⟩ := hc
  refine ⟨fun ρ ρ' e => ?_, ?_⟩
  · have := e 0 (Nat.zero_lt_one)
    simp only [List.map, SV.den, C.den, C.cells, this]
  conv => whnf
  refine loop_st (G := {g : Nat × OP × (Nat → Value) // g.1 ≤ l.length ∧ CorO l g.1 g.2.1}) (fun g => [.c (.sli nl 0 0 l.length cap hl), .c (.val (g.1.2.2 1)), .c (.val (g.1.2.2 2)), g.1.2.1.sl 1, .c (.int (g.1.1 : Nat) (lt_ir hl g.2.1)), .c (.val (g.1.2.2 5)), .c (.val (g.1.2.2 6)), .c (.val (g.1.2.2 7)), .c (.val (g.1.2.2 8)), .c (.val (g.1.2.2 9)), .c (.val (g.1.2.2 10)), .c (.val (g.1.2.2 11)), .c (.val (g.1.2.2 12)), .c (.val (g.1.2.2 13)), .c (.val (g.1.2.2 14)), .c (.val (g.1.2.2 15)), .c (.val (g.1.2.2 16)), .c (.val (g.1.2.2 17)), .c (.val (g.1.2.2 18)), .c (.val (g.1.2.2 19)), .c (.val (g.1.2.2 20)), .c (.val (g.1.2.2 21)), .c (.val (g.1.2.2 22)), .c (.val (g.1.2.2 23)), .c (.val (g.1.2.2 24))]) (fun g => [⟨ty, true, trsC l, 0⟩, g.1.2.1.blk]) (fun g => l.length - g.1.1) ?_ ?_
  · refine ⟨[0, 1000 + 23], [0, 3, 4], [0], fun vs => ?_⟩
    conv => whnf
    refine ⟨pureL_trs l, ?_⟩
    conv => whnf
    refine ⟨_, _, ?_, ?_, ⟨(0, OP.none, vs), Nat.zero_le _, List.Pairwise.nil, fun q => Iff.rfl, Nat.zero_le _⟩, rfl, rfl⟩
    · exact ⟨fun _ => rfl, fun _ => rfl, fun _ => rfl, fun _ => rfl, fun _ => rfl, fun _ => rfl, fun _ => rfl, fun _ => rfl, fun _ => rfl, fun _ => rfl, fun _ => rfl, fun _ => rfl, fun _ => rfl, fun _ => rfl, fun _ => rfl, fun _ => rfl, fun _ => rfl, fun _ => rfl, fun _ => rfl, fun _ => rfl, fun _ => rfl, fun _ => rfl, fun _ => rfl, fun _ => rfl, fun _ => rfl, trivial⟩
    · exact ⟨⟨rfl, rfl, rfl, fun _ => rfl⟩, ⟨rfl, rfl, rfl, fun _ => rfl⟩, trivial⟩
  · rintro ⟨⟨k, o, vs⟩, hk, ho⟩
    have hk : k ≤ l.length := hk
    have ho : CorO l k o := ho
    conv => whnf
    refine bcase_intro (fun hlt => ?_) (fun hge => ?_)
    · have hlt : k < l.length := n_lt hlt
      conv => whnf
      refine loop_st (G := {g : Nat × OP × (Nat → Value) // g.1 ≤ 3 ∧ CorI l k (corT l[k]) g.1 g.2.1}) (fun g => [.c (.sli nl 0 0 l.length cap hl), .c (.val (g.1.2.2 1)), .c (.val (g.1.2.2 2)), g.1.2.1.sl 1, .c (.int (k : Nat) (lt_ir hl hk)), .c (.int (g.1.1 : Nat) (ir3 g.2.1)), .c (.val (g.1.2.2 6)), .c (.val (g.1.2.2 7)), .c (.val (g.1.2.2 8)), .c (.val (g.1.2.2 9)), .c (.val (g.1.2.2 10)), .c (.val (g.1.2.2 11)), .c (.val (g.1.2.2 12)), .c (.val (g.1.2.2 13)), .c (.val (g.1.2.2 14)), .c (.val (g.1.2.2 15)), .c (.val (g.1.2.2 16)), .c (.val (g.1.2.2 17)), .c (.val (g.1.2.2 18)), .c (.val (g.1.2.2 19)), .c (.val (g.1.2.2 20)), .c (.val (g.1.2.2 21)), .c (.val (g.1.2.2 22)), .c (.val (g.1.2.2 23)), .c (.val (g.1.2.2 24))]) (fun g => [⟨ty, true, trsC l, 0⟩, g.1.2.1.blk]) (fun g => 3 - g.1.1) ?_ ?_
      · refine ⟨[0, 1], [0, 3, 4, 5], [0, 1], fun vs2 => ?_⟩
        conv => whnf
        refine ⟨pureL_trs l, o.new.1, ?_⟩
        conv => whnf
        refine ⟨_, _, ?_, ?_, ⟨(0, o, vs2), Nat.zero_le _, ho.1, fun q => by rw [ho.2.1]; simp, ho.2.2⟩, rfl, rfl⟩
        · exact ⟨fun _ => rfl, fun _ => rfl, fun _ => rfl, fun _ => rfl, fun _ => rfl, fun _ => rfl, fun _ => rfl, fun _ => rfl, fun _ => rfl, fun _ => rfl, fun _ => rfl, fun _ => rfl, fun _ => rfl, fun _ => rfl, fun _ => rfl, fun _ => rfl, fun _ => rfl, fun _ => rfl, fun _ => rfl, fun _ => rfl, fun _ => rfl, fun _ => rfl, fun _ => rfl, fun _ => rfl, fun _ => rfl, trivial⟩
        · exact ⟨⟨rfl, rfl, rfl, fun _ => rfl⟩, ⟨rfl, rfl, rfl, fun _ => rfl⟩, trivial⟩
      · rintro ⟨⟨j, o2, vs2⟩, hj, ho2⟩
        have hj : j ≤ 3 := hj
        have ho2 : CorI l k (corT l[k]) j o2 := ho2
        have hcase : j = 3 ∨ j = 0 ∨ j = 1 ∨ j = 2 := by omega
        rcases hcase with rfl | rfl | rfl | rfl
        · conv => whnf
          refine ⟨[0, 1], [0, 3, 4], [0, 1], fun vs3 => ?_⟩
          conv => whnf
          refine ⟨pureL_trs l, o2.new.1, ?_⟩
          conv => whnf
          refine ⟨_, _, ?_, ?_, ⟨(k + 1, o2, vs3), hlt, ho2.1, fun q => by rw [cor_take l hlt]; exact ho2.2.1 q, by have := ho2.2.2; show o2.l.length ≤ 3 * (k + 1); omega⟩, (by omega : l.length - (k + 1) < l.length - k), rfl, rfl⟩
          · exact ⟨fun _ => rfl, fun _ => rfl, fun _ => rfl, fun _ => rfl, sint_eq (wrap_add1 hlt hl.ir) _ _, fun _ => rfl, fun _ => rfl, fun _ => rfl, fun _ => rfl, fun _ => rfl, fun _ => rfl, fun _ => rfl, fun _ => rfl, fun _ => rfl, fun _ => rfl, fun _ => rfl, fun _ => rfl, fun _ => rfl, fun _ => rfl, fun _ => rfl, fun _ => rfl, fun _ => rfl, fun _ => rfl, fun _ => rfl, fun _ => rfl, trivial⟩
          · exact ⟨⟨rfl, rfl, rfl, fun _ => rfl⟩, ⟨rfl, rfl, rfl, fun _ => rfl⟩, trivial⟩
        · conv => whnf
          rw [eff_index_sli (ho := ?hoi0) (hT := ?hTi0) (hx := ?hxi0) (hk := ?hki0) (hlt := ?hlti0)]
          case hoi0 => rfl
          case hTi0 => rfl
          case hxi0 => rfl
          case hki0 => rfl
          case hlti0 => exact hlt
          conv => whnf
          rw [eff_load_sub (ho := ?hol0) (hT := ?hTl0) (hx := ?hxl0) (hb := ?hbl0) (hm := ?hml0) (hv := ?hvl0)]
          case hol0 => rfl
          case hTl0 => rfl
          case hxl0 => rfl
          case hbl0 => rfl
          case hml0 => exact subC_pt l hlt _ (r := ptC l[k].a) rfl
          case hvl0 => rfl
          conv => whnf
          refine ⟨fun _ _ => rfl, ?_⟩
          conv => whnf
          refine ⟨⟨ptsC_pure o2.l, trivial⟩, ⟨_, _, _, _, _, o2.l, l[k].a, rfl, rfl, rfl, ho2.len hlt hlen (by decide), ho2.1, fun hm => ?_, fun o3 h3 hq hlen => ?_⟩⟩
          · conv => whnf
            refine ⟨[0, 1], [0, 3, 4, 5], [0, 1], fun vs3 => ?_⟩
            conv => whnf
            refine ⟨pureL_trs l, o2.new.1, ?_⟩
            conv => whnf
            refine ⟨_, _, ?_, ?_, ⟨(1, o2, vs3), (by decide : 1 ≤ 3), ho2.1, mem_same (T := corT l[k]) (C := fun q => q ∈ cor (l.take k)) (j := 0) (show 0 < 3 by decide) ho2.2.1 hm, Nat.le_succ_of_le ho2.2.2⟩, (by decide : 3 - 1 < 3 - 0), rfl, rfl⟩
            · exact ⟨fun _ => rfl, fun _ => rfl, fun _ => rfl, fun _ => rfl, fun _ => rfl, fun _ => rfl, fun _ => rfl, fun _ => rfl, fun _ => rfl, fun _ => rfl, fun _ => rfl, fun _ => rfl, fun _ => rfl, fun _ => rfl, fun _ => rfl, fun _ => rfl, fun _ => rfl, fun _ => rfl, fun _ => rfl, fun _ => rfl, fun _ => rfl, fun _ => rfl, fun _ => rfl, fun _ => rfl, fun _ => rfl, trivial⟩
            · exact ⟨⟨rfl, rfl, rfl, fun _ => rfl⟩, ⟨rfl, rfl, rfl, fun _ => rfl⟩, trivial⟩
          · conv => whnf
            refine ⟨[0, 2], [0, 3, 4, 5], [0, 1], fun vs3 => ?_⟩
            conv => whnf
            refine ⟨pureL_trs l, o3.new.1, ?_⟩
            conv => whnf
            refine ⟨_, _, ?_, ?_, ⟨(1, o3, vs3), (by decide : 1 ≤ 3), h3, mem_new (T := corT l[k]) (C := fun q => q ∈ cor (l.take k)) (j := 0) (show 0 < 3 by decide) ho2.2.1 hq, by have := ho2.2.2; show o3.l.length ≤ 3 * k + 1; omega⟩, (by decide : 3 - 1 < 3 - 0), rfl, rfl⟩
            · exact ⟨fun _ => rfl, fun _ => rfl, fun _ => rfl, fun _ => rfl, fun _ => rfl, fun _ => rfl, fun _ => rfl, fun _ => rfl, fun _ => rfl, fun _ => rfl, fun _ => rfl, fun _ => rfl, fun _ => rfl, fun _ => rfl, fun _ => rfl, fun _ => rfl, fun _ => rfl, fun _ => rfl, fun _ => rfl, fun _ => rfl, fun _ => rfl, fun _ => rfl, fun _ => rfl, fun _ => rfl, fun _ => rfl, trivial⟩
            · exact ⟨⟨rfl, rfl, rfl, fun _ => rfl⟩, ⟨rfl, rfl, rfl, fun _ => rfl⟩, trivial⟩
        · conv => whnf
          rw [eff_index_sli (ho := ?hoi1) (hT := ?hTi1) (hx := ?hxi1) (hk := ?hki1) (hlt := ?hlti1)]
          case hoi1 => rfl
          case hTi1 => rfl
          case hxi1 => rfl
          case hki1 => rfl
          case hlti1 => exact hlt
          conv => whnf
          rw [eff_load_sub (ho := ?hol1) (hT := ?hTl1) (hx := ?hxl1) (hb := ?hbl1) (hm := ?hml1) (hv := ?hvl1)]
          case hol1 => rfl
          case hTl1 => rfl
          case hxl1 => rfl
          case hbl1 => rfl
          case hml1 => exact subC_pt l hlt _ (r := ptC l[k].b) rfl
          case hvl1 => rfl
          conv => whnf
          refine ⟨fun _ _ => rfl, ?_⟩
          conv => whnf
          refine ⟨⟨ptsC_pure o2.l, trivial⟩, ⟨_, _, _, _, _, o2.l, l[k].b, rfl, rfl, rfl, ho2.len hlt hlen (by decide), ho2.1, fun hm => ?_, fun o3 h3 hq hlen => ?_⟩⟩
          · conv => whnf
            refine ⟨[0, 1], [0, 3, 4, 5], [0, 1], fun vs3 => ?_⟩
            conv => whnf
            refine ⟨pureL_trs l, o2.new.1, ?_⟩
            conv => whnf
            refine ⟨_, _, ?_, ?_, ⟨(2, o2, vs3), (by decide : 2 ≤ 3), ho2.1, mem_same (T := corT l[k]) (C := fun q => q ∈ cor (l.take k)) (j := 1) (show 1 < 3 by decide) ho2.2.1 hm, Nat.le_succ_of_le ho2.2.2⟩, (by decide : 3 - 2 < 3 - 1), rfl, rfl⟩
            · exact ⟨fun _ => rfl, fun _ => rfl, fun _ => rfl, fun _ => rfl, fun _ => rfl, fun _ => rfl, fun _ => rfl, fun _ => rfl, fun _ => rfl, fun _ => rfl, fun _ => rfl, fun _ => rfl, fun _ => rfl, fun _ => rfl, fun _ => rfl, fun _ => rfl, fun _ => rfl, fun _ => rfl, fun _ => rfl, fun _ => rfl, fun _ => rfl, fun _ => rfl, fun _ => rfl, fun _ => rfl, fun _ => rfl, trivial⟩
            · exact ⟨⟨rfl, rfl, rfl, fun _ => rfl⟩, ⟨rfl, rfl, rfl, fun _ => rfl⟩, trivial⟩
          · conv => whnf
            refine ⟨[0, 2], [0, 3, 4, 5], [0, 1], fun vs3 => ?_⟩
            conv => whnf
            refine ⟨pureL_trs l, o3.new.1, ?_⟩
            conv => whnf
            refine ⟨_, _, ?_, ?_, ⟨(2, o3, vs3), (by decide : 2 ≤ 3), h3, mem_new (T := corT l[k]) (C := fun q => q ∈ cor (l.take k)) (j := 1) (show 1 < 3 by decide) ho2.2.1 hq, by have := ho2.2.2; show o3.l.length ≤ 3 * k + 2; omega⟩, (by decide : 3 - 2 < 3 - 1), rfl, rfl⟩
            · exact ⟨fun _ => rfl, fun _ => rfl, fun _ => rfl, fun _ => rfl, fun _ => rfl, fun _ => rfl, fun _ => rfl, fun _ => rfl, fun _ => rfl, fun _ => rfl, fun _ => rfl, fun _ => rfl, fun _ => rfl, fun _ => rfl, fun _ => rfl, fun _ => rfl, fun _ => rfl, fun _ => rfl, fun _ => rfl, fun _ => rfl, fun _ => rfl, fun _ => rfl, fun _ => rfl, fun _ => rfl, fun _ => rfl, trivial⟩
            · exact ⟨⟨rfl, rfl, rfl, fun _ => rfl⟩, ⟨rfl, rfl, rfl, fun _ => rfl⟩, trivial⟩
        · conv => whnf
          rw [eff_index_sli (ho := ?hoi2) (hT := ?hTi2) (hx := ?hxi2) (hk := ?hki2) (hlt := ?hlti2)]
          case hoi2 => rfl
          case hTi2 => rfl
          case hxi2 => rfl
          case hki2 => rfl
          case hlti2 => exact hlt
          conv => whnf
          rw [eff_load_sub (ho := ?hol2) (hT := ?hTl2) (hx := ?hxl2) (hb := ?hbl2) (hm := ?hml2) (hv := ?hvl2)]
          case hol2 => rfl
          case hTl2 => rfl
          case hxl2 => rfl
          case hbl2 => rfl
          case hml2 => exact subC_pt l hlt _ (r := ptC l[k].c) rfl
          case hvl2 => rfl
          conv => whnf
          refine ⟨fun _ _ => rfl, ?_⟩
          conv => whnf
          refine ⟨⟨ptsC_pure o2.l, trivial⟩, ⟨_, _, _, _, _, o2.l, l[k].c, rfl, rfl, rfl, ho2.len hlt hlen (by decide), ho2.1, fun hm => ?_, fun o3 h3 hq hlen => ?_⟩⟩
          · conv => whnf
            refine ⟨[0, 1], [0, 3, 4, 5], [0, 1], fun vs3 => ?_⟩
            conv => whnf
            refine ⟨pureL_trs l, o2.new.1, ?_⟩
            conv => whnf
            refine ⟨_, _, ?_, ?_, ⟨(3, o2, vs3), (by decide : 3 ≤ 3), ho2.1, mem_same (T := corT l[k]) (C := fun q => q ∈ cor (l.take k)) (j := 2) (show 2 < 3 by decide) ho2.2.1 hm, Nat.le_succ_of_le ho2.2.2⟩, (by decide : 3 - 3 < 3 - 2), rfl, rfl⟩
            · exact ⟨fun _ => rfl, fun _ => rfl, fun _ => rfl, fun _ => rfl, fun _ => rfl, fun _ => rfl, fun _ => rfl, fun _ => rfl, fun _ => rfl, fun _ => rfl, fun _ => rfl, fun _ => rfl, fun _ => rfl, fun _ => rfl, fun _ => rfl, fun _ => rfl, fun _ => rfl, fun _ => rfl, fun _ => rfl, fun _ => rfl, fun _ => rfl, fun _ => rfl, fun _ => rfl, fun _ => rfl, fun _ => rfl, trivial⟩
            · exact ⟨⟨rfl, rfl, rfl, fun _ => rfl⟩, ⟨rfl, rfl, rfl, fun _ => rfl⟩, trivial⟩
          · conv => whnf
            refine ⟨[0, 2], [0, 3, 4, 5], [0, 1], fun vs3 => ?_⟩
            conv => whnf
            refine ⟨pureL_trs l, o3.new.1, ?_⟩
            conv => whnf
            refine ⟨_, _, ?_, ?_, ⟨(3, o3, vs3), (by decide : 3 ≤ 3), h3, mem_new (T := corT l[k]) (C := fun q => q ∈ cor (l.take k)) (j := 2) (show 2 < 3 by decide) ho2.2.1 hq, by have := ho2.2.2; show o3.l.length ≤ 3 * k + 3; omega⟩, (by decide : 3 - 3 < 3 - 2), rfl, rfl⟩
            · exact ⟨fun _ => rfl, fun _ => rfl, fun _ => rfl, fun _ => rfl, fun _ => rfl, fun _ => rfl, fun _ => rfl, fun _ => rfl, fun _ => rfl, fun _ => rfl, fun _ => rfl, fun _ => rfl, fun _ => rfl, fun _ => rfl, fun _ => rfl, fun _ => rfl, fun _ => rfl, fun _ => rfl, fun _ => rfl, fun _ => rfl, fun _ => rfl, fun _ => rfl, fun _ => rfl, fun _ => rfl, fun _ => rfl, trivial⟩
            · exact ⟨⟨rfl, rfl, rfl, fun _ => rfl⟩, ⟨rfl, rfl, rfl, fun _ => rfl⟩, trivial⟩
    · have hge : k = l.length := Nat.le_antisymm hk (n_ge hge)
      subst hge
      conv => whnf
      refine ⟨[0, 1], [0, 1], fun vs3 => ?_⟩
      conv => whnf
      refine ⟨pureL_trs l, o.new.1, ?_⟩
      conv => whnf
      exact ⟨_, [o.blk], rfl, ⟨⟨rfl, rfl, rfl, fun _ => rfl⟩, ⟨rfl, rfl, rfl, fun _ => rfl⟩, trivial⟩, ⟨o.new, trivial⟩, o.sl 1, fun _ => rfl, hc o ho.1 (fun q => by rw [ho.2.1 q, List.take_length]) ho.2.2⟩
end Go.Proofs.YtapppahniablmaaDoor

namespace Go.Proofs.YtapppahniablmaaDoor
open Go.RowKit
set_option maxRecDepth 100000

def posC : List (FuncId × NewC) := [(22, cShape), (25, cCorners)]
theorem posC_ok : AllC Tryd.prog posC := .cons csShape (.cons csCorners .nil)
def allC (l : List TR) (hl : l.length ≤ 300000) : List C := [.wid 3510 (sum3 l 0) (sum3_sm 0 hl), .wid 3510 (sum3 l 1) (sum3_sm 1 hl), .wid 3510 (sum3 l 2) (sum3_sm 2 hl), .wid 3510 (sum3 l 3) (sum3_sm 3 hl), .wid 3510 (sum3 l 4) (sum3_sm 4 hl), .wid 3510 (sum3 l 5) (sum3_sm 5 hl), .wid 3510 (sum3 l 6) (sum3_sm 6 hl), .wid 3510 (sum3 l 7) (sum3_sm 7 hl), .wid 3510 (sum3 l 8) (sum3_sm 8 hl), .wid 3510 (sum3 l 9) (sum3_sm 9 hl)]
def corC (cs : List PT) (l : List TR) (hl : l.length ≤ 1000000) (hc : cs.length ≤ 1000000) : List C := [.wid 3530 (corQ cs l 0) (corQ_sm 0 hl hc), .wid 3530 (corQ cs l 1) (corQ_sm 1 hl hc), .wid 3530 (corQ cs l 2) (corQ_sm 2 hl hc), .wid 3530 (corQ cs l 3) (corQ_sm 3 hl hc), .wid 3530 (corQ cs l 4) (corQ_sm 4 hl hc), .wid 3530 (corQ cs l 5) (corQ_sm 5 hl hc), .wid 3530 (corQ cs l 6) (corQ_sm 6 hl hc), .wid 3530 (corQ cs l 7) (corQ_sm 7 hl hc), .wid 3530 (corQ cs l 8) (corQ_sm 8 hl hc), .wid 3530 (corQ cs l 9) (corQ_sm 9 hl hc)]
theorem take_le3 {l : List TR} (h1 : l.length ≤ 300000) (k : Nat) : (l.take k).length ≤ 300000 := by rw [List.length_take]; omega
theorem take_lep {l : List PT} (h1 : l.length ≤ 1000000) (k : Nat) : (l.take k).length ≤ 1000000 := by rw [List.length_take]; omega
theorem neg_no {l : List TR} {c p : PT} : decide (aroAt l c p < 0) = false := by have := aroAt_nonneg c p l; exact decide_eq_false (by omega)
theorem cor_no {l : List TR} {c : PT} : decide (aroAt l c c = 0) = true := decide_eq_true (aroAt_corner c l)
set_option maxHeartbeats 16000000 in
theorem csLawPos : CSp Tryd.prog 8 cLaw := csp_of (envR_ok base10_ok readers2_ok 0) mixed (hnew_ok posC_ok (inl_ok (envR_ok base10_ok readers2_ok 20) mixed noF_ok 0)) ⟨Tryd.func8, by kernel_rfl, by kernel_rfl⟩ fun args ros K hc => by
  obtain ⟨⟨b, _, ty, L, p, rfl, rfl, hv⟩, hc⟩ := hc
  rcases hv with ⟨nl, len, cap, hl, rfl, hL⟩ | ⟨a, cap, rfl, rfl, rfl⟩
  · refine ⟨fun ρ ρ' e => ?_, ?_⟩
    · have := e 0 (Nat.zero_lt_one)
      simp only [List.map, SV.den, C.den, C.cells, this]
      rfl
    conv => whnf
    refine ⟨⟨intsC_pure L, trivial⟩, .inl ⟨⟨_, _, _, _, _, _, L, rfl, rfl, hL⟩, fun o ho => ?_⟩⟩
    conv => whnf
    have hn : o.l.length ≤ 1000000 := by omega
    have hn3 : o.l.length ≤ 300000 := by omega
    refine loop_st (G := {k : Nat // k ≤ o.l.length} × (Nat → Value)) (fun g => [.c (.val (g.2 0)), .c (.val (g.2 1)), .c (.val (g.2 2)), .c (.val (g.2 3)), .c (.val (g.2 4)), .c (.ptr 1 0), .c (.val (g.2 6)), .c (.val (.bool true)), o.sl 2, .c (.ptr 3 0), .c (.ptr 4 0), .c (.val (g.2 11)), .c (.val (g.2 12)), .c (.val (g.2 13)), .c (.val (g.2 14)), .c (.val (g.2 15)), .c (.val (g.2 16)), .c (.val (g.2 17)), .c (.val (g.2 18)), .c (.val (g.2 19)), .c (.val (g.2 20)), o.sl 2, .c (.int (o.l.length : Nat) o.ok.ir), .c (.int (g.1.1 : Nat) (lt_ir o.ok g.1.2)), .c (.val (g.2 24)), .c (.val (g.2 25)), .c (.val (g.2 26)), .c (.val (g.2 27)), .c (.val (g.2 28)), .c (.val (g.2 29)), .c (.val (g.2 30)), .c (.val (g.2 31)), .c (.val (g.2 32)), .c (.val (g.2 33)), .c (.val (g.2 34)), .c (.val (g.2 35)), .c (.val (g.2 36)), .c (.val (g.2 37)), .c (.val (g.2 38)), .c (.val (g.2 39)), .c (.val (g.2 40)), .c (.val (g.2 41)), .c (.val (g.2 42)), .c (.val (g.2 43)), .c (.val (g.2 44)), .c (.val (g.2 45)), .c (.val (g.2 46)), .c (.val (g.2 47)), .c (.val (g.2 48)), .c (.val (g.2 49)), .c (.val (g.2 50)), .c (.val (g.2 51)), .c (.val (g.2 52)), .c (.val (g.2 53)), .c (.val (g.2 54)), .c (.val (g.2 55)), .c (.val (g.2 56)), .c (.val (g.2 57)), .c (.val (g.2 58)), .c (.val (g.2 59)), .c (.val (g.2 60)), .c (.val (g.2 61)), .c (.val (g.2 62)), .c (.val (g.2 63)), .c (.val (g.2 64)), .c (.val (g.2 65)), .c (.val (g.2 66)), .c (.val (g.2 67))]) (fun g => [⟨ty, true, intsC L, 0⟩, ⟨23, false, ptC p, 0⟩, o.blk, ⟨28, false, allC (o.l.take (g.1.1)) (take_le3 hn3 (g.1.1)), 0⟩, ⟨28, false, [zw, zw, zw, zw, zw, zw, zw, zw, zw, zw], 0⟩]) (fun g => o.l.length - g.1.1) ?_ ?_
    · refine ⟨[0, 1, 2, 3, 4], [5, 7, 8, 9, 10, 21, 22, 23], [0, 2], fun vs => ?_⟩
      conv => whnf
      refine ⟨intsC_pure L, o.new.1, ?_⟩
      conv => whnf
      refine ⟨_, _, ?_, ?_, (⟨0, Nat.zero_le _⟩, vs), rfl, rfl⟩
      · exact ⟨fun _ => rfl, fun _ => rfl, fun _ => rfl, fun _ => rfl, fun _ => rfl, fun _ => rfl, fun _ => rfl, fun _ => rfl, fun _ => rfl, fun _ => rfl, fun _ => rfl, fun _ => rfl, fun _ => rfl, fun _ => rfl, fun _ => rfl, fun _ => rfl, fun _ => rfl, fun _ => rfl, fun _ => rfl, fun _ => rfl, fun _ => rfl, fun _ => rfl, fun _ => rfl, fun _ => rfl, fun _ => rfl, fun _ => rfl, fun _ => rfl, fun _ => rfl, fun _ => rfl, fun _ => rfl, fun _ => rfl, fun _ => rfl, fun _ => rfl, fun _ => rfl, fun _ => rfl, fun _ => rfl, fun _ => rfl, fun _ => rfl, fun _ => rfl, fun _ => rfl, fun _ => rfl, fun _ => rfl, fun _ => rfl, fun _ => rfl, fun _ => rfl, fun _ => rfl, fun _ => rfl, fun _ => rfl, fun _ => rfl, fun _ => rfl, fun _ => rfl, fun _ => rfl, fun _ => rfl, fun _ => rfl, fun _ => rfl, fun _ => rfl, fun _ => rfl, fun _ => rfl, fun _ => rfl, fun _ => rfl, fun _ => rfl, fun _ => rfl, fun _ => rfl, fun _ => rfl, fun _ => rfl, fun _ => rfl, fun _ => rfl, fun _ => rfl, trivial⟩
      · exact ⟨⟨rfl, rfl, rfl, fun _ => rfl⟩, ⟨rfl, rfl, rfl, fun _ => rfl⟩, ⟨rfl, rfl, rfl, fun _ => rfl⟩, ⟨rfl, rfl, rfl, fun _ => rfl⟩, ⟨rfl, rfl, rfl, fun _ => rfl⟩, trivial⟩
    · rintro ⟨⟨k, hk⟩, vs⟩
      conv => whnf
      refine bcase_intro (fun hlt => ?_) (fun hge => ?_)
      · have hlt : k < o.l.length := n_lt hlt
        conv => whnf
        rw [eff_index_sli (ho := ?hoi) (hT := ?hTi) (hx := ?hxi) (hk := ?hki) (hlt := ?hlti)]
        case hoi => rfl
        case hTi => rfl
        case hxi => rfl
        case hki => rfl
        case hlti => exact hlt
        conv => whnf
        rw [eff_load_sub (ho := ?hol) (hT := ?hTl) (hx := ?hxl) (hb := ?hbl) (hm := ?hml) (hv := ?hvl)]
        case hol => rfl
        case hTl => rfl
        case hxl => rfl
        case hbl => rfl
        case hml => exact (by rw [Nat.zero_add]; exact subC_trs o.l hlt : subC (trsC o.l) (0 + k * 9) 9 = some (trC o.l[k]))
        case hvl => rfl
        conv => whnf
        refine ⟨[0, 1, 2, 3, 4], [5, 7, 8, 9, 10, 21, 22, 23], [0, 2], fun vs2 => ?_⟩
        conv => whnf
        refine ⟨intsC_pure L, o.new.1, ?_⟩
        conv => whnf
        refine ⟨_, _, ?_, ?_, (⟨k + 1, hlt⟩, vs2), (by omega : o.l.length - (k + 1) < o.l.length - k), rfl, rfl⟩
        · exact ⟨fun _ => rfl, fun _ => rfl, fun _ => rfl, fun _ => rfl, fun _ => rfl, fun _ => rfl, fun _ => rfl, fun _ => rfl, fun _ => rfl, fun _ => rfl, fun _ => rfl, fun _ => rfl, fun _ => rfl, fun _ => rfl, fun _ => rfl, fun _ => rfl, fun _ => rfl, fun _ => rfl, fun _ => rfl, fun _ => rfl, fun _ => rfl, fun _ => rfl, fun _ => rfl, sint_eq (wrap_add1 hlt o.ok.ir) _ _, fun _ => rfl, fun _ => rfl, fun _ => rfl, fun _ => rfl, fun _ => rfl, fun _ => rfl, fun _ => rfl, fun _ => rfl, fun _ => rfl, fun _ => rfl, fun _ => rfl, fun _ => rfl, fun _ => rfl, fun _ => rfl, fun _ => rfl, fun _ => rfl, fun _ => rfl, fun _ => rfl, fun _ => rfl, fun _ => rfl, fun _ => rfl, fun _ => rfl, fun _ => rfl, fun _ => rfl, fun _ => rfl, fun _ => rfl, fun _ => rfl, fun _ => rfl, fun _ => rfl, fun _ => rfl, fun _ => rfl, fun _ => rfl, fun _ => rfl, fun _ => rfl, fun _ => rfl, fun _ => rfl, fun _ => rfl, fun _ => rfl, fun _ => rfl, fun _ => rfl, fun _ => rfl, fun _ => rfl, fun _ => rfl, fun _ => rfl, trivial⟩
        · refine ⟨⟨rfl, rfl, rfl, fun _ => rfl⟩, ⟨rfl, rfl, rfl, fun _ => rfl⟩, ⟨rfl, rfl, rfl, fun _ => rfl⟩, ⟨rfl, rfl, rfl, fun ρ => ?_⟩, ⟨rfl, rfl, rfl, fun _ => rfl⟩, trivial⟩
          refine (cells_congr (wid_eq ?_ ρ) (cells_congr (wid_eq ?_ ρ) (cells_congr (wid_eq ?_ ρ) (cells_congr (wid_eq ?_ ρ) (cells_congr (wid_eq ?_ ρ) (cells_congr (wid_eq ?_ ρ) (cells_congr (wid_eq ?_ ρ) (cells_congr (wid_eq ?_ ρ) (cells_congr (wid_eq ?_ ρ) (cells_congr (wid_eq ?_ ρ) rfl))))))))))
          all_goals (rw [sum3_take o.l _ k hlt]; rfl)
      · have hge : k = o.l.length := Nat.le_antisymm hk (n_ge hge)
        subst hge
        conv => whnf
        refine ⟨⟨pureL_trs o.l, trivial⟩, ⟨_, _, _, _, _, o.l, rfl, rfl, rfl, hn3, fun oc hsrt hmem hcl3 => ?_⟩⟩
        conv => whnf
        have hcl : oc.l.length ≤ 1000000 := by omega
        refine loop_st (G := {k : Nat // k ≤ oc.l.length} × (Nat → Value)) (fun g => [.c (.val (g.2 0)), .c (.val (g.2 1)), .c (.val (g.2 2)), .c (.val (g.2 3)), .c (.val (g.2 4)), .c (.ptr 1 0), .c (.val (g.2 6)), .c (.val (.bool true)), o.sl 2, .c (.ptr 3 0), .c (.ptr 4 0), .c (.val (g.2 11)), .c (.val (g.2 12)), .c (.val (g.2 13)), .c (.val (g.2 14)), .c (.val (g.2 15)), .c (.val (g.2 16)), .c (.val (g.2 17)), .c (.val (g.2 18)), .c (.val (g.2 19)), .c (.val (g.2 20)), .c (.val (g.2 21)), .c (.val (g.2 22)), .c (.val (g.2 23)), .c (.val (g.2 24)), .c (.val (g.2 25)), .c (.val (g.2 26)), .c (.val (g.2 27)), .c (.val (g.2 28)), .c (.val (g.2 29)), .c (.val (g.2 30)), .c (.val (g.2 31)), .c (.val (g.2 32)), .c (.val (g.2 33)), .c (.val (g.2 34)), .c (.val (g.2 35)), .c (.val (g.2 36)), .c (.val (g.2 37)), oc.sl 5, .c (.int (oc.l.length : Nat) oc.ok.ir), .c (.int (g.1.1 : Nat) (lt_ir oc.ok g.1.2)), .c (.val (g.2 41)), .c (.val (g.2 42)), .c (.val (g.2 43)), .c (.val (g.2 44)), .c (.val (g.2 45)), .c (.val (g.2 46)), .c (.val (g.2 47)), .c (.val (g.2 48)), .c (.val (g.2 49)), .c (.val (g.2 50)), .c (.val (g.2 51)), .c (.val (g.2 52)), .c (.val (g.2 53)), .c (.val (g.2 54)), .c (.val (g.2 55)), .c (.val (g.2 56)), .c (.val (g.2 57)), .c (.val (g.2 58)), .c (.val (g.2 59)), .c (.val (g.2 60)), .c (.val (g.2 61)), .c (.val (g.2 62)), .c (.val (g.2 63)), .c (.val (g.2 64)), .c (.val (g.2 65)), .c (.val (g.2 66)), .c (.val (g.2 67))]) (fun g => [⟨ty, true, intsC L, 0⟩, ⟨23, false, ptC p, 0⟩, o.blk, ⟨28, false, allC o.l hn3, 0⟩, ⟨28, false, corC (oc.l.take (g.1.1)) o.l hn (take_lep hcl (g.1.1)), 0⟩, oc.blk]) (fun g => oc.l.length - g.1.1) ?_ ?_
        · refine ⟨[0, 1, 2, 3, 4, 5], [5, 7, 8, 9, 10, 38, 39, 40], [0, 2, 5], fun vs => ?_⟩
          conv => whnf
          refine ⟨intsC_pure L, o.new.1, oc.new.1, ?_⟩
          conv => whnf
          refine ⟨_, _, ?_, ?_, (⟨0, Nat.zero_le _⟩, vs), rfl, rfl⟩
          · exact ⟨fun _ => rfl, fun _ => rfl, fun _ => rfl, fun _ => rfl, fun _ => rfl, fun _ => rfl, fun _ => rfl, fun _ => rfl, fun _ => rfl, fun _ => rfl, fun _ => rfl, fun _ => rfl, fun _ => rfl, fun _ => rfl, fun _ => rfl, fun _ => rfl, fun _ => rfl, fun _ => rfl, fun _ => rfl, fun _ => rfl, fun _ => rfl, fun _ => rfl, fun _ => rfl, fun _ => rfl, fun _ => rfl, fun _ => rfl, fun _ => rfl, fun _ => rfl, fun _ => rfl, fun _ => rfl, fun _ => rfl, fun _ => rfl, fun _ => rfl, fun _ => rfl, fun _ => rfl, fun _ => rfl, fun _ => rfl, fun _ => rfl, fun _ => rfl, fun _ => rfl, fun _ => rfl, fun _ => rfl, fun _ => rfl, fun _ => rfl, fun _ => rfl, fun _ => rfl, fun _ => rfl, fun _ => rfl, fun _ => rfl, fun _ => rfl, fun _ => rfl, fun _ => rfl, fun _ => rfl, fun _ => rfl, fun _ => rfl, fun _ => rfl, fun _ => rfl, fun _ => rfl, fun _ => rfl, fun _ => rfl, fun _ => rfl, fun _ => rfl, fun _ => rfl, fun _ => rfl, fun _ => rfl, fun _ => rfl, fun _ => rfl, fun _ => rfl, trivial⟩
          · refine ⟨⟨rfl, rfl, rfl, fun _ => rfl⟩, ⟨rfl, rfl, rfl, fun _ => rfl⟩, ⟨rfl, rfl, rfl, fun _ => rfl⟩, ⟨rfl, rfl, rfl, fun ρ => ?_⟩, ⟨rfl, rfl, rfl, fun _ => rfl⟩, ⟨rfl, rfl, rfl, fun _ => rfl⟩, trivial⟩
            refine (cells_congr (wid_eq ?_ ρ) (cells_congr (wid_eq ?_ ρ) (cells_congr (wid_eq ?_ ρ) (cells_congr (wid_eq ?_ ρ) (cells_congr (wid_eq ?_ ρ) (cells_congr (wid_eq ?_ ρ) (cells_congr (wid_eq ?_ ρ) (cells_congr (wid_eq ?_ ρ) (cells_congr (wid_eq ?_ ρ) (cells_congr (wid_eq ?_ ρ) rfl))))))))))
            all_goals rw [List.take_length]
        · rintro ⟨⟨i, hi⟩, vs⟩
          conv => whnf
          refine bcase_intro (fun hlt => ?_) (fun hge => ?_)
          · have hlt : i < oc.l.length := n_lt hlt
            conv => whnf
            rw [eff_index_sli (ho := ?hoi) (hT := ?hTi) (hx := ?hxi) (hk := ?hki) (hlt := ?hlti)]
            case hoi => rfl
            case hTi => rfl
            case hxi => rfl
            case hki => rfl
            case hlti => exact hlt
            conv => whnf
            rw [eff_load_sub (ho := ?hol) (hT := ?hTl) (hx := ?hxl) (hb := ?hbl) (hm := ?hml) (hv := ?hvl)]
            case hol => rfl
            case hTl => rfl
            case hxl => rfl
            case hbl => rfl
            case hml => exact (by rw [Nat.zero_add]; exact subC_pts oc.l hlt : subC (ptsC oc.l) (0 + i * 3) 3 = some (ptC oc.l[i]))
            case hvl => rfl
            conv => whnf
            rw [dq (hn := hn) (o := o) (b := 2) (p := oc.l[i]) (ha := ?haz1) (hb := ?hbz1)]
            case haz1 => rfl
            case hbz1 => rfl
            conv => whnf
            refine bcase_false (neg_no (l := o.l) (c := oc.l[i]) (p := p)) ?_
            conv => whnf
            refine bcase_false (show (bif false then true else !decide (aroAt o.l oc.l[i] oc.l[i] = 0)) = false by rw [cor_no]; rfl) ?_
            conv => whnf
            refine ⟨[0, 1, 2, 3, 4, 5], [5, 7, 8, 9, 10, 38, 39, 40], [0, 2, 5], fun vs2 => ?_⟩
            conv => whnf
            refine ⟨intsC_pure L, o.new.1, oc.new.1, ?_⟩
            conv => whnf
            refine ⟨_, _, ?_, ?_, (⟨i + 1, hlt⟩, vs2), (by omega : oc.l.length - (i + 1) < oc.l.length - i), rfl, rfl⟩
            · exact ⟨fun _ => rfl, fun _ => rfl, fun _ => rfl, fun _ => rfl, fun _ => rfl, fun _ => rfl, fun _ => rfl, fun _ => rfl, fun _ => rfl, fun _ => rfl, fun _ => rfl, fun _ => rfl, fun _ => rfl, fun _ => rfl, fun _ => rfl, fun _ => rfl, fun _ => rfl, fun _ => rfl, fun _ => rfl, fun _ => rfl, fun _ => rfl, fun _ => rfl, fun _ => rfl, fun _ => rfl, fun _ => rfl, fun _ => rfl, fun _ => rfl, fun _ => rfl, fun _ => rfl, fun _ => rfl, fun _ => rfl, fun _ => rfl, fun _ => rfl, fun _ => rfl, fun _ => rfl, fun _ => rfl, fun _ => rfl, fun _ => rfl, fun _ => rfl, fun _ => rfl, sint_eq (wrap_add1 hlt oc.ok.ir) _ _, fun _ => rfl, fun _ => rfl, fun _ => rfl, fun _ => rfl, fun _ => rfl, fun _ => rfl, fun _ => rfl, fun _ => rfl, fun _ => rfl, fun _ => rfl, fun _ => rfl, fun _ => rfl, fun _ => rfl, fun _ => rfl, fun _ => rfl, fun _ => rfl, fun _ => rfl, fun _ => rfl, fun _ => rfl, fun _ => rfl, fun _ => rfl, fun _ => rfl, fun _ => rfl, fun _ => rfl, fun _ => rfl, fun _ => rfl, fun _ => rfl, trivial⟩
            · refine ⟨⟨rfl, rfl, rfl, fun _ => rfl⟩, ⟨rfl, rfl, rfl, fun _ => rfl⟩, ⟨rfl, rfl, rfl, fun _ => rfl⟩, ⟨rfl, rfl, rfl, fun _ => rfl⟩, ⟨rfl, rfl, rfl, fun ρ => ?_⟩, ⟨rfl, rfl, rfl, fun _ => rfl⟩, trivial⟩
              refine (cells_congr (wid_eq ?_ ρ) (cells_congr (wid_eq ?_ ρ) (cells_congr (wid_eq ?_ ρ) (cells_congr (wid_eq ?_ ρ) (cells_congr (wid_eq ?_ ρ) (cells_congr (wid_eq ?_ ρ) (cells_congr (wid_eq ?_ ρ) (cells_congr (wid_eq ?_ ρ) (cells_congr (wid_eq ?_ ρ) (cells_congr (wid_eq ?_ ρ) rfl))))))))))
              all_goals (rw [corQ_take oc.l o.l _ i hlt])
          · have hge : i = oc.l.length := Nat.le_antisymm hi (n_ge hge)
            subst hge
            conv => whnf
            have hq : ∀ k, sum3 o.l k = corQ (oc.l.take oc.l.length) o.l k := fun k => by
              rw [List.take_length]
              exact (corQ_sum3 hsrt.nodup k fun q hq => (hmem q).2 hq).symm
            refine ⟨[0], [0], fun vs3 => ?_⟩
            conv => whnf
            refine ⟨intsC_pure L, ?_⟩
            conv => whnf
            refine ⟨_, [], rfl, ⟨⟨rfl, rfl, rfl, fun _ => rfl⟩, trivial⟩, trivial, _, fun ρ => ?_, hc⟩
            simp only [cond_true, hq, decide_true, Bool.and_self]
  · refine ⟨fun ρ ρ' _ => rfl, ?_⟩
    conv => whnf
    refine ⟨trivial, .inr ⟨⟨_, _, _, rfl, rfl⟩, fun o ho => ?_⟩⟩
    conv => whnf
    have hn : o.l.length ≤ 1000000 := by omega
    have hn3 : o.l.length ≤ 300000 := by omega
    refine loop_st (G := {k : Nat // k ≤ o.l.length} × (Nat → Value)) (fun g => [.c (.val (g.2 0)), .c (.val (g.2 1)), .c (.val (g.2 2)), .c (.val (g.2 3)), .c (.val (g.2 4)), .c (.ptr 1 0), .c (.val (g.2 6)), .c (.val (.bool true)), o.sl 2, .c (.ptr 3 0), .c (.ptr 4 0), .c (.val (g.2 11)), .c (.val (g.2 12)), .c (.val (g.2 13)), .c (.val (g.2 14)), .c (.val (g.2 15)), .c (.val (g.2 16)), .c (.val (g.2 17)), .c (.val (g.2 18)), .c (.val (g.2 19)), .c (.val (g.2 20)), o.sl 2, .c (.int (o.l.length : Nat) o.ok.ir), .c (.int (g.1.1 : Nat) (lt_ir o.ok g.1.2)), .c (.val (g.2 24)), .c (.val (g.2 25)), .c (.val (g.2 26)), .c (.val (g.2 27)), .c (.val (g.2 28)), .c (.val (g.2 29)), .c (.val (g.2 30)), .c (.val (g.2 31)), .c (.val (g.2 32)), .c (.val (g.2 33)), .c (.val (g.2 34)), .c (.val (g.2 35)), .c (.val (g.2 36)), .c (.val (g.2 37)), .c (.val (g.2 38)), .c (.val (g.2 39)), .c (.val (g.2 40)), .c (.val (g.2 41)), .c (.val (g.2 42)), .c (.val (g.2 43)), .c (.val (g.2 44)), .c (.val (g.2 45)), .c (.val (g.2 46)), .c (.val (g.2 47)), .c (.val (g.2 48)), .c (.val (g.2 49)), .c (.val (g.2 50)), .c (.val (g.2 51)), .c (.val (g.2 52)), .c (.val (g.2 53)), .c (.val (g.2 54)), .c (.val (g.2 55)), .c (.val (g.2 56)), .c (.val (g.2 57)), .c (.val (g.2 58)), .c (.val (g.2 59)), .c (.val (g.2 60)), .c (.val (g.2 61)), .c (.val (g.2 62)), .c (.val (g.2 63)), .c (.val (g.2 64)), .c (.val (g.2 65)), .c (.val (g.2 66)), .c (.val (g.2 67))]) (fun g => [⟨0, true, intsC [], 0⟩, ⟨23, false, ptC p, 0⟩, o.blk, ⟨28, false, allC (o.l.take (g.1.1)) (take_le3 hn3 (g.1.1)), 0⟩, ⟨28, false, [zw, zw, zw, zw, zw, zw, zw, zw, zw, zw], 0⟩]) (fun g => o.l.length - g.1.1) ?_ ?_
    · refine ⟨[0, 1, 2, 3, 4], [5, 7, 8, 9, 10, 21, 22, 23], [0, 2], fun vs => ?_⟩
      conv => whnf
      refine ⟨intsC_pure [], o.new.1, ?_⟩
      conv => whnf
      refine ⟨_, _, ?_, ?_, (⟨0, Nat.zero_le _⟩, vs), rfl, rfl⟩
      · exact ⟨fun _ => rfl, fun _ => rfl, fun _ => rfl, fun _ => rfl, fun _ => rfl, fun _ => rfl, fun _ => rfl, fun _ => rfl, fun _ => rfl, fun _ => rfl, fun _ => rfl, fun _ => rfl, fun _ => rfl, fun _ => rfl, fun _ => rfl, fun _ => rfl, fun _ => rfl, fun _ => rfl, fun _ => rfl, fun _ => rfl, fun _ => rfl, fun _ => rfl, fun _ => rfl, fun _ => rfl, fun _ => rfl, fun _ => rfl, fun _ => rfl, fun _ => rfl, fun _ => rfl, fun _ => rfl, fun _ => rfl, fun _ => rfl, fun _ => rfl, fun _ => rfl, fun _ => rfl, fun _ => rfl, fun _ => rfl, fun _ => rfl, fun _ => rfl, fun _ => rfl, fun _ => rfl, fun _ => rfl, fun _ => rfl, fun _ => rfl, fun _ => rfl, fun _ => rfl, fun _ => rfl, fun _ => rfl, fun _ => rfl, fun _ => rfl, fun _ => rfl, fun _ => rfl, fun _ => rfl, fun _ => rfl, fun _ => rfl, fun _ => rfl, fun _ => rfl, fun _ => rfl, fun _ => rfl, fun _ => rfl, fun _ => rfl, fun _ => rfl, fun _ => rfl, fun _ => rfl, fun _ => rfl, fun _ => rfl, fun _ => rfl, fun _ => rfl, trivial⟩
      · exact ⟨⟨rfl, rfl, rfl, fun _ => rfl⟩, ⟨rfl, rfl, rfl, fun _ => rfl⟩, ⟨rfl, rfl, rfl, fun _ => rfl⟩, ⟨rfl, rfl, rfl, fun _ => rfl⟩, ⟨rfl, rfl, rfl, fun _ => rfl⟩, trivial⟩
    · rintro ⟨⟨k, hk⟩, vs⟩
      conv => whnf
      refine bcase_intro (fun hlt => ?_) (fun hge => ?_)
      · have hlt : k < o.l.length := n_lt hlt
        conv => whnf
        rw [eff_index_sli (ho := ?hoi) (hT := ?hTi) (hx := ?hxi) (hk := ?hki) (hlt := ?hlti)]
        case hoi => rfl
        case hTi => rfl
        case hxi => rfl
        case hki => rfl
        case hlti => exact hlt
        conv => whnf
        rw [eff_load_sub (ho := ?hol) (hT := ?hTl) (hx := ?hxl) (hb := ?hbl) (hm := ?hml) (hv := ?hvl)]
        case hol => rfl
        case hTl => rfl
        case hxl => rfl
        case hbl => rfl
        case hml => exact (by rw [Nat.zero_add]; exact subC_trs o.l hlt : subC (trsC o.l) (0 + k * 9) 9 = some (trC o.l[k]))
        case hvl => rfl
        conv => whnf
        refine ⟨[0, 1, 2, 3, 4], [5, 7, 8, 9, 10, 21, 22, 23], [0, 2], fun vs2 => ?_⟩
        conv => whnf
        refine ⟨intsC_pure [], o.new.1, ?_⟩
        conv => whnf
        refine ⟨_, _, ?_, ?_, (⟨k + 1, hlt⟩, vs2), (by omega : o.l.length - (k + 1) < o.l.length - k), rfl, rfl⟩
        · exact ⟨fun _ => rfl, fun _ => rfl, fun _ => rfl, fun _ => rfl, fun _ => rfl, fun _ => rfl, fun _ => rfl, fun _ => rfl, fun _ => rfl, fun _ => rfl, fun _ => rfl, fun _ => rfl, fun _ => rfl, fun _ => rfl, fun _ => rfl, fun _ => rfl, fun _ => rfl, fun _ => rfl, fun _ => rfl, fun _ => rfl, fun _ => rfl, fun _ => rfl, fun _ => rfl, sint_eq (wrap_add1 hlt o.ok.ir) _ _, fun _ => rfl, fun _ => rfl, fun _ => rfl, fun _ => rfl, fun _ => rfl, fun _ => rfl, fun _ => rfl, fun _ => rfl, fun _ => rfl, fun _ => rfl, fun _ => rfl, fun _ => rfl, fun _ => rfl, fun _ => rfl, fun _ => rfl, fun _ => rfl, fun _ => rfl, fun _ => rfl, fun _ => rfl, fun _ => rfl, fun _ => rfl, fun _ => rfl, fun _ => rfl, fun _ => rfl, fun _ => rfl, fun _ => rfl, fun _ => rfl, fun _ => rfl, fun _ => rfl, fun _ => rfl, fun _ => rfl, fun _ => rfl, fun _ => rfl, fun _ => rfl, fun _ => rfl, fun _ => rfl, fun _ => rfl, fun _ => rfl, fun _ => rfl, fun _ => rfl, fun _ => rfl, fun _ => rfl, fun _ => rfl, fun _ => rfl, trivial⟩
        · refine ⟨⟨rfl, rfl, rfl, fun _ => rfl⟩, ⟨rfl, rfl, rfl, fun _ => rfl⟩, ⟨rfl, rfl, rfl, fun _ => rfl⟩, ⟨rfl, rfl, rfl, fun ρ => ?_⟩, ⟨rfl, rfl, rfl, fun _ => rfl⟩, trivial⟩
          refine (cells_congr (wid_eq ?_ ρ) (cells_congr (wid_eq ?_ ρ) (cells_congr (wid_eq ?_ ρ) (cells_congr (wid_eq ?_ ρ) (cells_congr (wid_eq ?_ ρ) (cells_congr (wid_eq ?_ ρ) (cells_congr (wid_eq ?_ ρ) (cells_congr (wid_eq ?_ ρ) (cells_congr (wid_eq ?_ ρ) (cells_congr (wid_eq ?_ ρ) rfl))))))))))
          all_goals (rw [sum3_take o.l _ k hlt]; rfl)
      · have hge : k = o.l.length := Nat.le_antisymm hk (n_ge hge)
        subst hge
        conv => whnf
        refine ⟨⟨pureL_trs o.l, trivial⟩, ⟨_, _, _, _, _, o.l, rfl, rfl, rfl, hn3, fun oc hsrt hmem hcl3 => ?_⟩⟩
        conv => whnf
        have hcl : oc.l.length ≤ 1000000 := by omega
        refine loop_st (G := {k : Nat // k ≤ oc.l.length} × (Nat → Value)) (fun g => [.c (.val (g.2 0)), .c (.val (g.2 1)), .c (.val (g.2 2)), .c (.val (g.2 3)), .c (.val (g.2 4)), .c (.ptr 1 0), .c (.val (g.2 6)), .c (.val (.bool true)), o.sl 2, .c (.ptr 3 0), .c (.ptr 4 0), .c (.val (g.2 11)), .c (.val (g.2 12)), .c (.val (g.2 13)), .c (.val (g.2 14)), .c (.val (g.2 15)), .c (.val (g.2 16)), .c (.val (g.2 17)), .c (.val (g.2 18)), .c (.val (g.2 19)), .c (.val (g.2 20)), .c (.val (g.2 21)), .c (.val (g.2 22)), .c (.val (g.2 23)), .c (.val (g.2 24)), .c (.val (g.2 25)), .c (.val (g.2 26)), .c (.val (g.2 27)), .c (.val (g.2 28)), .c (.val (g.2 29)), .c (.val (g.2 30)), .c (.val (g.2 31)), .c (.val (g.2 32)), .c (.val (g.2 33)), .c (.val (g.2 34)), .c (.val (g.2 35)), .c (.val (g.2 36)), .c (.val (g.2 37)), oc.sl 5, .c (.int (oc.l.length : Nat) oc.ok.ir), .c (.int (g.1.1 : Nat) (lt_ir oc.ok g.1.2)), .c (.val (g.2 41)), .c (.val (g.2 42)), .c (.val (g.2 43)), .c (.val (g.2 44)), .c (.val (g.2 45)), .c (.val (g.2 46)), .c (.val (g.2 47)), .c (.val (g.2 48)), .c (.val (g.2 49)), .c (.val (g.2 50)), .c (.val (g.2 51)), .c (.val (g.2 52)), .c (.val (g.2 53)), .c (.val (g.2 54)), .c (.val (g.2 55)), .c (.val (g.2 56)), .c (.val (g.2 57)), .c (.val (g.2 58)), .c (.val (g.2 59)), .c (.val (g.2 60)), .c (.val (g.2 61)), .c (.val (g.2 62)), .c (.val (g.2 63)), .c (.val (g.2 64)), .c (.val (g.2 65)), .c (.val (g.2 66)), .c (.val (g.2 67))]) (fun g => [⟨0, true, intsC [], 0⟩, ⟨23, false, ptC p, 0⟩, o.blk, ⟨28, false, allC o.l hn3, 0⟩, ⟨28, false, corC (oc.l.take (g.1.1)) o.l hn (take_lep hcl (g.1.1)), 0⟩, oc.blk]) (fun g => oc.l.length - g.1.1) ?_ ?_
        · refine ⟨[0, 1, 2, 3, 4, 5], [5, 7, 8, 9, 10, 38, 39, 40], [0, 2, 5], fun vs => ?_⟩
          conv => whnf
          refine ⟨intsC_pure [], o.new.1, oc.new.1, ?_⟩
          conv => whnf
          refine ⟨_, _, ?_, ?_, (⟨0, Nat.zero_le _⟩, vs), rfl, rfl⟩
          · exact ⟨fun _ => rfl, fun _ => rfl, fun _ => rfl, fun _ => rfl, fun _ => rfl, fun _ => rfl, fun _ => rfl, fun _ => rfl, fun _ => rfl, fun _ => rfl, fun _ => rfl, fun _ => rfl, fun _ => rfl, fun _ => rfl, fun _ => rfl, fun _ => rfl, fun _ => rfl, fun _ => rfl, fun _ => rfl, fun _ => rfl, fun _ => rfl, fun _ => rfl, fun _ => rfl, fun _ => rfl, fun _ => rfl, fun _ => rfl, fun _ => rfl, fun _ => rfl, fun _ => rfl, fun _ => rfl, fun _ => rfl, fun _ => rfl, fun _ => rfl, fun _ => rfl, fun _ => rfl, fun _ => rfl, fun _ => rfl, fun _ => rfl, fun _ => rfl, fun _ => rfl, fun _ => rfl, fun _ => rfl, fun _ => rfl, fun _ => rfl, fun _ => rfl, fun _ => rfl, fun _ => rfl, fun _ => rfl, fun _ => rfl, fun _ => rfl, fun _ => rfl, fun _ => rfl, fun _ => rfl, fun _ => rfl, fun _ => rfl, fun _ => rfl, fun _ => rfl, fun _ => rfl, fun _ => rfl, fun _ => rfl, fun _ => rfl, fun _ => rfl, fun _ => rfl, fun _ => rfl, fun _ => rfl, fun _ => rfl, fun _ => rfl, fun _ => rfl, trivial⟩
          · refine ⟨⟨rfl, rfl, rfl, fun _ => rfl⟩, ⟨rfl, rfl, rfl, fun _ => rfl⟩, ⟨rfl, rfl, rfl, fun _ => rfl⟩, ⟨rfl, rfl, rfl, fun ρ => ?_⟩, ⟨rfl, rfl, rfl, fun _ => rfl⟩, ⟨rfl, rfl, rfl, fun _ => rfl⟩, trivial⟩
            refine (cells_congr (wid_eq ?_ ρ) (cells_congr (wid_eq ?_ ρ) (cells_congr (wid_eq ?_ ρ) (cells_congr (wid_eq ?_ ρ) (cells_congr (wid_eq ?_ ρ) (cells_congr (wid_eq ?_ ρ) (cells_congr (wid_eq ?_ ρ) (cells_congr (wid_eq ?_ ρ) (cells_congr (wid_eq ?_ ρ) (cells_congr (wid_eq ?_ ρ) rfl))))))))))
            all_goals rw [List.take_length]
        · rintro ⟨⟨i, hi⟩, vs⟩
          conv => whnf
          refine bcase_intro (fun hlt => ?_) (fun hge => ?_)
          · have hlt : i < oc.l.length := n_lt hlt
            conv => whnf
            rw [eff_index_sli (ho := ?hoi) (hT := ?hTi) (hx := ?hxi) (hk := ?hki) (hlt := ?hlti)]
            case hoi => rfl
            case hTi => rfl
            case hxi => rfl
            case hki => rfl
            case hlti => exact hlt
            conv => whnf
            rw [eff_load_sub (ho := ?hol) (hT := ?hTl) (hx := ?hxl) (hb := ?hbl) (hm := ?hml) (hv := ?hvl)]
            case hol => rfl
            case hTl => rfl
            case hxl => rfl
            case hbl => rfl
            case hml => exact (by rw [Nat.zero_add]; exact subC_pts oc.l hlt : subC (ptsC oc.l) (0 + i * 3) 3 = some (ptC oc.l[i]))
            case hvl => rfl
            conv => whnf
            rw [dq (hn := hn) (o := o) (b := 2) (p := oc.l[i]) (ha := ?haz1) (hb := ?hbz1)]
            case haz1 => rfl
            case hbz1 => rfl
            conv => whnf
            refine bcase_false (neg_no (l := o.l) (c := oc.l[i]) (p := p)) ?_
            conv => whnf
            refine bcase_false (show (bif false then true else !decide (aroAt o.l oc.l[i] oc.l[i] = 0)) = false by rw [cor_no]; rfl) ?_
            conv => whnf
            refine ⟨[0, 1, 2, 3, 4, 5], [5, 7, 8, 9, 10, 38, 39, 40], [0, 2, 5], fun vs2 => ?_⟩
            conv => whnf
            refine ⟨intsC_pure [], o.new.1, oc.new.1, ?_⟩
            conv => whnf
            refine ⟨_, _, ?_, ?_, (⟨i + 1, hlt⟩, vs2), (by omega : oc.l.length - (i + 1) < oc.l.length - i), rfl, rfl⟩
            · exact ⟨fun _ => rfl, fun _ => rfl, fun _ => rfl, fun _ => rfl, fun _ => rfl, fun _ => rfl, fun _ => rfl, fun _ => rfl, fun _ => rfl, fun _ => rfl, fun _ => rfl, fun _ => rfl, fun _ => rfl, fun _ => rfl, fun _ => rfl, fun _ => rfl, fun _ => rfl, fun _ => rfl, fun _ => rfl, fun _ => rfl, fun _ => rfl, fun _ => rfl, fun _ => rfl, fun _ => rfl, fun _ => rfl, fun _ => rfl, fun _ => rfl, fun _ => rfl, fun _ => rfl, fun _ => rfl, fun _ => rfl, fun _ => rfl, fun _ => rfl, fun _ => rfl, fun _ => rfl, fun _ => rfl, fun _ => rfl, fun _ => rfl, fun _ => rfl, fun _ => rfl, sint_eq (wrap_add1 hlt oc.ok.ir) _ _, fun _ => rfl, fun _ => rfl, fun _ => rfl, fun _ => rfl, fun _ => rfl, fun _ => rfl, fun _ => rfl, fun _ => rfl, fun _ => rfl, fun _ => rfl, fun _ => rfl, fun _ => rfl, fun _ => rfl, fun _ => rfl, fun _ => rfl, fun _ => rfl, fun _ => rfl, fun _ => rfl, fun _ => rfl, fun _ => rfl, fun _ => rfl, fun _ => rfl, fun _ => rfl, fun _ => rfl, fun _ => rfl, fun _ => rfl, fun _ => rfl, trivial⟩
            · refine ⟨⟨rfl, rfl, rfl, fun _ => rfl⟩, ⟨rfl, rfl, rfl, fun _ => rfl⟩, ⟨rfl, rfl, rfl, fun _ => rfl⟩, ⟨rfl, rfl, rfl, fun _ => rfl⟩, ⟨rfl, rfl, rfl, fun ρ => ?_⟩, ⟨rfl, rfl, rfl, fun _ => rfl⟩, trivial⟩
              refine (cells_congr (wid_eq ?_ ρ) (cells_congr (wid_eq ?_ ρ) (cells_congr (wid_eq ?_ ρ) (cells_congr (wid_eq ?_ ρ) (cells_congr (wid_eq ?_ ρ) (cells_congr (wid_eq ?_ ρ) (cells_congr (wid_eq ?_ ρ) (cells_congr (wid_eq ?_ ρ) (cells_congr (wid_eq ?_ ρ) (cells_congr (wid_eq ?_ ρ) rfl))))))))))
              all_goals (rw [corQ_take oc.l o.l _ i hlt])
          · have hge : i = oc.l.length := Nat.le_antisymm hi (n_ge hge)
            subst hge
            conv => whnf
            have hq : ∀ k, sum3 o.l k = corQ (oc.l.take oc.l.length) o.l k := fun k => by
              rw [List.take_length]
              exact (corQ_sum3 hsrt.nodup k fun q hq => (hmem q).2 hq).symm
            refine ⟨[0], [0], fun vs3 => ?_⟩
            conv => whnf
            refine ⟨intsC_pure [], ?_⟩
            conv => whnf
            refine ⟨_, [], rfl, ⟨⟨rfl, rfl, rfl, fun _ => rfl⟩, trivial⟩, trivial, _, fun ρ => ?_, hc⟩
            simp only [cond_true, hq, decide_true, Bool.and_self]
end Go.Proofs.YtapppahniablmaaDoor
