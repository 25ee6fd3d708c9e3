/- law 10: QuadricAround, by the reckoner. -/
import Derived.Test.YtapppahniablmaaDoorLaw1
import Derived.Test.YtapppahniablmaaDoorQua
import Derived.Test.YtapppahniablmaaDoorShape
namespace Go.Proofs.YtapppahniablmaaDoor
open Go.RowKit
set_option maxRecDepth 100000

theorem readers2_ok : AllR [(23, dAround), (24, dAround)] := .cons spAroundQ (.cons spAround10 .nil)
def lawC : List (FuncId × NewC) := [(22, cShape)]
theorem lawC_ok : AllC Tryd.prog lawC := .cons csShape .nil
def okLaw (args : List SV) (ros : List Blk) : Prop := ∃ b v ty L p, args = [.c (.val (.int .u32 b)), v, .agg (ptC p)] ∧ ros = [⟨ty, true, intsC L, 0⟩] ∧ okHs v ty L
/-- a law: true for all arguments -/
def cLaw : NewC := fun args ros K => okLaw args ros ∧ K (.c (.val (.bool true))) []
theorem eff_index_arr {T : TypeId → Option TI} {op : Op} {ev : Operand → SV} {hp : Nat → Option Blk} {t : TypeId} {x i : Operand} (ho : op = .indexAddr t x i) {sz : Nat} {ag ea : Bool} {z : List C} {m esz : Nat} {eq : Option (List K)} (hT : T t = some ⟨sz, ag, z, .array m esz ea, eq⟩)
    {b off : Nat} (hx : ev x = .c (.ptr b off)) {k : Nat} {hi : IR k} (hk : ev i = .c (.int k hi)) (hlt : k < m) : eff T op ev hp = some (.val (.c (.ptr b (off + k * esz)))) := by
  subst ho
  simp only [eff, hT, hx, hk]
  show (if k < m then _ else _) = _
  rw [if_pos hlt]
theorem dAround_ot {o : OT} {b : Nat} {p : PT} {hf : Nat → Option Blk} (hb : hf b = some o.blk) (hn : o.l.length ≤ 1000000) : dAround [o.sl b, .agg (ptC p)] hf = some (none, .agg (aroC o.l p hn)) := by
  unfold dAround OT.sl ptC
  simp only [hb, OT.blk, toTrs_trs]
  rw [dif_pos ⟨trivial, hn⟩]
abbrev readers2 : List (FuncId × Dr) := [(23, dAround), (24, dAround)]
theorem dq {n0 : Nat} {args : List SV} {hf : Nat → Option Blk} {o : OT} {b : Nat} {p : PT} (ha : args = [o.sl b, .agg (ptC p)]) (hb : hf b = some o.blk) (hn : o.l.length ≤ 1000000) :
    ({ T := (envR 0 base10 readers2).T, un := (envR 0 base10 readers2).un, D := (envR 0 base10 readers2).D, O := (envR 0 base10 readers2).O, n0 := n0 } : Env).D 23 args hf = some (none, .agg (aroC o.l p hn)) := by
  subst ha
  exact dAround_ot hb hn
theorem dr {n0 : Nat} {args : List SV} {hf : Nat → Option Blk} {o : OT} {b : Nat} {p : PT} (ha : args = [o.sl b, .agg (ptC p)]) (hb : hf b = some o.blk) (hn : o.l.length ≤ 1000000) :
    ({ T := (envR 0 base10 readers2).T, un := (envR 0 base10 readers2).un, D := (envR 0 base10 readers2).D, O := (envR 0 base10 readers2).O, n0 := n0 } : Env).D 24 args hf = some (none, .agg (aroC o.l p hn)) := by
  subst ha
  exact dAround_ot hb hn

set_option maxHeartbeats 16000000 in
theorem csLawAround : CSp Tryd.prog 7 cLaw := csp_of (envR_ok base10_ok readers2_ok 0) mixed (hnew_ok lawC_ok (inl_ok (envR_ok base10_ok readers2_ok 20) mixed noF_ok 0)) ⟨Tryd.func7, by kernel_rfl, by kernel_rfl⟩ fun args ros K hc => by
  obtain ⟨⟨b, _, ty, L, p, rfl, rfl, hv⟩, hc⟩ := hc
  rcases hv with ⟨nl, len, cap, hl, rfl, hL⟩ | ⟨a, cap, rfl, rfl, rfl⟩
  · refine ⟨fun ρ ρ' e => ?_, ?_⟩
    · have := e 0 (Nat.zero_lt_one)
      simp only [List.map, SV.den, C.den, C.cells, this]
      rfl
    conv => whnf
    refine ⟨⟨intsC_pure L, trivial⟩, .inl ⟨⟨_, _, _, _, _, _, L, rfl, rfl, hL⟩, fun o ho => ?_⟩⟩
    conv => whnf
    have hn : o.l.length ≤ 1000000 := by omega
    refine loop_st (G := {k : Nat // k ≤ o.l.length} × (Nat → Value)) (fun g => [.c (.val (g.2 0)), .c (.val (g.2 1)), .c (.val (g.2 2)), .c (.val (g.2 3)), .c (.val (g.2 4)), .c (.ptr 1 0), .c (.val (g.2 6)), .c (.val (.bool true)), o.sl 2, .c (.val (g.2 9)), .c (.val (g.2 10)), .c (.val (g.2 11)), .c (.val (g.2 12)), .c (.val (g.2 13)), .c (.val (g.2 14)), o.sl 2, .c (.int (o.l.length : Nat) o.ok.ir), .c (.int (g.1.1 : Nat) (lt_ir o.ok g.1.2)), .c (.val (g.2 18)), .c (.val (g.2 19)), .c (.val (g.2 20)), .c (.val (g.2 21)), .c (.val (g.2 22)), .c (.val (g.2 23)), .c (.val (g.2 24)), .c (.val (g.2 25)), .c (.val (g.2 26)), .c (.val (g.2 27)), .c (.val (g.2 28)), .c (.val (g.2 29)), .c (.val (g.2 30)), .c (.val (g.2 31)), .c (.val (g.2 32)), .c (.val (g.2 33)), .c (.val (g.2 34)), .c (.val (g.2 35)), .c (.val (g.2 36)), .c (.val (g.2 37)), .c (.val (g.2 38)), .c (.val (g.2 39)), .c (.val (g.2 40)), .c (.val (g.2 41)), .c (.val (g.2 42)), .c (.val (g.2 43)), .c (.val (g.2 44)), .c (.val (g.2 45)), .c (.val (g.2 46)), .c (.val (g.2 47)), .c (.val (g.2 48)), .c (.val (g.2 49)), .c (.val (g.2 50)), .c (.val (g.2 51)), .c (.val (g.2 52)), .c (.val (g.2 53)), .c (.val (g.2 54)), .c (.val (g.2 55)), .c (.val (g.2 56))]) (fun _ => [⟨ty, true, intsC L, 0⟩, ⟨23, false, ptC p, 0⟩, o.blk]) (fun g => o.l.length - g.1.1) ?_ ?_
    · refine ⟨[0, 1, 2], [5, 7, 8, 15, 16, 17], [0, 2], fun vs => ?_⟩
      conv => whnf
      refine ⟨intsC_pure L, o.new.1, ?_⟩
      conv => whnf
      refine ⟨_, _, ?_, ?_, (⟨0, Nat.zero_le _⟩, vs), rfl, rfl⟩
      · exact ⟨fun _ => rfl, fun _ => rfl, fun _ => rfl, fun _ => rfl, fun _ => rfl, fun _ => rfl, fun _ => rfl, fun _ => rfl, fun _ => rfl, fun _ => rfl, fun _ => rfl, fun _ => rfl, fun _ => rfl, fun _ => rfl, fun _ => rfl, fun _ => rfl, fun _ => rfl, fun _ => rfl, fun _ => rfl, fun _ => rfl, fun _ => rfl, fun _ => rfl, fun _ => rfl, fun _ => rfl, fun _ => rfl, fun _ => rfl, fun _ => rfl, fun _ => rfl, fun _ => rfl, fun _ => rfl, fun _ => rfl, fun _ => rfl, fun _ => rfl, fun _ => rfl, fun _ => rfl, fun _ => rfl, fun _ => rfl, fun _ => rfl, fun _ => rfl, fun _ => rfl, fun _ => rfl, fun _ => rfl, fun _ => rfl, fun _ => rfl, fun _ => rfl, fun _ => rfl, fun _ => rfl, fun _ => rfl, fun _ => rfl, fun _ => rfl, fun _ => rfl, fun _ => rfl, fun _ => rfl, fun _ => rfl, fun _ => rfl, fun _ => rfl, fun _ => rfl, trivial⟩
      · exact ⟨⟨rfl, rfl, rfl, fun _ => rfl⟩, ⟨rfl, rfl, rfl, fun _ => rfl⟩, ⟨rfl, rfl, rfl, fun _ => rfl⟩, trivial⟩
    · rintro ⟨⟨k, hk⟩, vs⟩
      conv => whnf
      refine bcase_intro (fun hlt => ?_) (fun hge => ?_)
      · have hlt : k < o.l.length := n_lt hlt
        conv => whnf
        rw [eff_index_sli (ho := ?hoi) (hT := ?hTi) (hx := ?hxi) (hk := ?hki) (hlt := ?hlti)]
        case hoi => rfl
        case hTi => rfl
        case hxi => rfl
        case hki => rfl
        case hlti => exact hlt
        conv => whnf
        rw [eff_load_sub (ho := ?hol) (hT := ?hTl) (hx := ?hxl) (hb := ?hbl) (hm := ?hml) (hv := ?hvl)]
        case hol => rfl
        case hTl => rfl
        case hxl => rfl
        case hbl => rfl
        case hml => exact (by rw [Nat.zero_add]; exact subC_trs o.l hlt : subC (trsC o.l) (0 + k * 9) 9 = some (trC o.l[k]))
        case hvl => rfl
        conv => whnf
        refine bcase_intro (fun h7 => ?_) (fun h7 => ?_)
        · have h3 : (k : Int).tmod 3 = (0 : Nat) ∨ (k : Int).tmod 3 = (1 : Nat) ∨ (k : Int).tmod 3 = (2 : Nat) := by have : (k : Int).tmod 3 = ((k % 3 : Nat) : Int) := rfl; omega
          rcases h3 with h3 | h3 | h3
          · conv => whnf
            rw [eff_index_arr (k := 0) (ho := ?hoa01) (hT := ?hTa01) (hx := ?hxa01) (hk := ?hka01) (hlt := ?hlta01)]
            case hoa01 => rfl
            case hTa01 => rfl
            case hxa01 => rfl
            case hka01 => exact cint h3 (by decide)
            case hlta01 => decide
            conv => whnf
            rw [dq (hn := hn) (o := o) (b := 2) (p := o.l[k].a) (ha := ?had01) (hb := ?hbd01)]
            case had01 => rfl
            case hbd01 => rfl
            conv => whnf
            rw [eff_index_arr (k := 0) (ho := ?hoa02) (hT := ?hTa02) (hx := ?hxa02) (hk := ?hka02) (hlt := ?hlta02)]
            case hoa02 => rfl
            case hTa02 => rfl
            case hxa02 => rfl
            case hka02 => exact cint h3 (by decide)
            case hlta02 => decide
            conv => whnf
            rw [dr (hn := hn) (o := o) (b := 2) (p := o.l[k].a) (ha := ?had02) (hb := ?hbd02)]
            case had02 => rfl
            case hbd02 => rfl
            conv => whnf
            refine bcase_intro (fun h => ?_) (fun _ => ?_)
            · exact absurd h (by simp)
            · conv => whnf
              refine ⟨[0, 1, 2], [5, 7, 8, 15, 16, 17], [0, 2], fun vs2 => ?_⟩
              conv => whnf
              refine ⟨intsC_pure L, o.new.1, ?_⟩
              conv => whnf
              refine ⟨_, _, ?_, ?_, (⟨k + 1, hlt⟩, vs2), (by omega : o.l.length - (k + 1) < o.l.length - k), rfl, rfl⟩
              · exact ⟨fun _ => rfl, fun _ => rfl, fun _ => rfl, fun _ => rfl, fun _ => rfl, fun _ => rfl, fun _ => rfl, fun _ => rfl, fun _ => rfl, fun _ => rfl, fun _ => rfl, fun _ => rfl, fun _ => rfl, fun _ => rfl, fun _ => rfl, fun _ => rfl, fun _ => rfl, sint_eq (wrap_add1 hlt o.ok.ir) _ _, fun _ => rfl, fun _ => rfl, fun _ => rfl, fun _ => rfl, fun _ => rfl, fun _ => rfl, fun _ => rfl, fun _ => rfl, fun _ => rfl, fun _ => rfl, fun _ => rfl, fun _ => rfl, fun _ => rfl, fun _ => rfl, fun _ => rfl, fun _ => rfl, fun _ => rfl, fun _ => rfl, fun _ => rfl, fun _ => rfl, fun _ => rfl, fun _ => rfl, fun _ => rfl, fun _ => rfl, fun _ => rfl, fun _ => rfl, fun _ => rfl, fun _ => rfl, fun _ => rfl, fun _ => rfl, fun _ => rfl, fun _ => rfl, fun _ => rfl, fun _ => rfl, fun _ => rfl, fun _ => rfl, fun _ => rfl, fun _ => rfl, fun _ => rfl, trivial⟩
              · exact ⟨⟨rfl, rfl, rfl, fun _ => rfl⟩, ⟨rfl, rfl, rfl, fun _ => rfl⟩, ⟨rfl, rfl, rfl, fun _ => rfl⟩, trivial⟩
          · conv => whnf
            rw [eff_index_arr (k := 1) (ho := ?hoa11) (hT := ?hTa11) (hx := ?hxa11) (hk := ?hka11) (hlt := ?hlta11)]
            case hoa11 => rfl
            case hTa11 => rfl
            case hxa11 => rfl
            case hka11 => exact cint h3 (by decide)
            case hlta11 => decide
            conv => whnf
            rw [dq (hn := hn) (o := o) (b := 2) (p := o.l[k].b) (ha := ?had11) (hb := ?hbd11)]
            case had11 => rfl
            case hbd11 => rfl
            conv => whnf
            rw [eff_index_arr (k := 1) (ho := ?hoa12) (hT := ?hTa12) (hx := ?hxa12) (hk := ?hka12) (hlt := ?hlta12)]
            case hoa12 => rfl
            case hTa12 => rfl
            case hxa12 => rfl
            case hka12 => exact cint h3 (by decide)
            case hlta12 => decide
            conv => whnf
            rw [dr (hn := hn) (o := o) (b := 2) (p := o.l[k].b) (ha := ?had12) (hb := ?hbd12)]
            case had12 => rfl
            case hbd12 => rfl
            conv => whnf
            refine bcase_intro (fun h => ?_) (fun _ => ?_)
            · exact absurd h (by simp)
            · conv => whnf
              refine ⟨[0, 1, 2], [5, 7, 8, 15, 16, 17], [0, 2], fun vs2 => ?_⟩
              conv => whnf
              refine ⟨intsC_pure L, o.new.1, ?_⟩
              conv => whnf
              refine ⟨_, _, ?_, ?_, (⟨k + 1, hlt⟩, vs2), (by omega : o.l.length - (k + 1) < o.l.length - k), rfl, rfl⟩
              · exact ⟨fun _ => rfl, fun _ => rfl, fun _ => rfl, fun _ => rfl, fun _ => rfl, fun _ => rfl, fun _ => rfl, fun _ => rfl, fun _ => rfl, fun _ => rfl, fun _ => rfl, fun _ => rfl, fun _ => rfl, fun _ => rfl, fun _ => rfl, fun _ => rfl, fun _ => rfl, sint_eq (wrap_add1 hlt o.ok.ir) _ _, fun _ => rfl, fun _ => rfl, fun _ => rfl, fun _ => rfl, fun _ => rfl, fun _ => rfl, fun _ => rfl, fun _ => rfl, fun _ => rfl, fun _ => rfl, fun _ => rfl, fun _ => rfl, fun _ => rfl, fun _ => rfl, fun _ => rfl, fun _ => rfl, fun _ => rfl, fun _ => rfl, fun _ => rfl, fun _ => rfl, fun _ => rfl, fun _ => rfl, fun _ => rfl, fun _ => rfl, fun _ => rfl, fun _ => rfl, fun _ => rfl, fun _ => rfl, fun _ => rfl, fun _ => rfl, fun _ => rfl, fun _ => rfl, fun _ => rfl, fun _ => rfl, fun _ => rfl, fun _ => rfl, fun _ => rfl, fun _ => rfl, fun _ => rfl, trivial⟩
              · exact ⟨⟨rfl, rfl, rfl, fun _ => rfl⟩, ⟨rfl, rfl, rfl, fun _ => rfl⟩, ⟨rfl, rfl, rfl, fun _ => rfl⟩, trivial⟩
          · conv => whnf
            rw [eff_index_arr (k := 2) (ho := ?hoa21) (hT := ?hTa21) (hx := ?hxa21) (hk := ?hka21) (hlt := ?hlta21)]
            case hoa21 => rfl
            case hTa21 => rfl
            case hxa21 => rfl
            case hka21 => exact cint h3 (by decide)
            case hlta21 => decide
            conv => whnf
            rw [dq (hn := hn) (o := o) (b := 2) (p := o.l[k].c) (ha := ?had21) (hb := ?hbd21)]
            case had21 => rfl
            case hbd21 => rfl
            conv => whnf
            rw [eff_index_arr (k := 2) (ho := ?hoa22) (hT := ?hTa22) (hx := ?hxa22) (hk := ?hka22) (hlt := ?hlta22)]
            case hoa22 => rfl
            case hTa22 => rfl
            case hxa22 => rfl
            case hka22 => exact cint h3 (by decide)
            case hlta22 => decide
            conv => whnf
            rw [dr (hn := hn) (o := o) (b := 2) (p := o.l[k].c) (ha := ?had22) (hb := ?hbd22)]
            case had22 => rfl
            case hbd22 => rfl
            conv => whnf
            refine bcase_intro (fun h => ?_) (fun _ => ?_)
            · exact absurd h (by simp)
            · conv => whnf
              refine ⟨[0, 1, 2], [5, 7, 8, 15, 16, 17], [0, 2], fun vs2 => ?_⟩
              conv => whnf
              refine ⟨intsC_pure L, o.new.1, ?_⟩
              conv => whnf
              refine ⟨_, _, ?_, ?_, (⟨k + 1, hlt⟩, vs2), (by omega : o.l.length - (k + 1) < o.l.length - k), rfl, rfl⟩
              · exact ⟨fun _ => rfl, fun _ => rfl, fun _ => rfl, fun _ => rfl, fun _ => rfl, fun _ => rfl, fun _ => rfl, fun _ => rfl, fun _ => rfl, fun _ => rfl, fun _ => rfl, fun _ => rfl, fun _ => rfl, fun _ => rfl, fun _ => rfl, fun _ => rfl, fun _ => rfl, sint_eq (wrap_add1 hlt o.ok.ir) _ _, fun _ => rfl, fun _ => rfl, fun _ => rfl, fun _ => rfl, fun _ => rfl, fun _ => rfl, fun _ => rfl, fun _ => rfl, fun _ => rfl, fun _ => rfl, fun _ => rfl, fun _ => rfl, fun _ => rfl, fun _ => rfl, fun _ => rfl, fun _ => rfl, fun _ => rfl, fun _ => rfl, fun _ => rfl, fun _ => rfl, fun _ => rfl, fun _ => rfl, fun _ => rfl, fun _ => rfl, fun _ => rfl, fun _ => rfl, fun _ => rfl, fun _ => rfl, fun _ => rfl, fun _ => rfl, fun _ => rfl, fun _ => rfl, fun _ => rfl, fun _ => rfl, fun _ => rfl, fun _ => rfl, fun _ => rfl, fun _ => rfl, fun _ => rfl, trivial⟩
              · exact ⟨⟨rfl, rfl, rfl, fun _ => rfl⟩, ⟨rfl, rfl, rfl, fun _ => rfl⟩, ⟨rfl, rfl, rfl, fun _ => rfl⟩, trivial⟩
        · conv => whnf
          refine ⟨[0, 1, 2], [5, 7, 8, 15, 16, 17], [0, 2], fun vs2 => ?_⟩
          conv => whnf
          refine ⟨intsC_pure L, o.new.1, ?_⟩
          conv => whnf
          refine ⟨_, _, ?_, ?_, (⟨k + 1, hlt⟩, vs2), (by omega : o.l.length - (k + 1) < o.l.length - k), rfl, rfl⟩
          · exact ⟨fun _ => rfl, fun _ => rfl, fun _ => rfl, fun _ => rfl, fun _ => rfl, fun _ => rfl, fun _ => rfl, fun _ => rfl, fun _ => rfl, fun _ => rfl, fun _ => rfl, fun _ => rfl, fun _ => rfl, fun _ => rfl, fun _ => rfl, fun _ => rfl, fun _ => rfl, sint_eq (wrap_add1 hlt o.ok.ir) _ _, fun _ => rfl, fun _ => rfl, fun _ => rfl, fun _ => rfl, fun _ => rfl, fun _ => rfl, fun _ => rfl, fun _ => rfl, fun _ => rfl, fun _ => rfl, fun _ => rfl, fun _ => rfl, fun _ => rfl, fun _ => rfl, fun _ => rfl, fun _ => rfl, fun _ => rfl, fun _ => rfl, fun _ => rfl, fun _ => rfl, fun _ => rfl, fun _ => rfl, fun _ => rfl, fun _ => rfl, fun _ => rfl, fun _ => rfl, fun _ => rfl, fun _ => rfl, fun _ => rfl, fun _ => rfl, fun _ => rfl, fun _ => rfl, fun _ => rfl, fun _ => rfl, fun _ => rfl, fun _ => rfl, fun _ => rfl, fun _ => rfl, fun _ => rfl, trivial⟩
          · exact ⟨⟨rfl, rfl, rfl, fun _ => rfl⟩, ⟨rfl, rfl, rfl, fun _ => rfl⟩, ⟨rfl, rfl, rfl, fun _ => rfl⟩, trivial⟩
      · conv => whnf
        rw [dq (hn := hn) (o := o) (b := 2) (p := p) (ha := ?haz1) (hb := ?hbz1)]
        case haz1 => rfl
        case hbz1 => rfl
        conv => whnf
        rw [dr (hn := hn) (o := o) (b := 2) (p := p) (ha := ?haz2) (hb := ?hbz2)]
        case haz2 => rfl
        case hbz2 => rfl
        conv => whnf
        refine bcase_true (by simp) ?_
        conv => whnf
        refine ⟨[0], [0], fun vs3 => ?_⟩
        conv => whnf
        refine ⟨intsC_pure L, ?_⟩
        conv => whnf
        refine ⟨_, [], rfl, ⟨⟨rfl, rfl, rfl, fun _ => rfl⟩, trivial⟩, trivial, _, fun ρ => ?_, hc⟩
        simp only [cond_true, decide_true, Bool.and_self]
  · refine ⟨fun ρ ρ' _ => rfl, ?_⟩
    conv => whnf
    refine ⟨trivial, .inr ⟨⟨_, _, _, rfl, rfl⟩, fun o ho => ?_⟩⟩
    conv => whnf
    have hn : o.l.length ≤ 1000000 := by omega
    refine loop_st (G := {k : Nat // k ≤ o.l.length} × (Nat → Value)) (fun g => [.c (.val (g.2 0)), .c (.val (g.2 1)), .c (.val (g.2 2)), .c (.val (g.2 3)), .c (.val (g.2 4)), .c (.ptr 1 0), .c (.val (g.2 6)), .c (.val (.bool true)), o.sl 2, .c (.val (g.2 9)), .c (.val (g.2 10)), .c (.val (g.2 11)), .c (.val (g.2 12)), .c (.val (g.2 13)), .c (.val (g.2 14)), o.sl 2, .c (.int (o.l.length : Nat) o.ok.ir), .c (.int (g.1.1 : Nat) (lt_ir o.ok g.1.2)), .c (.val (g.2 18)), .c (.val (g.2 19)), .c (.val (g.2 20)), .c (.val (g.2 21)), .c (.val (g.2 22)), .c (.val (g.2 23)), .c (.val (g.2 24)), .c (.val (g.2 25)), .c (.val (g.2 26)), .c (.val (g.2 27)), .c (.val (g.2 28)), .c (.val (g.2 29)), .c (.val (g.2 30)), .c (.val (g.2 31)), .c (.val (g.2 32)), .c (.val (g.2 33)), .c (.val (g.2 34)), .c (.val (g.2 35)), .c (.val (g.2 36)), .c (.val (g.2 37)), .c (.val (g.2 38)), .c (.val (g.2 39)), .c (.val (g.2 40)), .c (.val (g.2 41)), .c (.val (g.2 42)), .c (.val (g.2 43)), .c (.val (g.2 44)), .c (.val (g.2 45)), .c (.val (g.2 46)), .c (.val (g.2 47)), .c (.val (g.2 48)), .c (.val (g.2 49)), .c (.val (g.2 50)), .c (.val (g.2 51)), .c (.val (g.2 52)), .c (.val (g.2 53)), .c (.val (g.2 54)), .c (.val (g.2 55)), .c (.val (g.2 56))]) (fun _ => [⟨0, true, intsC [], 0⟩, ⟨23, false, ptC p, 0⟩, o.blk]) (fun g => o.l.length - g.1.1) ?_ ?_
    · refine ⟨[0, 1, 2], [5, 7, 8, 15, 16, 17], [0, 2], fun vs => ?_⟩
      conv => whnf
      refine ⟨intsC_pure [], o.new.1, ?_⟩
      conv => whnf
      refine ⟨_, _, ?_, ?_, (⟨0, Nat.zero_le _⟩, vs), rfl, rfl⟩
      · exact ⟨fun _ => rfl, fun _ => rfl, fun _ => rfl, fun _ => rfl, fun _ => rfl, fun _ => rfl, fun _ => rfl, fun _ => rfl, fun _ => rfl, fun _ => rfl, fun _ => rfl, fun _ => rfl, fun _ => rfl, fun _ => rfl, fun _ => rfl, fun _ => rfl, fun _ => rfl, fun _ => rfl, fun _ => rfl, fun _ => rfl, fun _ => rfl, fun _ => rfl, fun _ => rfl, fun _ => rfl, fun _ => rfl, fun _ => rfl, fun _ => rfl, fun _ => rfl, fun _ => rfl, fun _ => rfl, fun _ => rfl, fun _ => rfl, fun _ => rfl, fun _ => rfl, fun _ => rfl, fun _ => rfl, fun _ => rfl, fun _ => rfl, fun _ => rfl, fun _ => rfl, fun _ => rfl, fun _ => rfl, fun _ => rfl, fun _ => rfl, fun _ => rfl, fun _ => rfl, fun _ => rfl, fun _ => rfl, fun _ => rfl, fun _ => rfl, fun _ => rfl, fun _ => rfl, fun _ => rfl, fun _ => rfl, fun _ => rfl, fun _ => rfl, fun _ => rfl, trivial⟩
      · exact ⟨⟨rfl, rfl, rfl, fun _ => rfl⟩, ⟨rfl, rfl, rfl, fun _ => rfl⟩, ⟨rfl, rfl, rfl, fun _ => rfl⟩, trivial⟩
    · rintro ⟨⟨k, hk⟩, vs⟩
      conv => whnf
      refine bcase_intro (fun hlt => ?_) (fun hge => ?_)
      · have hlt : k < o.l.length := n_lt hlt
        conv => whnf
        rw [eff_index_sli (ho := ?hoi) (hT := ?hTi) (hx := ?hxi) (hk := ?hki) (hlt := ?hlti)]
        case hoi => rfl
        case hTi => rfl
        case hxi => rfl
        case hki => rfl
        case hlti => exact hlt
        conv => whnf
        rw [eff_load_sub (ho := ?hol) (hT := ?hTl) (hx := ?hxl) (hb := ?hbl) (hm := ?hml) (hv := ?hvl)]
        case hol => rfl
        case hTl => rfl
        case hxl => rfl
        case hbl => rfl
        case hml => exact (by rw [Nat.zero_add]; exact subC_trs o.l hlt : subC (trsC o.l) (0 + k * 9) 9 = some (trC o.l[k]))
        case hvl => rfl
        conv => whnf
        refine bcase_intro (fun h7 => ?_) (fun h7 => ?_)
        · have h3 : (k : Int).tmod 3 = (0 : Nat) ∨ (k : Int).tmod 3 = (1 : Nat) ∨ (k : Int).tmod 3 = (2 : Nat) := by have : (k : Int).tmod 3 = ((k % 3 : Nat) : Int) := rfl; omega
          rcases h3 with h3 | h3 | h3
          · conv => whnf
            rw [eff_index_arr (k := 0) (ho := ?hoa01) (hT := ?hTa01) (hx := ?hxa01) (hk := ?hka01) (hlt := ?hlta01)]
            case hoa01 => rfl
            case hTa01 => rfl
            case hxa01 => rfl
            case hka01 => exact cint h3 (by decide)
            case hlta01 => decide
            conv => whnf
            rw [dq (hn := hn) (o := o) (b := 2) (p := o.l[k].a) (ha := ?had01) (hb := ?hbd01)]
            case had01 => rfl
            case hbd01 => rfl
            conv => whnf
            rw [eff_index_arr (k := 0) (ho := ?hoa02) (hT := ?hTa02) (hx := ?hxa02) (hk := ?hka02) (hlt := ?hlta02)]
            case hoa02 => rfl
            case hTa02 => rfl
            case hxa02 => rfl
            case hka02 => exact cint h3 (by decide)
            case hlta02 => decide
            conv => whnf
            rw [dr (hn := hn) (o := o) (b := 2) (p := o.l[k].a) (ha := ?had02) (hb := ?hbd02)]
            case had02 => rfl
            case hbd02 => rfl
            conv => whnf
            refine bcase_intro (fun h => ?_) (fun _ => ?_)
            · exact absurd h (by simp)
            · conv => whnf
              refine ⟨[0, 1, 2], [5, 7, 8, 15, 16, 17], [0, 2], fun vs2 => ?_⟩
              conv => whnf
              refine ⟨intsC_pure [], o.new.1, ?_⟩
              conv => whnf
              refine ⟨_, _, ?_, ?_, (⟨k + 1, hlt⟩, vs2), (by omega : o.l.length - (k + 1) < o.l.length - k), rfl, rfl⟩
              · exact ⟨fun _ => rfl, fun _ => rfl, fun _ => rfl, fun _ => rfl, fun _ => rfl, fun _ => rfl, fun _ => rfl, fun _ => rfl, fun _ => rfl, fun _ => rfl, fun _ => rfl, fun _ => rfl, fun _ => rfl, fun _ => rfl, fun _ => rfl, fun _ => rfl, fun _ => rfl, sint_eq (wrap_add1 hlt o.ok.ir) _ _, fun _ => rfl, fun _ => rfl, fun _ => rfl, fun _ => rfl, fun _ => rfl, fun _ => rfl, fun _ => rfl, fun _ => rfl, fun _ => rfl, fun _ => rfl, fun _ => rfl, fun _ => rfl, fun _ => rfl, fun _ => rfl, fun _ => rfl, fun _ => rfl, fun _ => rfl, fun _ => rfl, fun _ => rfl, fun _ => rfl, fun _ => rfl, fun _ => rfl, fun _ => rfl, fun _ => rfl, fun _ => rfl, fun _ => rfl, fun _ => rfl, fun _ => rfl, fun _ => rfl, fun _ => rfl, fun _ => rfl, fun _ => rfl, fun _ => rfl, fun _ => rfl, fun _ => rfl, fun _ => rfl, fun _ => rfl, fun _ => rfl, fun _ => rfl, trivial⟩
              · exact ⟨⟨rfl, rfl, rfl, fun _ => rfl⟩, ⟨rfl, rfl, rfl, fun _ => rfl⟩, ⟨rfl, rfl, rfl, fun _ => rfl⟩, trivial⟩
          · conv => whnf
            rw [eff_index_arr (k := 1) (ho := ?hoa11) (hT := ?hTa11) (hx := ?hxa11) (hk := ?hka11) (hlt := ?hlta11)]
            case hoa11 => rfl
            case hTa11 => rfl
            case hxa11 => rfl
            case hka11 => exact cint h3 (by decide)
            case hlta11 => decide
            conv => whnf
            rw [dq (hn := hn) (o := o) (b := 2) (p := o.l[k].b) (ha := ?had11) (hb := ?hbd11)]
            case had11 => rfl
            case hbd11 => rfl
            conv => whnf
            rw [eff_index_arr (k := 1) (ho := ?hoa12) (hT := ?hTa12) (hx := ?hxa12) (hk := ?hka12) (hlt := ?hlta12)]
            case hoa12 => rfl
            case hTa12 => rfl
            case hxa12 => rfl
            case hka12 => exact cint h3 (by decide)
            case hlta12 => decide
            conv => whnf
            rw [dr (hn := hn) (o := o) (b := 2) (p := o.l[k].b) (ha := ?had12) (hb := ?hbd12)]
            case had12 => rfl
            case hbd12 => rfl
            conv => whnf
            refine bcase_intro (fun h => ?_) (fun _ => ?_)
            · exact absurd h (by simp)
            · conv => whnf
              refine ⟨[0, 1, 2], [5, 7, 8, 15, 16, 17], [0, 2], fun vs2 => ?_⟩
              conv => whnf
              refine ⟨intsC_pure [], o.new.1, ?_⟩
              conv => whnf
              refine ⟨_, _, ?_, ?_, (⟨k + 1, hlt⟩, vs2), (by omega : o.l.length - (k + 1) < o.l.length - k), rfl, rfl⟩
              · exact ⟨fun _ => rfl, fun _ => rfl, fun _ => rfl, fun _ => rfl, fun _ => rfl, fun _ => rfl, fun _ => rfl, fun _ => rfl, fun _ => rfl, fun _ => rfl, fun _ => rfl, fun _ => rfl, fun _ => rfl, fun _ => rfl, fun _ => rfl, fun _ => rfl, fun _ => rfl, sint_eq (wrap_add1 hlt o.ok.ir) _ _, fun _ => rfl, fun _ => rfl, fun _ => rfl, fun _ => rfl, fun _ => rfl, fun _ => rfl, fun _ => rfl, fun _ => rfl, fun _ => rfl, fun _ => rfl, fun _ => rfl, fun _ => rfl, fun _ => rfl, fun _ => rfl, fun _ => rfl, fun _ => rfl, fun _ => rfl, fun _ => rfl, fun _ => rfl, fun _ => rfl, fun _ => rfl, fun _ => rfl, fun _ => rfl, fun _ => rfl, fun _ => rfl, fun _ => rfl, fun _ => rfl, fun _ => rfl, fun _ => rfl, fun _ => rfl, fun _ => rfl, fun _ => rfl, fun _ => rfl, fun _ => rfl, fun _ => rfl, fun _ => rfl, fun _ => rfl, fun _ => rfl, fun _ => rfl, trivial⟩
              · exact ⟨⟨rfl, rfl, rfl, fun _ => rfl⟩, ⟨rfl, rfl, rfl, fun _ => rfl⟩, ⟨rfl, rfl, rfl, fun _ => rfl⟩, trivial⟩
          · conv => whnf
            rw [eff_index_arr (k := 2) (ho := ?hoa21) (hT := ?hTa21) (hx := ?hxa21) (hk := ?hka21) (hlt := ?hlta21)]
            case hoa21 => rfl
            case hTa21 => rfl
            case hxa21 => rfl
            case hka21 => exact cint h3 (by decide)
            case hlta21 => decide
            conv => whnf
            rw [dq (hn := hn) (o := o) (b := 2) (p := o.l[k].c) (ha := ?had21) (hb := ?hbd21)]
            case had21 => rfl
            case hbd21 => rfl
            conv => whnf
            rw [eff_index_arr (k := 2) (ho := ?hoa22) (hT := ?hTa22) (hx := ?hxa22) (hk := ?hka22) (hlt := ?hlta22)]
            case hoa22 => rfl
            case hTa22 => rfl
            case hxa22 => rfl
            case hka22 => exact cint h3 (by decide)
            case hlta22 => decide
            conv => whnf
            rw [dr (hn := hn) (o := o) (b := 2) (p := o.l[k].c) (ha := ?had22) (hb := ?hbd22)]
            case had22 => rfl
            case hbd22 => rfl
            conv => whnf
            refine bcase_intro (fun h => ?_) (fun _ => ?_)
            · exact absurd h (by simp)
            · conv => whnf
              refine ⟨[0, 1, 2], [5, 7, 8, 15, 16, 17], [0, 2], fun vs2 => ?_⟩
              conv => whnf
              refine ⟨intsC_pure [], o.new.1, ?_⟩
              conv => whnf
              refine ⟨_, _, ?_, ?_, (⟨k + 1, hlt⟩, vs2), (by omega : o.l.length - (k + 1) < o.l.length - k), rfl, rfl⟩
              · exact ⟨fun _ => rfl, fun _ => rfl, fun _ => rfl, fun _ => rfl, fun _ => rfl, fun _ => rfl, fun _ => rfl, fun _ => rfl, fun _ => rfl, fun _ => rfl, fun _ => rfl, fun _ => rfl, fun _ => rfl, fun _ => rfl, fun _ => rfl, fun _ => rfl, fun _ => rfl, sint_eq (wrap_add1 hlt o.ok.ir) _ _, fun _ => rfl, fun _ => rfl, fun _ => rfl, fun _ => rfl, fun _ => rfl, fun _ => rfl, fun _ => rfl, fun _ => rfl, fun _ => rfl, fun _ => rfl, fun _ => rfl, fun _ => rfl, fun _ => rfl, fun _ => rfl, fun _ => rfl, fun _ => rfl, fun _ => rfl, fun _ => rfl, fun _ => rfl, fun _ => rfl, fun _ => rfl, fun _ => rfl, fun _ => rfl, fun _ => rfl, fun _ => rfl, fun _ => rfl, fun _ => rfl, fun _ => rfl, fun _ => rfl, fun _ => rfl, fun _ => rfl, fun _ => rfl, fun _ => rfl, fun _ => rfl, fun _ => rfl, fun _ => rfl, fun _ => rfl, fun _ => rfl, fun _ => rfl, trivial⟩
              · exact ⟨⟨rfl, rfl, rfl, fun _ => rfl⟩, ⟨rfl, rfl, rfl, fun _ => rfl⟩, ⟨rfl, rfl, rfl, fun _ => rfl⟩, trivial⟩
        · conv => whnf
          refine ⟨[0, 1, 2], [5, 7, 8, 15, 16, 17], [0, 2], fun vs2 => ?_⟩
          conv => whnf
          refine ⟨intsC_pure [], o.new.1, ?_⟩
          conv => whnf
          refine ⟨_, _, ?_, ?_, (⟨k + 1, hlt⟩, vs2), (by omega : o.l.length - (k + 1) < o.l.length - k), rfl, rfl⟩
          · exact ⟨fun _ => rfl, fun _ => rfl, fun _ => rfl, fun _ => rfl, fun _ => rfl, fun _ => rfl, fun _ => rfl, fun _ => rfl, fun _ => rfl, fun _ => rfl, fun _ => rfl, fun _ => rfl, fun _ => rfl, fun _ => rfl, fun _ => rfl, fun _ => rfl, fun _ => rfl, sint_eq (wrap_add1 hlt o.ok.ir) _ _, fun _ => rfl, fun _ => rfl, fun _ => rfl, fun _ => rfl, fun _ => rfl, fun _ => rfl, fun _ => rfl, fun _ => rfl, fun _ => rfl, fun _ => rfl, fun _ => rfl, fun _ => rfl, fun _ => rfl, fun _ => rfl, fun _ => rfl, fun _ => rfl, fun _ => rfl, fun _ => rfl, fun _ => rfl, fun _ => rfl, fun _ => rfl, fun _ => rfl, fun _ => rfl, fun _ => rfl, fun _ => rfl, fun _ => rfl, fun _ => rfl, fun _ => rfl, fun _ => rfl, fun _ => rfl, fun _ => rfl, fun _ => rfl, fun _ => rfl, fun _ => rfl, fun _ => rfl, fun _ => rfl, fun _ => rfl, fun _ => rfl, fun _ => rfl, trivial⟩
          · exact ⟨⟨rfl, rfl, rfl, fun _ => rfl⟩, ⟨rfl, rfl, rfl, fun _ => rfl⟩, ⟨rfl, rfl, rfl, fun _ => rfl⟩, trivial⟩
      · conv => whnf
        rw [dq (hn := hn) (o := o) (b := 2) (p := p) (ha := ?haz1) (hb := ?hbz1)]
        case haz1 => rfl
        case hbz1 => rfl
        conv => whnf
        rw [dr (hn := hn) (o := o) (b := 2) (p := p) (ha := ?haz2) (hb := ?hbz2)]
        case haz2 => rfl
        case hbz2 => rfl
        conv => whnf
        refine bcase_true (by simp) ?_
        conv => whnf
        refine ⟨[0], [0], fun vs3 => ?_⟩
        conv => whnf
        refine ⟨intsC_pure [], ?_⟩
        conv => whnf
        refine ⟨_, [], rfl, ⟨⟨rfl, rfl, rfl, fun _ => rfl⟩, trivial⟩, trivial, _, fun ρ => ?_, hc⟩
        simp only [cond_true, decide_true, Bool.and_self]
theorem call_law {f : FuncId} (hf : CSp Tryd.prog f cLaw) {b : Int} {v : SV} {ty : TypeId} {L : List ZI} {a : Nat × Nat} (p : PT) (hv : okHs v ty L) (w : World) (hr : w.rangeAt a.1 a.2 (cellsL (fun _ => a) (intsC L))) :
    Calls Tryd.prog f #[.int .u32 b, v.den (fun _ => a), .agg #[.int .i64 p.x, .int .i64 p.y, .int .i64 p.z]] w fun e w' => e = .returned (.bool true) ∧ Below w.heap.size w w' := by
  refine (hf.2 [.c (.val (.int .u32 b)), v, .agg (ptC p)] [⟨ty, true, intsC L, 0⟩] (fun u _ => u = .c (.val (.bool true))) ⟨⟨_, _, _, _, _, rfl, rfl, hv⟩, rfl⟩ ⟨rfl, trivial⟩ ⟨intsC_pure L, trivial⟩ (fun _ => a) w (fun i c hi => ?_)).mono ?_
  · cases i with
    | zero => simp [nthO] at hi; subst hi; exact hr
    | succ i => simp [nthO] at hi
  · rintro e w' ⟨u, news, σ, rfl, _, hh, _, he⟩
    exact ⟨he σ (Agr.refl _ _), hh.bel⟩
end Go.Proofs.YtapppahniablmaaDoor
