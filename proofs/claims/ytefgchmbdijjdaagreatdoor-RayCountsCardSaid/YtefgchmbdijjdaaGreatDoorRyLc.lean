/- law 22: RayCounts, by the reckoner. -/
import Derived.Test.YtefgchmbdijjdaaGreatDoorRyc
namespace Go.Proofs.YtefgchmbdijjdaaGreatDoor
open Go.RowKit
set_option maxRecDepth 100000

abbrev rdCo : List (FuncId × Dr) := [(28, dFst), (29, dFst), (24, dCnt), (30, dCnt)]
theorem rdCo_ok : AllR rdCo := .cons spFirstY (.cons spFirst22 (.cons spCountY (.cons spCount22 (.nil))))
noncomputable abbrev ECo : Env := envN 0 baseLL rdCo fun _ => false
theorem dCo0 {n0 : Nat} {args : List SV} {hf : Nat → Option Blk} {o : OT} {b : Nat} {R : RI} (ha : args = [.agg (riC R), o.sl b]) (hb : hf b = some o.blk) (hn : o.l.length ≤ 1000000) :
    ({ T := ECo.T, un := ECo.un, D := ECo.D, O := ECo.O, n0 := n0, ord := ECo.ord } : Env).D 28 args hf = some (none, frstV R o.l) := by
  have _ := hn
  subst ha
  exact dFst_ot hb hn
theorem dCo1 {n0 : Nat} {args : List SV} {hf : Nat → Option Blk} {o : OT} {b : Nat} {R : RI} (ha : args = [.agg (riC R), o.sl b]) (hb : hf b = some o.blk) (hn : o.l.length ≤ 1000000) :
    ({ T := ECo.T, un := ECo.un, D := ECo.D, O := ECo.O, n0 := n0, ord := ECo.ord } : Env).D 29 args hf = some (none, frstV R o.l) := by
  have _ := hn
  subst ha
  exact dFst_ot hb hn
theorem dCo2 {n0 : Nat} {args : List SV} {hf : Nat → Option Blk} {o : OT} {b : Nat} {R : RI} (ha : args = [.agg (riC R), o.sl b]) (hb : hf b = some o.blk) (hn : o.l.length ≤ 1000000) :
    ({ T := ECo.T, un := ECo.un, D := ECo.D, O := ECo.O, n0 := n0, ord := ECo.ord } : Env).D 24 args hf = some (none, cntV R o.l hn) := by
  have _ := hn
  subst ha
  exact dCnt_ot hb hn
theorem dCo3 {n0 : Nat} {args : List SV} {hf : Nat → Option Blk} {o : OT} {b : Nat} {R : RI} (ha : args = [.agg (riC R), o.sl b]) (hb : hf b = some o.blk) (hn : o.l.length ≤ 1000000) :
    ({ T := ECo.T, un := ECo.un, D := ECo.D, O := ECo.O, n0 := n0, ord := ECo.ord } : Env).D 30 args hf = some (none, cntV R o.l hn) := by
  have _ := hn
  subst ha
  exact dCnt_ot hb hn
set_option maxHeartbeats 16000000 in
theorem csLawCo : CSp Tryz.prog 8 cLaw := csp_of (envN_ok baseLL_ok rdCo_ok 0 fun _ => false) mixed (hnew_ok lawC_ok (inl_ok (envN_ok baseLL_ok rdCo_ok 20 fun _ => false) mixed noF_ok 0)) ⟨Tryz.func8, by kernel_rfl, by kernel_rfl⟩ fun args ros K hc => by
  obtain ⟨⟨r, b, v, ty, L, rfl, rfl, hv⟩, hc⟩ := hc
  rcases hv with ⟨nl, len, cap, hl, rfl, hL⟩ | ⟨a, cap, rfl, _, _⟩
  · refine ⟨fun ρ ρ' e => ?_, ?_⟩
    · have := e 0 (Nat.zero_lt_one)
      simp only [List.map, SV.den, C.den, C.cells, this]
      rfl
    conv => whnf
    refine ⟨⟨intsC_pure L, trivial⟩, .inl ⟨⟨_, _, _, _, _, _, L, rfl, rfl, hL⟩, fun o ho => ?_⟩⟩
    have hn : o.l.length ≤ 1000000 := by omega
    conv => whnf
    conv =>
      arg 2
      tactic' =>
        apply dCo0 (hn := hn) (o := o) (b := 2) (R := nearI r) (ha := ?haw9) (hb := ?hbw9)
        case haw9 => rfl
        case hbw9 => rfl
    conv => whnf
    conv =>
      arg 2
      tactic' =>
        apply dCo1 (hn := hn) (o := o) (b := 2) (R := nearI r) (ha := ?haw10) (hb := ?hbw10)
        case haw10 => rfl
        case hbw10 => rfl
    conv => whnf
    conv =>
      arg 2
      tactic' =>
        apply dCo2 (hn := hn) (o := o) (b := 2) (R := nearI r) (ha := ?haw11) (hb := ?hbw11)
        case haw11 => rfl
        case hbw11 => rfl
    conv => whnf
    conv =>
      arg 2
      tactic' =>
        apply dCo3 (hn := hn) (o := o) (b := 2) (R := nearI r) (ha := ?haw12) (hb := ?hbw12)
        case haw12 => rfl
        case hbw12 => rfl
    conv => whnf
    refine bcase_intro (fun _ => ?_) (fun h1 => absurd h1 (by simp))
    conv => whnf
    refine bcase_intro (fun _ => ?_) (fun h1 => absurd h1 (by simp))
    conv => whnf
    refine bcase_intro (fun _ => ?_) (fun h1 => absurd h1 (by simp))
    conv => whnf
    refine ⟨[0], [0], fun vs3 => ?_⟩
    conv => whnf
    refine ⟨intsC_pure L, ?_⟩
    conv => whnf
    refine ⟨_, [], rfl, ⟨⟨rfl, rfl, rfl, fun _ => rfl⟩, trivial⟩, trivial, _, fun ρ => ?_, hc⟩
    rfl
  · refine ⟨fun ρ ρ' _ => rfl, ?_⟩
    conv => whnf
    refine ⟨trivial, .inr ⟨⟨_, _, _, rfl, rfl⟩, fun o ho => ?_⟩⟩
    have hn : o.l.length ≤ 1000000 := by omega
    conv => whnf
    conv =>
      arg 2
      tactic' =>
        apply dCo0 (hn := hn) (o := o) (b := 2) (R := nearI r) (ha := ?haw9) (hb := ?hbw9)
        case haw9 => rfl
        case hbw9 => rfl
    conv => whnf
    conv =>
      arg 2
      tactic' =>
        apply dCo1 (hn := hn) (o := o) (b := 2) (R := nearI r) (ha := ?haw10) (hb := ?hbw10)
        case haw10 => rfl
        case hbw10 => rfl
    conv => whnf
    conv =>
      arg 2
      tactic' =>
        apply dCo2 (hn := hn) (o := o) (b := 2) (R := nearI r) (ha := ?haw11) (hb := ?hbw11)
        case haw11 => rfl
        case hbw11 => rfl
    conv => whnf
    conv =>
      arg 2
      tactic' =>
        apply dCo3 (hn := hn) (o := o) (b := 2) (R := nearI r) (ha := ?haw12) (hb := ?hbw12)
        case haw12 => rfl
        case hbw12 => rfl
    conv => whnf
    refine bcase_intro (fun _ => ?_) (fun h1 => absurd h1 (by simp))
    conv => whnf
    refine bcase_intro (fun _ => ?_) (fun h1 => absurd h1 (by simp))
    conv => whnf
    refine bcase_intro (fun _ => ?_) (fun h1 => absurd h1 (by simp))
    conv => whnf
    refine ⟨[0], [0], fun vs3 => ?_⟩
    conv => whnf
    refine ⟨intsC_pure L, ?_⟩
    conv => whnf
    refine ⟨_, [], rfl, ⟨⟨rfl, rfl, rfl, fun _ => rfl⟩, trivial⟩, trivial, _, fun ρ => ?_, hc⟩
    rfl
end Go.Proofs.YtefgchmbdijjdaaGreatDoor
