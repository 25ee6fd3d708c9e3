/- Triangles that meet, by the reference. -/
import Derived.Test.YtmooplnklcgfjaaGreatDoorE9
namespace Go.Proofs.YtmooplnklcgfjaaGreatDoor
open Go.RowKit
set_option maxRecDepth 100000

theorem is1 {a b c : Bool} (h : a = true) : true = (a || (b || c)) := by rw [h]; rfl
theorem is2 {a b c : Bool} (h : a = false) (h1 : b = true) : true = (a || (b || c)) := by rw [h, h1]; rfl
theorem is3 {a b c : Bool} (h : a = false) (h1 : b = false) : c = (a || (b || c)) := by rw [h, h1]; rfl
def dIs : Dn
  | [.agg [.int x1 _, .int y1 _, .int z1 _], .agg [.int x2 _, .int y2 _, .int z2 _, .int x3 _, .int y3 _, .int z3 _, .int x4 _, .int y4 _, .int z4 _]] =>
    some (none, .c (.val (.bool (eqB (⟨x1, y1, z1⟩ : V3) (⟨x2, y2, z2⟩ : V3) || (eqB (⟨x1, y1, z1⟩ : V3) (⟨x3, y3, z3⟩ : V3) || eqB (⟨x1, y1, z1⟩ : V3) (⟨x4, y4, z4⟩ : V3))))))
  | _ => none
theorem spIs : SpOk Tryz.prog 57 dIs := sp_of2 (un := 20) (n := 0) ⟨Tryz.func57, by kernel_rfl, by kernel_rfl⟩ baseT2_ok noF_ok fun args p v hd => by
  unfold dIs at hd
  split at hd
  · rename_i x1 hx1 y1 hy1 z1 hz1 x2 hx2 y2 hy2 z2 hz2 x3 hx3 y3 hy3 z3 hz3 x4 hx4 y4 hy4 z4 hz4
    cases hd
    refine ⟨[.agg [.int x1 hx1, .int y1 hy1, .int z1 hz1], .agg [.int x2 hx2, .int y2 hy2, .int z2 hz2, .int x3 hx3, .int y3 hy3, .int z3 hz3, .int x4 hx4, .int y4 hy4, .int z4 hz4]], fun _ => rfl, fun _ _ => rfl, fun _ _ => rfl, fun _ => ?_⟩
    conv => whnf
    refine bcase_intro (fun u1 => ?_) (fun u1 => ?_)
    · have u1 : eqB (⟨x1, y1, z1⟩ : V3) (⟨x2, y2, z2⟩ : V3) = true := u1
      conv => whnf
      exact fun ρ => sbool_e (is1 u1) ρ
    have u1 : eqB (⟨x1, y1, z1⟩ : V3) (⟨x2, y2, z2⟩ : V3) = false := u1
    conv => whnf
    refine bcase_intro (fun u2 => ?_) (fun u2 => ?_)
    · have u2 : eqB (⟨x1, y1, z1⟩ : V3) (⟨x3, y3, z3⟩ : V3) = true := u2
      conv => whnf
      exact fun ρ => sbool_e (is2 u1 u2) ρ
    have u2 : eqB (⟨x1, y1, z1⟩ : V3) (⟨x3, y3, z3⟩ : V3) = false := u2
    conv => whnf
    exact fun ρ => sbool_e (is3 u1 u2) ρ
  · cases hd
def baseG0 : List (FuncId × Dn) := (57, dIs) :: baseT2
theorem baseG0_ok : AllOk baseG0 := .cons spIs <| baseT2_ok
theorem isP_e (p : PT) (t : TR) : (eqB p.v t.a.v || (eqB p.v t.b.v || eqB p.v t.c.v)) = isP p t := rfl
abbrev envO2 : Env := env 0 baseG0
theorem envO2_ok : EOk Tryz.prog envO2 := env_ok baseG0_ok 0
set_option maxHeartbeats 16000000 in
theorem csApart : CSp Tryz.prog 21 cShared := csp_of envO2_ok mixed (inl_ok envO2_ok mixed noF_ok 0) ⟨Tryz.func21, by kernel_rfl, by kernel_rfl⟩ fun args ros K hc => by
  obtain ⟨s, t, rfl, rfl, hc⟩ := hc
  refine ⟨fun _ _ _ => rfl, ?_⟩
  conv => whnf
  refine loop_st (G := {g : Nat × OP × OP × (Nat → Value) // g.1 ≤ 3 ∧ g.2.1.l = cmnK true s t g.1 ∧ g.2.2.1.l = cmnK false s t g.1}) (fun g => (.c (.val (g.1.2.2.2 0)) :: .c (.val (g.1.2.2.2 1)) :: .c (.ptr 0 0) :: .c (.ptr 1 0) :: .c (.val (g.1.2.2.2 4)) :: .c (.val (g.1.2.2.2 5)) :: g.1.2.1.sl 2 :: g.1.2.2.1.sl 3 :: .c (.int (g.1.1 : Nat) (ir3 g.2.1)) :: .c (.val (g.1.2.2.2 9)) :: .c (.val (g.1.2.2.2 10)) :: .c (.val (g.1.2.2.2 11)) :: .c (.val (g.1.2.2.2 12)) :: .c (.val (g.1.2.2.2 13)) :: .c (.val (g.1.2.2.2 14)) :: .c (.val (g.1.2.2.2 15)) :: .c (.val (g.1.2.2.2 16)) :: .c (.val (g.1.2.2.2 17)) :: .c (.val (g.1.2.2.2 18)) :: .c (.val (g.1.2.2.2 19)) :: .c (.val (g.1.2.2.2 20)) :: .c (.val (g.1.2.2.2 21)) :: .c (.val (g.1.2.2.2 22)) :: .c (.val (g.1.2.2.2 23)) :: .c (.val (g.1.2.2.2 24)) :: .c (.val (g.1.2.2.2 25)) :: .c (.val (g.1.2.2.2 26)) :: .c (.val (g.1.2.2.2 27)) :: .c (.val (g.1.2.2.2 28)) :: .c (.val (g.1.2.2.2 29)) :: .c (.val (g.1.2.2.2 30)) :: .c (.val (g.1.2.2.2 31)) :: .c (.val (g.1.2.2.2 32)) :: .c (.val (g.1.2.2.2 33)) :: [])) (fun g => [⟨28, false, trC s, 0⟩, ⟨28, false, trC t, 0⟩, g.1.2.1.blk, g.1.2.2.1.blk]) (fun g => 3 - g.1.1) ?_ ?_
  · refine ⟨[0,  1, 1000 + 26, 2000 + 26], [2, 3, 6, 7, 8], [0, 1], fun vs => ?_⟩
    conv => whnf
    refine ⟨fun _ _ => rfl, fun _ _ => rfl, ?_⟩
    conv => whnf
    refine ⟨_, _, ?_, ?_, ⟨(0, OP.none, OP.none, vs), Nat.zero_le _, rfl, rfl⟩, rfl, rfl⟩
    · exact ⟨fun _ => rfl, fun _ => rfl, fun _ => rfl, fun _ => rfl, fun _ => rfl, fun _ => rfl, fun _ => rfl, fun _ => rfl, fun _ => rfl, fun _ => rfl, fun _ => rfl, fun _ => rfl, fun _ => rfl, fun _ => rfl, fun _ => rfl, fun _ => rfl, fun _ => rfl, fun _ => rfl, fun _ => rfl, fun _ => rfl, fun _ => rfl, fun _ => rfl, fun _ => rfl, fun _ => rfl, fun _ => rfl, fun _ => rfl, fun _ => rfl, fun _ => rfl, fun _ => rfl, fun _ => rfl, fun _ => rfl, fun _ => rfl, fun _ => rfl, fun _ => rfl, trivial⟩
    · exact ⟨⟨rfl, rfl, rfl, fun _ => rfl⟩, ⟨rfl, rfl, rfl, fun _ => rfl⟩, ⟨rfl, rfl, rfl, fun _ => rfl⟩, ⟨rfl, rfl, rfl, fun _ => rfl⟩, trivial⟩
  · rintro ⟨⟨k, o1, o2, vs⟩, hk, e1, e2⟩
    have hk : k ≤ 3 := hk
    have e1 : o1.l = cmnK true s t k := e1
    have e2 : o2.l = cmnK false s t k := e2
    have hcase : k = 3 ∨ k = 0 ∨ k = 1 ∨ k = 2 := by omega
    rcases hcase with rfl | rfl | rfl | rfl
    · conv => whnf
      refine ⟨[2, 3], [0, 1], fun vs3 => ?_⟩
      conv => whnf
      refine ⟨o1.new.1, o2.new.1, ?_⟩
      conv => whnf
      exact ⟨_, [o1.blk, o2.blk], rfl, ⟨⟨rfl, rfl, rfl, fun _ => rfl⟩, ⟨rfl, rfl, rfl, fun _ => rfl⟩, trivial⟩, ⟨o1.new, o2.new, trivial⟩, .tup [.c (.sli o1.nl 0 0 o1.l.length o1.cap o1.ok), .c (.sli o2.nl 1 0 o2.l.length o2.cap o2.ok)], fun _ => rfl, hc o1 o2 e1 e2⟩
    · conv => whnf
      refine bcase_intro (fun u => ?_) (fun u => ?_)
      · have u : isP s.a t = true := u
        conv => whnf
        refine ⟨rfl, ?_⟩
        conv => whnf
        refine ⟨o1.app (app3 e1), fun c2 k2 => ?_⟩
        conv => whnf
        have he := cmn_y0 u
        refine ⟨[0, 1, 5, 3], [2, 3, 6, 7, 8], [0, 1, 2, 3], fun vs3 => ?_⟩
        conv => whnf
        refine ⟨fun _ _ => rfl, fun _ _ => rfl, pureL_append o1.new.1 (fun _ _ => rfl), o2.new.1, ?_⟩
        conv => whnf
        refine ⟨_, _, ?_, ?_, ⟨(1, (o1.push [s.a] rfl c2 k2), o2, vs3), (by decide : 1 ≤ 3), push_l e1 he.1, e2.trans he.2.symm⟩, (by decide : 3 - 1 < 3 - 0), rfl, rfl⟩
        · exact ⟨fun _ => rfl, fun _ => rfl, fun _ => rfl, fun _ => rfl, fun _ => rfl, fun _ => rfl, fun ρ => OP.push_sl o1 [s.a] rfl c2 k2 2 ρ, fun _ => rfl, fun _ => rfl, fun _ => rfl, fun _ => rfl, fun _ => rfl, fun _ => rfl, fun _ => rfl, fun _ => rfl, fun _ => rfl, fun _ => rfl, fun _ => rfl, fun _ => rfl, fun _ => rfl, fun _ => rfl, fun _ => rfl, fun _ => rfl, fun _ => rfl, fun _ => rfl, fun _ => rfl, fun _ => rfl, fun _ => rfl, fun _ => rfl, fun _ => rfl, fun _ => rfl, fun _ => rfl, fun _ => rfl, fun _ => rfl, trivial⟩
        · exact ⟨⟨rfl, rfl, rfl, fun _ => rfl⟩, ⟨rfl, rfl, rfl, fun _ => rfl⟩, OP.push_blk o1 [s.a] rfl c2 k2 (fun _ => rfl), ⟨rfl, rfl, rfl, fun _ => rfl⟩, trivial⟩
      · have u : isP s.a t = false := u
        conv => whnf
        refine ⟨rfl, ?_⟩
        conv => whnf
        refine ⟨o2.app (app3 e2), fun c2 k2 => ?_⟩
        conv => whnf
        have he := cmn_n0 u
        refine ⟨[0, 1, 2, 5], [2, 3, 6, 7, 8], [0, 1, 2, 3], fun vs3 => ?_⟩
        conv => whnf
        refine ⟨fun _ _ => rfl, fun _ _ => rfl, o1.new.1, pureL_append o2.new.1 (fun _ _ => rfl), ?_⟩
        conv => whnf
        refine ⟨_, _, ?_, ?_, ⟨(1, o1, (o2.push [s.a] rfl c2 k2), vs3), (by decide : 1 ≤ 3), e1.trans he.1.symm, push_l e2 he.2⟩, (by decide : 3 - 1 < 3 - 0), rfl, rfl⟩
        · exact ⟨fun _ => rfl, fun _ => rfl, fun _ => rfl, fun _ => rfl, fun _ => rfl, fun _ => rfl, fun _ => rfl, fun ρ => OP.push_sl o2 [s.a] rfl c2 k2 3 ρ, fun _ => rfl, fun _ => rfl, fun _ => rfl, fun _ => rfl, fun _ => rfl, fun _ => rfl, fun _ => rfl, fun _ => rfl, fun _ => rfl, fun _ => rfl, fun _ => rfl, fun _ => rfl, fun _ => rfl, fun _ => rfl, fun _ => rfl, fun _ => rfl, fun _ => rfl, fun _ => rfl, fun _ => rfl, fun _ => rfl, fun _ => rfl, fun _ => rfl, fun _ => rfl, fun _ => rfl, fun _ => rfl, fun _ => rfl, trivial⟩
        · exact ⟨⟨rfl, rfl, rfl, fun _ => rfl⟩, ⟨rfl, rfl, rfl, fun _ => rfl⟩, ⟨rfl, rfl, rfl, fun _ => rfl⟩, OP.push_blk o2 [s.a] rfl c2 k2 (fun _ => rfl), trivial⟩
    · conv => whnf
      refine bcase_intro (fun u => ?_) (fun u => ?_)
      · have u : isP s.b t = true := u
        conv => whnf
        refine ⟨rfl, ?_⟩
        conv => whnf
        refine ⟨o1.app (app3 e1), fun c2 k2 => ?_⟩
        conv => whnf
        have he := cmn_y1 u
        refine ⟨[0, 1, 5, 3], [2, 3, 6, 7, 8], [0, 1, 2, 3], fun vs3 => ?_⟩
        conv => whnf
        refine ⟨fun _ _ => rfl, fun _ _ => rfl, pureL_append o1.new.1 (fun _ _ => rfl), o2.new.1, ?_⟩
        conv => whnf
        refine ⟨_, _, ?_, ?_, ⟨(2, (o1.push [s.b] rfl c2 k2), o2, vs3), (by decide : 2 ≤ 3), push_l e1 he.1, e2.trans he.2.symm⟩, (by decide : 3 - 2 < 3 - 1), rfl, rfl⟩
        · exact ⟨fun _ => rfl, fun _ => rfl, fun _ => rfl, fun _ => rfl, fun _ => rfl, fun _ => rfl, fun ρ => OP.push_sl o1 [s.b] rfl c2 k2 2 ρ, fun _ => rfl, fun _ => rfl, fun _ => rfl, fun _ => rfl, fun _ => rfl, fun _ => rfl, fun _ => rfl, fun _ => rfl, fun _ => rfl, fun _ => rfl, fun _ => rfl, fun _ => rfl, fun _ => rfl, fun _ => rfl, fun _ => rfl, fun _ => rfl, fun _ => rfl, fun _ => rfl, fun _ => rfl, fun _ => rfl, fun _ => rfl, fun _ => rfl, fun _ => rfl, fun _ => rfl, fun _ => rfl, fun _ => rfl, fun _ => rfl, trivial⟩
        · exact ⟨⟨rfl, rfl, rfl, fun _ => rfl⟩, ⟨rfl, rfl, rfl, fun _ => rfl⟩, OP.push_blk o1 [s.b] rfl c2 k2 (fun _ => rfl), ⟨rfl, rfl, rfl, fun _ => rfl⟩, trivial⟩
      · have u : isP s.b t = false := u
        conv => whnf
        refine ⟨rfl, ?_⟩
        conv => whnf
        refine ⟨o2.app (app3 e2), fun c2 k2 => ?_⟩
        conv => whnf
        have he := cmn_n1 u
        refine ⟨[0, 1, 2, 5], [2, 3, 6, 7, 8], [0, 1, 2, 3], fun vs3 => ?_⟩
        conv => whnf
        refine ⟨fun _ _ => rfl, fun _ _ => rfl, o1.new.1, pureL_append o2.new.1 (fun _ _ => rfl), ?_⟩
        conv => whnf
        refine ⟨_, _, ?_, ?_, ⟨(2, o1, (o2.push [s.b] rfl c2 k2), vs3), (by decide : 2 ≤ 3), e1.trans he.1.symm, push_l e2 he.2⟩, (by decide : 3 - 2 < 3 - 1), rfl, rfl⟩
        · exact ⟨fun _ => rfl, fun _ => rfl, fun _ => rfl, fun _ => rfl, fun _ => rfl, fun _ => rfl, fun _ => rfl, fun ρ => OP.push_sl o2 [s.b] rfl c2 k2 3 ρ, fun _ => rfl, fun _ => rfl, fun _ => rfl, fun _ => rfl, fun _ => rfl, fun _ => rfl, fun _ => rfl, fun _ => rfl, fun _ => rfl, fun _ => rfl, fun _ => rfl, fun _ => rfl, fun _ => rfl, fun _ => rfl, fun _ => rfl, fun _ => rfl, fun _ => rfl, fun _ => rfl, fun _ => rfl, fun _ => rfl, fun _ => rfl, fun _ => rfl, fun _ => rfl, fun _ => rfl, fun _ => rfl, fun _ => rfl, trivial⟩
        · exact ⟨⟨rfl, rfl, rfl, fun _ => rfl⟩, ⟨rfl, rfl, rfl, fun _ => rfl⟩, ⟨rfl, rfl, rfl, fun _ => rfl⟩, OP.push_blk o2 [s.b] rfl c2 k2 (fun _ => rfl), trivial⟩
    · conv => whnf
      refine bcase_intro (fun u => ?_) (fun u => ?_)
      · have u : isP s.c t = true := u
        conv => whnf
        refine ⟨rfl, ?_⟩
        conv => whnf
        refine ⟨o1.app (app3 e1), fun c2 k2 => ?_⟩
        conv => whnf
        have he := cmn_y2 u
        refine ⟨[0, 1, 5, 3], [2, 3, 6, 7, 8], [0, 1, 2, 3], fun vs3 => ?_⟩
        conv => whnf
        refine ⟨fun _ _ => rfl, fun _ _ => rfl, pureL_append o1.new.1 (fun _ _ => rfl), o2.new.1, ?_⟩
        conv => whnf
        refine ⟨_, _, ?_, ?_, ⟨(3, (o1.push [s.c] rfl c2 k2), o2, vs3), (by decide : 3 ≤ 3), push_l e1 he.1, e2.trans he.2.symm⟩, (by decide : 3 - 3 < 3 - 2), rfl, rfl⟩
        · exact ⟨fun _ => rfl, fun _ => rfl, fun _ => rfl, fun _ => rfl, fun _ => rfl, fun _ => rfl, fun ρ => OP.push_sl o1 [s.c] rfl c2 k2 2 ρ, fun _ => rfl, fun _ => rfl, fun _ => rfl, fun _ => rfl, fun _ => rfl, fun _ => rfl, fun _ => rfl, fun _ => rfl, fun _ => rfl, fun _ => rfl, fun _ => rfl, fun _ => rfl, fun _ => rfl, fun _ => rfl, fun _ => rfl, fun _ => rfl, fun _ => rfl, fun _ => rfl, fun _ => rfl, fun _ => rfl, fun _ => rfl, fun _ => rfl, fun _ => rfl, fun _ => rfl, fun _ => rfl, fun _ => rfl, fun _ => rfl, trivial⟩
        · exact ⟨⟨rfl, rfl, rfl, fun _ => rfl⟩, ⟨rfl, rfl, rfl, fun _ => rfl⟩, OP.push_blk o1 [s.c] rfl c2 k2 (fun _ => rfl), ⟨rfl, rfl, rfl, fun _ => rfl⟩, trivial⟩
      · have u : isP s.c t = false := u
        conv => whnf
        refine ⟨rfl, ?_⟩
        conv => whnf
        refine ⟨o2.app (app3 e2), fun c2 k2 => ?_⟩
        conv => whnf
        have he := cmn_n2 u
        refine ⟨[0, 1, 2, 5], [2, 3, 6, 7, 8], [0, 1, 2, 3], fun vs3 => ?_⟩
        conv => whnf
        refine ⟨fun _ _ => rfl, fun _ _ => rfl, o1.new.1, pureL_append o2.new.1 (fun _ _ => rfl), ?_⟩
        conv => whnf
        refine ⟨_, _, ?_, ?_, ⟨(3, o1, (o2.push [s.c] rfl c2 k2), vs3), (by decide : 3 ≤ 3), e1.trans he.1.symm, push_l e2 he.2⟩, (by decide : 3 - 3 < 3 - 2), rfl, rfl⟩
        · exact ⟨fun _ => rfl, fun _ => rfl, fun _ => rfl, fun _ => rfl, fun _ => rfl, fun _ => rfl, fun _ => rfl, fun ρ => OP.push_sl o2 [s.c] rfl c2 k2 3 ρ, fun _ => rfl, fun _ => rfl, fun _ => rfl, fun _ => rfl, fun _ => rfl, fun _ => rfl, fun _ => rfl, fun _ => rfl, fun _ => rfl, fun _ => rfl, fun _ => rfl, fun _ => rfl, fun _ => rfl, fun _ => rfl, fun _ => rfl, fun _ => rfl, fun _ => rfl, fun _ => rfl, fun _ => rfl, fun _ => rfl, fun _ => rfl, fun _ => rfl, fun _ => rfl, fun _ => rfl, fun _ => rfl, fun _ => rfl, trivial⟩
        · exact ⟨⟨rfl, rfl, rfl, fun _ => rfl⟩, ⟨rfl, rfl, rfl, fun _ => rfl⟩, ⟨rfl, rfl, rfl, fun _ => rfl⟩, OP.push_blk o2 [s.c] rfl c2 k2 (fun _ => rfl), trivial⟩
theorem cm_1 {a b c d e f : Bool} (h : a = true) : true = ((a || (b || c)) || (d || (e || f))) := by rw [h]; rfl
theorem cm_2 {a b c d e f : Bool} (h : d = true) : true = ((a || (b || c)) || (d || (e || f))) := by rw [h]; simp
theorem cm_3 {a b c d e f : Bool} (h : b = true) : true = ((a || (b || c)) || (d || (e || f))) := by rw [h]; simp
theorem cm_4 {a b c d e f : Bool} (h : e = true) : true = ((a || (b || c)) || (d || (e || f))) := by rw [h]; simp
theorem cm_5 {a b c d e f : Bool} (h : c = true) : true = ((a || (b || c)) || (d || (e || f))) := by rw [h]; simp
theorem cm_6 {a b c d e f : Bool} (h : f = true) : true = ((a || (b || c)) || (d || (e || f))) := by rw [h]; simp
theorem cm_0 {a b c d e f : Bool} (ha : a = false) (hd : d = false) (hb : b = false) (he : e = false) (hc : c = false) (hf : f = false) : false = ((a || (b || c)) || (d || (e || f))) := by rw [ha, hb, hc, hd, he, hf]; rfl
def dCommon : Dn
  | [.agg [.int x1 _, .int y1 _, .int z1 _, .int x2 _, .int y2 _, .int z2 _, .int x3 _, .int y3 _, .int z3 _], .agg [.int x4 _, .int y4 _, .int z4 _, .int x5 _, .int y5 _, .int z5 _, .int x6 _, .int y6 _, .int z6 _]] =>
    some (none, .c (.val (.bool (touchesV ⟨x1, y1, z1⟩ ⟨x2, y2, z2⟩ ⟨x3, y3, z3⟩ ⟨x4, y4, z4⟩ ⟨x5, y5, z5⟩ ⟨x6, y6, z6⟩ || touchesV ⟨x4, y4, z4⟩ ⟨x5, y5, z5⟩ ⟨x6, y6, z6⟩ ⟨x1, y1, z1⟩ ⟨x2, y2, z2⟩ ⟨x3, y3, z3⟩))))
  | _ => none
set_option maxHeartbeats 8000000 in
theorem spCommon : SpOk Tryz.prog 23 dCommon := sp_of2 (un := 20) (n := 0) ⟨Tryz.func23, by kernel_rfl, by kernel_rfl⟩ baseG0_ok noF_ok fun args p v hd => by
  unfold dCommon at hd
  split at hd
  · rename_i x1 hx1 y1 hy1 z1 hz1 x2 hx2 y2 hy2 z2 hz2 x3 hx3 y3 hy3 z3 hz3 x4 hx4 y4 hy4 z4 hz4 x5 hx5 y5 hy5 z5 hz5 x6 hx6 y6 hy6 z6 hz6
    cases hd
    refine ⟨[.agg [.int x1 hx1, .int y1 hy1, .int z1 hz1, .int x2 hx2, .int y2 hy2, .int z2 hz2, .int x3 hx3, .int y3 hy3, .int z3 hz3], .agg [.int x4 hx4, .int y4 hy4, .int z4 hz4, .int x5 hx5, .int y5 hy5, .int z5 hz5, .int x6 hx6, .int y6 hy6, .int z6 hz6]], fun _ => rfl, fun _ _ => rfl, fun _ _ => rfl, fun _ => ?_⟩
    conv => whnf
    refine bcase_intro (fun u0 => ?_) (fun u0 => ?_)
    · conv => whnf
      exact fun ρ => sbool_e (cm_1 u0) ρ
    conv => whnf
    refine bcase_intro (fun v0 => ?_) (fun v0 => ?_)
    · conv => whnf
      exact fun ρ => sbool_e (cm_2 v0) ρ
    conv => whnf
    refine bcase_intro (fun u1 => ?_) (fun u1 => ?_)
    · conv => whnf
      exact fun ρ => sbool_e (cm_3 u1) ρ
    conv => whnf
    refine bcase_intro (fun v1 => ?_) (fun v1 => ?_)
    · conv => whnf
      exact fun ρ => sbool_e (cm_4 v1) ρ
    conv => whnf
    refine bcase_intro (fun u2 => ?_) (fun u2 => ?_)
    · conv => whnf
      exact fun ρ => sbool_e (cm_5 u2) ρ
    conv => whnf
    refine bcase_intro (fun v2 => ?_) (fun v2 => ?_)
    · conv => whnf
      exact fun ρ => sbool_e (cm_6 v2) ρ
    conv => whnf
    exact fun ρ => sbool_e (cm_0 u0 v0 u1 v1 u2 v2) ρ
  · cases hd
def baseG1 : List (FuncId × Dn) := (23, dCommon) :: baseG0
theorem baseG1_ok : AllOk baseG1 := .cons spCommon <| baseG0_ok
def apartC : List (FuncId × NewC) := [(21, cShared)]
theorem apartC_ok : AllC Tryz.prog apartC := .cons csApart .nil
abbrev envMr : Env := env 20 baseG1
theorem envMr_ok : EOk Tryz.prog envMr := env_ok baseG1_ok 20
abbrev H_R := hnew apartC (inl envMr noF 0)
theorem H_R_ok : HOk Tryz.prog H_R := hnew_ok apartC_ok (inl_ok envMr_ok mixed noF_ok 0)
set_option maxHeartbeats 16000000 in
theorem vcMeet2 (s t : TR) : vcF envMr H_R Tryz.f9 [.agg (trC s), .agg (trC t)] [] fun u _ => ∀ ρ, u.den ρ = (SV.c (.val (.bool (meetV s t)))).den ρ := by
  conv => whnf
  refine ⟨fun _ _ => rfl, ?_⟩
  conv => whnf
  refine ⟨fun _ _ => rfl, ?_⟩
  conv => whnf
  refine ⟨trivial, ⟨s, t, rfl, rfl, ?_⟩⟩
  intro o1 u1 e1 f1
  conv => whnf
  refine ⟨fun _ _ => rfl, ?_⟩
  conv => whnf
  refine ⟨fun _ _ => rfl, ?_⟩
  conv => whnf
  refine ⟨trivial, ⟨t, s, rfl, rfl, ?_⟩⟩
  intro o2 u2 e2 f2
  obtain ⟨l1, n1, c1, k1⟩ := o1
  obtain ⟨m1, n2, c2, k2⟩ := u1
  obtain ⟨l2, n3, c3, k3⟩ := o2
  obtain ⟨m2, n4, c4, k4⟩ := u2
  simp only at e1 e2 f1 f2
  subst e1 e2 f1 f2
  cases hz : apartB s t with
  | true =>
    conv => whnf
    refine bcase_intro (fun a0 => ?_) (fun a0 => ?_)
    · conv => whnf
      exact fun ρ => sbool_e (mt_t hz) ρ
    conv => whnf
    refine bcase_intro (fun a1 => ?_) (fun a1 => ?_)
    · conv => whnf
      exact fun ρ => sbool_e (mt_t hz) ρ
    conv => whnf
    refine bcase_intro (fun a2 => ?_) (fun a2 => ?_)
    · conv => whnf
      exact fun ρ => sbool_e (mt_t hz) ρ
    exact absurd (hz.symm.trans ((ap3 a0 a1).symm.trans a2)) (by decide)
  | false =>
    obtain ⟨hs, ht, hc⟩ := meet_cases hz
    rcases hc with ⟨a, u, u2, c, v, v2, w1, w2, w3, w4⟩ | ⟨a, b, u, c, d, v, w1, w2, w3, w4⟩ | ⟨a, b, c, d, e, f, w1, w2, w3, w4⟩
    · have hm := fun {x : Bool} => mt_1 (x := x) hz w1 w2 w4
      clear hz
      generalize cmn true s t = L1 at *
      generalize cmn false s t = L2 at *
      generalize cmn true t s = L3 at *
      generalize cmn false t s = L4 at *
      subst w1 w2 w3 w4
      conv => whnf
      refine bcase_intro (fun q => absurd (hs.symm.trans q) (by decide)) (fun _ => ?_)
      conv => whnf
      refine bcase_intro (fun q => absurd (ht.symm.trans q) (by decide)) (fun _ => ?_)
      conv => whnf
      refine bcase_intro (fun g => ?_) (fun g => ?_)
      · conv => whnf
        exact fun ρ => sbool_e (hm (ml_1 g)) ρ
      conv => whnf
      exact fun ρ => sbool_e (hm (ml_2 g)) ρ
    · have hm := fun {x : Bool} => mt_1 (x := x) hz w1 w2 w4
      clear hz
      generalize cmn true s t = L1 at *
      generalize cmn false s t = L2 at *
      generalize cmn true t s = L3 at *
      generalize cmn false t s = L4 at *
      subst w1 w2 w3 w4
      conv => whnf
      refine bcase_intro (fun q => absurd (hs.symm.trans q) (by decide)) (fun _ => ?_)
      conv => whnf
      refine bcase_intro (fun q => absurd (ht.symm.trans q) (by decide)) (fun _ => ?_)
      conv => whnf
      refine bcase_intro (fun g => ?_) (fun g => ?_)
      · conv => whnf
        exact fun ρ => sbool_e (hm (ml_3 g)) ρ
      conv => whnf
      exact fun ρ => sbool_e (hm (ml_4 g)) ρ
    · have hm := fun {x : Bool} => mt_1 (x := x) hz w1 w2 w4
      clear hz
      generalize cmn true s t = L1 at *
      generalize cmn false s t = L2 at *
      generalize cmn true t s = L3 at *
      generalize cmn false t s = L4 at *
      subst w1 w2 w3 w4
      conv => whnf
      refine bcase_intro (fun q => absurd (hs.symm.trans q) (by decide)) (fun _ => ?_)
      conv => whnf
      refine bcase_intro (fun q => absurd (ht.symm.trans q) (by decide)) (fun _ => ?_)
      conv => whnf
      exact fun ρ => sbool_e (hm rfl) ρ
def dMeetR : Dn
  | [.agg [.int x1 hx1, .int y1 hy1, .int z1 hz1, .int x2 hx2, .int y2 hy2, .int z2 hz2, .int x3 hx3, .int y3 hy3, .int z3 hz3], .agg [.int x4 hx4, .int y4 hy4, .int z4 hz4, .int x5 hx5, .int y5 hy5, .int z5 hz5, .int x6 hx6, .int y6 hy6, .int z6 hz6]] => some (none, .c (.val (.bool (meetV ⟨⟨x1, y1, z1, hx1, hy1, hz1⟩, ⟨x2, y2, z2, hx2, hy2, hz2⟩, ⟨x3, y3, z3, hx3, hy3, hz3⟩⟩ ⟨⟨x4, y4, z4, hx4, hy4, hz4⟩, ⟨x5, y5, z5, hx5, hy5, hz5⟩, ⟨x6, y6, z6, hx6, hy6, hz6⟩⟩))))
  | _ => none
theorem spMeetR : SpOk Tryz.prog 9 dMeetR := ⟨(⟨Tryz.func9, by kernel_rfl, by kernel_rfl⟩ : FnOk Tryz.prog 9 Tryz.f9).callable, fun args p v hd => by
  unfold dMeetR at hd
  split at hd
  · rename_i x1 hx1 y1 hy1 z1 hz1 x2 hx2 y2 hy2 z2 hz2 x3 hx3 y3 hy3 z3 hz3 x4 hx4 y4 hy4 z4 hz4 x5 hx5 y5 hy5 z5 hz5 x6 hx6 y6 hy6 z6 hz6
    cases hd
    exact ⟨fun _ _ => rfl, fun _ ρ w => pure_okE envMr_ok H_R_ok ⟨Tryz.func9, by kernel_rfl, by kernel_rfl⟩ (fun _ _ => rfl) (fun _ _ => rfl) (vcMeet2 ⟨⟨x1, y1, z1, hx1, hy1, hz1⟩, ⟨x2, y2, z2, hx2, hy2, hz2⟩, ⟨x3, y3, z3, hx3, hy3, hz3⟩⟩ ⟨⟨x4, y4, z4, hx4, hy4, hz4⟩, ⟨x5, y5, z5, hx5, hy5, hz5⟩, ⟨x6, y6, z6, hx6, hy6, hz6⟩⟩) ρ w⟩
  · cases hd⟩
def baseG2 : List (FuncId × Dn) := (9, dMeetR) :: baseG1
theorem baseG2_ok : AllOk baseG2 := .cons spMeetR <| baseG1_ok
end Go.Proofs.YtmooplnklcgfjaaGreatDoor
