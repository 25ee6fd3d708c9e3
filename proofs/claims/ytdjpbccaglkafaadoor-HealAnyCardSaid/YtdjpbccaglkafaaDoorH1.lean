/- law 05: rotated, same, Alike. -/
import Derived.Test.YtdjpbccaglkafaaDoorGL
namespace Go.Proofs.YtdjpbccaglkafaaDoor
open Go.RowKit
set_option maxRecDepth 100000

def rotT (t : TR) : TR := cond (lessZ t.b.v t.a.v) (cond (lessZ t.c.v t.b.v) ⟨t.c, t.a, t.b⟩ ⟨t.b, t.c, t.a⟩) (cond (lessZ t.c.v t.a.v) ⟨t.c, t.a, t.b⟩ t)
/-- a triangle's corners -/
def TR.vs (t : TR) : V3 × V3 × V3 := (t.a.v, t.b.v, t.c.v)
theorem rotT_vs (t : TR) : (rotT t).vs = rotZ t.a.v t.b.v t.c.v := by
  unfold rotT rotZ
  cases lessZ t.b.v t.a.v <;> cases lessZ t.c.v t.b.v <;> cases lessZ t.c.v t.a.v <;> rfl
theorem tr_eq {s t : TR} (h : s = t) (ρ : Rho) : (SV.agg (trC s)).den ρ = (SV.agg (trC t)).den ρ := by rw [h]
def dRot : Dn
  | [.agg [.int x1 hx1, .int y1 hy1, .int z1 hz1, .int x2 hx2, .int y2 hy2, .int z2 hz2, .int x3 hx3, .int y3 hy3, .int z3 hz3]] =>
    some (none, .agg (trC (rotT (⟨⟨x1, y1, z1, hx1, hy1, hz1⟩, ⟨x2, y2, z2, hx2, hy2, hz2⟩, ⟨x3, y3, z3, hx3, hy3, hz3⟩⟩ : TR))))
  | _ => none
theorem spRot : SpOk Tryd.prog 29 dRot := sp_of2 (un := 20) (n := 0) ⟨Tryd.func29, by kernel_rfl, by kernel_rfl⟩ baseF4_ok noF_ok fun args p v hd => by
  unfold dRot at hd
  split at hd
  · rename_i x1 hx1 y1 hy1 z1 hz1 x2 hx2 y2 hy2 z2 hz2 x3 hx3 y3 hy3 z3 hz3
    cases hd
    refine ⟨[.agg [.int x1 hx1, .int y1 hy1, .int z1 hz1, .int x2 hx2, .int y2 hy2, .int z2 hz2, .int x3 hx3, .int y3 hy3, .int z3 hz3]], fun _ => rfl, fun _ _ => rfl, fun _ _ => rfl, fun _ => ?_⟩
    conv => whnf
    refine bcase_intro (fun k0 => ?_) (fun k0 => ?_)
    · exact absurd ((lz_irr _).symm.trans k0) (by decide)
    · conv => whnf
      refine bcase_intro (fun k1 => ?_) (fun k1 => ?_)
      · have k1 : lessZ ⟨x2, y2, z2⟩ ⟨x1, y1, z1⟩ = true := k1
        conv => whnf
        refine bcase_intro (fun k2 => ?_) (fun k2 => ?_)
        · have k2 : lessZ ⟨x3, y3, z3⟩ ⟨x2, y2, z2⟩ = true := k2
          conv => whnf
          have e : rotT (⟨⟨x1, y1, z1, hx1, hy1, hz1⟩, ⟨x2, y2, z2, hx2, hy2, hz2⟩, ⟨x3, y3, z3, hx3, hy3, hz3⟩⟩ : TR) = ⟨⟨x3, y3, z3, hx3, hy3, hz3⟩, ⟨x1, y1, z1, hx1, hy1, hz1⟩, ⟨x2, y2, z2, hx2, hy2, hz2⟩⟩ := by
            unfold rotT
            show cond (lessZ ⟨x2, y2, z2⟩ ⟨x1, y1, z1⟩) _ _ = _
            rw [k1]
            show cond (lessZ ⟨x3, y3, z3⟩ ⟨x2, y2, z2⟩) _ _ = _
            rw [k2]; rfl
          exact fun ρ => tr_eq e.symm ρ
        · have k2 : lessZ ⟨x3, y3, z3⟩ ⟨x2, y2, z2⟩ = false := k2
          conv => whnf
          have e : rotT (⟨⟨x1, y1, z1, hx1, hy1, hz1⟩, ⟨x2, y2, z2, hx2, hy2, hz2⟩, ⟨x3, y3, z3, hx3, hy3, hz3⟩⟩ : TR) = ⟨⟨x2, y2, z2, hx2, hy2, hz2⟩, ⟨x3, y3, z3, hx3, hy3, hz3⟩, ⟨x1, y1, z1, hx1, hy1, hz1⟩⟩ := by
            unfold rotT
            show cond (lessZ ⟨x2, y2, z2⟩ ⟨x1, y1, z1⟩) _ _ = _
            rw [k1]
            show cond (lessZ ⟨x3, y3, z3⟩ ⟨x2, y2, z2⟩) _ _ = _
            rw [k2]; rfl
          exact fun ρ => tr_eq e.symm ρ
      · have k1 : lessZ ⟨x2, y2, z2⟩ ⟨x1, y1, z1⟩ = false := k1
        conv => whnf
        refine bcase_intro (fun k2 => ?_) (fun k2 => ?_)
        · have k2 : lessZ ⟨x3, y3, z3⟩ ⟨x1, y1, z1⟩ = true := k2
          conv => whnf
          have e : rotT (⟨⟨x1, y1, z1, hx1, hy1, hz1⟩, ⟨x2, y2, z2, hx2, hy2, hz2⟩, ⟨x3, y3, z3, hx3, hy3, hz3⟩⟩ : TR) = ⟨⟨x3, y3, z3, hx3, hy3, hz3⟩, ⟨x1, y1, z1, hx1, hy1, hz1⟩, ⟨x2, y2, z2, hx2, hy2, hz2⟩⟩ := by
            unfold rotT
            show cond (lessZ ⟨x2, y2, z2⟩ ⟨x1, y1, z1⟩) _ _ = _
            rw [k1]
            show cond (lessZ ⟨x3, y3, z3⟩ ⟨x1, y1, z1⟩) _ _ = _
            rw [k2]; rfl
          exact fun ρ => tr_eq e.symm ρ
        · have k2 : lessZ ⟨x3, y3, z3⟩ ⟨x1, y1, z1⟩ = false := k2
          conv => whnf
          have e : rotT (⟨⟨x1, y1, z1, hx1, hy1, hz1⟩, ⟨x2, y2, z2, hx2, hy2, hz2⟩, ⟨x3, y3, z3, hx3, hy3, hz3⟩⟩ : TR) = ⟨⟨x1, y1, z1, hx1, hy1, hz1⟩, ⟨x2, y2, z2, hx2, hy2, hz2⟩, ⟨x3, y3, z3, hx3, hy3, hz3⟩⟩ := by
            unfold rotT
            show cond (lessZ ⟨x2, y2, z2⟩ ⟨x1, y1, z1⟩) _ _ = _
            rw [k1]
            show cond (lessZ ⟨x3, y3, z3⟩ ⟨x1, y1, z1⟩) _ _ = _
            rw [k2]; rfl
          exact fun ρ => tr_eq e.symm ρ
  · cases hd
def eqT (s t : TR) : Bool := eqP s.a t.a && (eqP s.b t.b && eqP s.c t.c)
theorem TR.ext' {s t : TR} (h1 : s.a = t.a) (h2 : s.b = t.b) (h3 : s.c = t.c) : s = t := by cases s; cases t; simp_all
theorem eqT_iff {s t : TR} : eqT s t = true ↔ s = t := by
  unfold eqT
  rw [Bool.and_eq_true, Bool.and_eq_true, eqP_iff, eqP_iff, eqP_iff]
  exact ⟨fun h => TR.ext' h.1 h.2.1 h.2.2, fun h => by subst h; exact ⟨rfl, rfl, rfl⟩⟩
theorem and9 (a b c d e f g h i : Bool) : (a && (b && (c && (d && (e && (f && (g && (h && i)))))))) = ((a && (b && c)) && ((d && (e && f)) && (g && (h && i)))) := by cases a <;> cases b <;> cases c <;> cases d <;> cases e <;> cases f <;> cases g <;> cases h <;> rfl
def dSameT : Dn
  | [.agg [.int x1 hx1, .int y1 hy1, .int z1 hz1, .int x2 hx2, .int y2 hy2, .int z2 hz2, .int x3 hx3, .int y3 hy3, .int z3 hz3], .agg [.int x4 hx4, .int y4 hy4, .int z4 hz4, .int x5 hx5, .int y5 hy5, .int z5 hz5, .int x6 hx6, .int y6 hy6, .int z6 hz6]] =>
    some (none, .c (.val (.bool (eqT (⟨⟨x1, y1, z1, hx1, hy1, hz1⟩, ⟨x2, y2, z2, hx2, hy2, hz2⟩, ⟨x3, y3, z3, hx3, hy3, hz3⟩⟩ : TR) (⟨⟨x4, y4, z4, hx4, hy4, hz4⟩, ⟨x5, y5, z5, hx5, hy5, hz5⟩, ⟨x6, y6, z6, hx6, hy6, hz6⟩⟩ : TR)))))
  | _ => none
theorem spSameT : SpOk Tryd.prog 32 dSameT := sp_of2 (un := 20) (n := 0) ⟨Tryd.func32, by kernel_rfl, by kernel_rfl⟩ baseF4_ok noF_ok fun args p v hd => by
  unfold dSameT at hd
  split at hd
  · rename_i x1 hx1 y1 hy1 z1 hz1 x2 hx2 y2 hy2 z2 hz2 x3 hx3 y3 hy3 z3 hz3 x4 hx4 y4 hy4 z4 hz4 x5 hx5 y5 hy5 z5 hz5 x6 hx6 y6 hy6 z6 hz6
    cases hd
    refine ⟨[.agg [.int x1 hx1, .int y1 hy1, .int z1 hz1, .int x2 hx2, .int y2 hy2, .int z2 hz2, .int x3 hx3, .int y3 hy3, .int z3 hz3], .agg [.int x4 hx4, .int y4 hy4, .int z4 hz4, .int x5 hx5, .int y5 hy5, .int z5 hz5, .int x6 hx6, .int y6 hy6, .int z6 hz6]], fun _ => rfl, fun _ _ => rfl, fun _ _ => rfl, fun _ => ?_⟩
    conv => whnf
    exact fun ρ => sbool_e (by unfold eqT eqP; exact and9 _ _ _ _ _ _ _ _ _) ρ
  · cases hd
/-- how two triangles have the same corners -/
def alT (s t : TR) : Int := alZ s.a.v s.b.v s.c.v t.a.v t.b.v t.c.v
theorem ir_al (s t : TR) : IR (alT s t) := by
  have : ∀ a b c d e f : Bool, IR (cond a (1 : Int) (cond b 2 (cond c 1 (cond d 2 (cond e 1 (cond f 2 0)))))) := by decide
  exact this _ _ _ _ _ _
/-- what is left of it from the k-th corner on -/
def chT (s t : TR) : Nat → Int
  | 0 => alT s t
  | 1 => cond (eqP s.a t.b && (eqP s.b t.c && eqP s.c t.a)) 1 (cond (eqP s.a t.b && (eqP s.b t.a && eqP s.c t.c)) 2 (cond (eqP s.a t.c && (eqP s.b t.a && eqP s.c t.b)) 1 (cond (eqP s.a t.c && (eqP s.b t.b && eqP s.c t.a)) 2 0)))
  | 2 => cond (eqP s.a t.c && (eqP s.b t.a && eqP s.c t.b)) 1 (cond (eqP s.a t.c && (eqP s.b t.b && eqP s.c t.a)) 2 0)
  | _ => 0
theorem ch0 (s t : TR) : chT s t 0 = cond (eqP s.a t.a && (eqP s.b t.b && eqP s.c t.c)) 1 (cond (eqP s.a t.a && (eqP s.b t.c && eqP s.c t.b)) 2 (chT s t 1)) := rfl
theorem ch1 (s t : TR) : chT s t 1 = cond (eqP s.a t.b && (eqP s.b t.c && eqP s.c t.a)) 1 (cond (eqP s.a t.b && (eqP s.b t.a && eqP s.c t.c)) 2 (chT s t 2)) := rfl
theorem ch2 (s t : TR) : chT s t 2 = cond (eqP s.a t.c && (eqP s.b t.a && eqP s.c t.b)) 1 (cond (eqP s.a t.c && (eqP s.b t.b && eqP s.c t.a)) 2 (chT s t 3)) := rfl
theorem ir_3 {k : Nat} (h : k ≤ 3) : IR k := by unfold IR; omega
section
variable {a b c d e : Bool} {n : Int}
theorem cn1 (h : (!a) = true) : cond (a && (b && c)) (1 : Int) (cond (a && (d && e)) 2 n) = n := by cases a <;> simp_all
theorem cn2 (ha : (!a) = false) (hb : b = true) (hc : c = true) : cond (a && (b && c)) (1 : Int) (cond (a && (d && e)) 2 n) = 1 := by cases a <;> simp_all
theorem cn3 (ha : (!a) = false) (h : b = false ∨ c = false) (hd : d = true) (he : e = true) : cond (a && (b && c)) (1 : Int) (cond (a && (d && e)) 2 n) = 2 := by cases a <;> rcases h with h | h <;> simp_all
theorem cn4 (h : b = false ∨ c = false) (h' : d = false ∨ e = false) : cond (a && (b && c)) (1 : Int) (cond (a && (d && e)) 2 n) = n := by cases a <;> rcases h with h | h <;> rcases h' with h' | h' <;> simp_all
end
theorem vcAl (S T : TR) : vcF (env 0 baseF4) (inl (env 0 baseF4) noF 0) Tryd.f19 [.agg (trC S), .agg (trC T)] [] fun u _ => ∀ ρ, u.den ρ = (SV.c (.int (alT S T) (ir_al _ _))).den ρ := by
  conv => whnf
  refine loop_st (G := {k : Nat // k ≤ 3 ∧ alT S T = chT S T k} × (Nat → Value)) (fun g => (.c (.val (g.2 0)) :: .c (.val (g.2 1)) :: .c (.ptr 0 0) :: .c (.ptr 1 0) :: .c (.val (g.2 4)) :: .c (.int (g.1.1 : Nat) (ir_3 g.1.2.1)) :: .c (.val (g.2 6)) :: .c (.val (g.2 7)) :: .c (.val (g.2 8)) :: .c (.val (g.2 9)) :: .c (.val (g.2 10)) :: .c (.val (g.2 11)) :: .c (.val (g.2 12)) :: .c (.val (g.2 13)) :: .c (.val (g.2 14)) :: .c (.val (g.2 15)) :: .c (.val (g.2 16)) :: .c (.val (g.2 17)) :: .c (.val (g.2 18)) :: .c (.val (g.2 19)) :: .c (.val (g.2 20)) :: .c (.val (g.2 21)) :: .c (.val (g.2 22)) :: .c (.val (g.2 23)) :: .c (.val (g.2 24)) :: .c (.val (g.2 25)) :: .c (.val (g.2 26)) :: .c (.val (g.2 27)) :: .c (.val (g.2 28)) :: .c (.val (g.2 29)) :: .c (.val (g.2 30)) :: .c (.val (g.2 31)) :: .c (.val (g.2 32)) :: .c (.val (g.2 33)) :: .c (.val (g.2 34)) :: .c (.val (g.2 35)) :: .c (.val (g.2 36)) :: .c (.val (g.2 37)) :: .c (.val (g.2 38)) :: .c (.val (g.2 39)) :: .c (.val (g.2 40)) :: .c (.val (g.2 41)) :: .c (.val (g.2 42)) :: .c (.val (g.2 43)) :: .c (.val (g.2 44)) :: .c (.val (g.2 45)) :: .c (.val (g.2 46)) :: .c (.val (g.2 47)) :: .c (.val (g.2 48)) :: .c (.val (g.2 49)) :: .c (.val (g.2 50)) :: .c (.val (g.2 51)) :: [])) (fun _ => [⟨45, false, trC S, 0⟩, ⟨45, false, trC T, 0⟩]) (fun g => 3 - g.1.1) ?_ ?_
  · refine ⟨[0, 1], [2, 3, 5], [0, 1], fun vs => ?_⟩
    conv => whnf
    refine ⟨fun _ _ => rfl, fun _ _ => rfl, ?_⟩
    conv => whnf
    refine ⟨_, _, ?_, ?_, (⟨0, Nat.zero_le _, rfl⟩, vs), rfl, rfl⟩
    · exact stm _
    · exact ⟨⟨rfl, rfl, rfl, fun _ => rfl⟩, ⟨rfl, rfl, rfl, fun _ => rfl⟩, trivial⟩
  · rintro ⟨⟨k, hk, he⟩, vs⟩
    have hk3 : k = 0 ∨ k = 1 ∨ k = 2 ∨ k = 3 := by have hk : k ≤ 3 := hk; omega
    rcases hk3 with rfl | rfl | rfl | rfl
    · dsimp only
      conv => whnf
      refine bcase_intro (fun ha => ?_) (fun ha => ?_)
      · have ha : (!eqP S.a T.a) = true := ha
        conv => whnf
        refine ⟨[0, 1], [2, 3, 5], [0, 1], fun vs2 => ?_⟩
        conv => whnf
        refine ⟨fun _ _ => rfl, fun _ _ => rfl, ?_⟩
        conv => whnf
        refine ⟨_, _, ?_, ?_, (⟨1, by decide, he.trans (cn1 ha)⟩, vs2), (by decide : 3 - 1 < 3 - 0), rfl, rfl⟩
        · exact stm _
        · exact ⟨⟨rfl, rfl, rfl, fun _ => rfl⟩, ⟨rfl, rfl, rfl, fun _ => rfl⟩, trivial⟩
      · have ha : (!eqP S.a T.a) = false := ha
        conv => whnf
        refine bcase_intro (fun hb => ?_) (fun hb => ?_)
        · have hb : eqP S.b T.b = true := hb
          conv => whnf
          refine bcase_intro (fun hc => ?_) (fun hc => ?_)
          · have hc : eqP S.c T.c = true := hc
            conv => whnf
            exact fun ρ => sint_e (he.trans (cn2 ha hb hc)).symm ρ
          · have hc : eqP S.c T.c = false := hc
            conv => whnf
            refine bcase_intro (fun hd => ?_) (fun hd => ?_)
            · have hd : eqP S.b T.c = true := hd
              conv => whnf
              refine bcase_intro (fun hx => ?_) (fun hx => ?_)
              · have hx : eqP S.c T.b = true := hx
                conv => whnf
                exact fun ρ => sint_e (he.trans (cn3 ha (.inr hc) hd hx)).symm ρ
              · have hx : eqP S.c T.b = false := hx
                conv => whnf
                refine ⟨[0, 1], [2, 3, 5], [0, 1], fun vs2 => ?_⟩
                conv => whnf
                refine ⟨fun _ _ => rfl, fun _ _ => rfl, ?_⟩
                conv => whnf
                refine ⟨_, _, ?_, ?_, (⟨1, by decide, he.trans (cn4 (.inr hc) (.inr hx))⟩, vs2), (by decide : 3 - 1 < 3 - 0), rfl, rfl⟩
                · exact stm _
                · exact ⟨⟨rfl, rfl, rfl, fun _ => rfl⟩, ⟨rfl, rfl, rfl, fun _ => rfl⟩, trivial⟩
            · have hd : eqP S.b T.c = false := hd
              conv => whnf
              refine ⟨[0, 1], [2, 3, 5], [0, 1], fun vs2 => ?_⟩
              conv => whnf
              refine ⟨fun _ _ => rfl, fun _ _ => rfl, ?_⟩
              conv => whnf
              refine ⟨_, _, ?_, ?_, (⟨1, by decide, he.trans (cn4 (.inr hc) (.inl hd))⟩, vs2), (by decide : 3 - 1 < 3 - 0), rfl, rfl⟩
              · exact stm _
              · exact ⟨⟨rfl, rfl, rfl, fun _ => rfl⟩, ⟨rfl, rfl, rfl, fun _ => rfl⟩, trivial⟩
        · have hb : eqP S.b T.b = false := hb
          conv => whnf
          refine bcase_intro (fun hd => ?_) (fun hd => ?_)
          · have hd : eqP S.b T.c = true := hd
            conv => whnf
            refine bcase_intro (fun hx => ?_) (fun hx => ?_)
            · have hx : eqP S.c T.b = true := hx
              conv => whnf
              exact fun ρ => sint_e (he.trans (cn3 ha (.inl hb) hd hx)).symm ρ
            · have hx : eqP S.c T.b = false := hx
              conv => whnf
              refine ⟨[0, 1], [2, 3, 5], [0, 1], fun vs2 => ?_⟩
              conv => whnf
              refine ⟨fun _ _ => rfl, fun _ _ => rfl, ?_⟩
              conv => whnf
              refine ⟨_, _, ?_, ?_, (⟨1, by decide, he.trans (cn4 (.inl hb) (.inr hx))⟩, vs2), (by decide : 3 - 1 < 3 - 0), rfl, rfl⟩
              · exact stm _
              · exact ⟨⟨rfl, rfl, rfl, fun _ => rfl⟩, ⟨rfl, rfl, rfl, fun _ => rfl⟩, trivial⟩
          · have hd : eqP S.b T.c = false := hd
            conv => whnf
            refine ⟨[0, 1], [2, 3, 5], [0, 1], fun vs2 => ?_⟩
            conv => whnf
            refine ⟨fun _ _ => rfl, fun _ _ => rfl, ?_⟩
            conv => whnf
            refine ⟨_, _, ?_, ?_, (⟨1, by decide, he.trans (cn4 (.inl hb) (.inl hd))⟩, vs2), (by decide : 3 - 1 < 3 - 0), rfl, rfl⟩
            · exact stm _
            · exact ⟨⟨rfl, rfl, rfl, fun _ => rfl⟩, ⟨rfl, rfl, rfl, fun _ => rfl⟩, trivial⟩
    · dsimp only
      conv => whnf
      refine bcase_intro (fun ha => ?_) (fun ha => ?_)
      · have ha : (!eqP S.a T.b) = true := ha
        conv => whnf
        refine ⟨[0, 1], [2, 3, 5], [0, 1], fun vs2 => ?_⟩
        conv => whnf
        refine ⟨fun _ _ => rfl, fun _ _ => rfl, ?_⟩
        conv => whnf
        refine ⟨_, _, ?_, ?_, (⟨2, by decide, he.trans (cn1 ha)⟩, vs2), (by decide : 3 - 2 < 3 - 1), rfl, rfl⟩
        · exact stm _
        · exact ⟨⟨rfl, rfl, rfl, fun _ => rfl⟩, ⟨rfl, rfl, rfl, fun _ => rfl⟩, trivial⟩
      · have ha : (!eqP S.a T.b) = false := ha
        conv => whnf
        refine bcase_intro (fun hb => ?_) (fun hb => ?_)
        · have hb : eqP S.b T.c = true := hb
          conv => whnf
          refine bcase_intro (fun hc => ?_) (fun hc => ?_)
          · have hc : eqP S.c T.a = true := hc
            conv => whnf
            exact fun ρ => sint_e (he.trans (cn2 ha hb hc)).symm ρ
          · have hc : eqP S.c T.a = false := hc
            conv => whnf
            refine bcase_intro (fun hd => ?_) (fun hd => ?_)
            · have hd : eqP S.b T.a = true := hd
              conv => whnf
              refine bcase_intro (fun hx => ?_) (fun hx => ?_)
              · have hx : eqP S.c T.c = true := hx
                conv => whnf
                exact fun ρ => sint_e (he.trans (cn3 ha (.inr hc) hd hx)).symm ρ
              · have hx : eqP S.c T.c = false := hx
                conv => whnf
                refine ⟨[0, 1], [2, 3, 5], [0, 1], fun vs2 => ?_⟩
                conv => whnf
                refine ⟨fun _ _ => rfl, fun _ _ => rfl, ?_⟩
                conv => whnf
                refine ⟨_, _, ?_, ?_, (⟨2, by decide, he.trans (cn4 (.inr hc) (.inr hx))⟩, vs2), (by decide : 3 - 2 < 3 - 1), rfl, rfl⟩
                · exact stm _
                · exact ⟨⟨rfl, rfl, rfl, fun _ => rfl⟩, ⟨rfl, rfl, rfl, fun _ => rfl⟩, trivial⟩
            · have hd : eqP S.b T.a = false := hd
              conv => whnf
              refine ⟨[0, 1], [2, 3, 5], [0, 1], fun vs2 => ?_⟩
              conv => whnf
              refine ⟨fun _ _ => rfl, fun _ _ => rfl, ?_⟩
              conv => whnf
              refine ⟨_, _, ?_, ?_, (⟨2, by decide, he.trans (cn4 (.inr hc) (.inl hd))⟩, vs2), (by decide : 3 - 2 < 3 - 1), rfl, rfl⟩
              · exact stm _
              · exact ⟨⟨rfl, rfl, rfl, fun _ => rfl⟩, ⟨rfl, rfl, rfl, fun _ => rfl⟩, trivial⟩
        · have hb : eqP S.b T.c = false := hb
          conv => whnf
          refine bcase_intro (fun hd => ?_) (fun hd => ?_)
          · have hd : eqP S.b T.a = true := hd
            conv => whnf
            refine bcase_intro (fun hx => ?_) (fun hx => ?_)
            · have hx : eqP S.c T.c = true := hx
              conv => whnf
              exact fun ρ => sint_e (he.trans (cn3 ha (.inl hb) hd hx)).symm ρ
            · have hx : eqP S.c T.c = false := hx
              conv => whnf
              refine ⟨[0, 1], [2, 3, 5], [0, 1], fun vs2 => ?_⟩
              conv => whnf
              refine ⟨fun _ _ => rfl, fun _ _ => rfl, ?_⟩
              conv => whnf
              refine ⟨_, _, ?_, ?_, (⟨2, by decide, he.trans (cn4 (.inl hb) (.inr hx))⟩, vs2), (by decide : 3 - 2 < 3 - 1), rfl, rfl⟩
              · exact stm _
              · exact ⟨⟨rfl, rfl, rfl, fun _ => rfl⟩, ⟨rfl, rfl, rfl, fun _ => rfl⟩, trivial⟩
          · have hd : eqP S.b T.a = false := hd
            conv => whnf
            refine ⟨[0, 1], [2, 3, 5], [0, 1], fun vs2 => ?_⟩
            conv => whnf
            refine ⟨fun _ _ => rfl, fun _ _ => rfl, ?_⟩
            conv => whnf
            refine ⟨_, _, ?_, ?_, (⟨2, by decide, he.trans (cn4 (.inl hb) (.inl hd))⟩, vs2), (by decide : 3 - 2 < 3 - 1), rfl, rfl⟩
            · exact stm _
            · exact ⟨⟨rfl, rfl, rfl, fun _ => rfl⟩, ⟨rfl, rfl, rfl, fun _ => rfl⟩, trivial⟩
    · dsimp only
      conv => whnf
      refine bcase_intro (fun ha => ?_) (fun ha => ?_)
      · have ha : (!eqP S.a T.c) = true := ha
        conv => whnf
        refine ⟨[0, 1], [2, 3, 5], [0, 1], fun vs2 => ?_⟩
        conv => whnf
        refine ⟨fun _ _ => rfl, fun _ _ => rfl, ?_⟩
        conv => whnf
        refine ⟨_, _, ?_, ?_, (⟨3, by decide, he.trans (cn1 ha)⟩, vs2), (by decide : 3 - 3 < 3 - 2), rfl, rfl⟩
        · exact stm _
        · exact ⟨⟨rfl, rfl, rfl, fun _ => rfl⟩, ⟨rfl, rfl, rfl, fun _ => rfl⟩, trivial⟩
      · have ha : (!eqP S.a T.c) = false := ha
        conv => whnf
        refine bcase_intro (fun hb => ?_) (fun hb => ?_)
        · have hb : eqP S.b T.a = true := hb
          conv => whnf
          refine bcase_intro (fun hc => ?_) (fun hc => ?_)
          · have hc : eqP S.c T.b = true := hc
            conv => whnf
            exact fun ρ => sint_e (he.trans (cn2 ha hb hc)).symm ρ
          · have hc : eqP S.c T.b = false := hc
            conv => whnf
            refine bcase_intro (fun hd => ?_) (fun hd => ?_)
            · have hd : eqP S.b T.b = true := hd
              conv => whnf
              refine bcase_intro (fun hx => ?_) (fun hx => ?_)
              · have hx : eqP S.c T.a = true := hx
                conv => whnf
                exact fun ρ => sint_e (he.trans (cn3 ha (.inr hc) hd hx)).symm ρ
              · have hx : eqP S.c T.a = false := hx
                conv => whnf
                refine ⟨[0, 1], [2, 3, 5], [0, 1], fun vs2 => ?_⟩
                conv => whnf
                refine ⟨fun _ _ => rfl, fun _ _ => rfl, ?_⟩
                conv => whnf
                refine ⟨_, _, ?_, ?_, (⟨3, by decide, he.trans (cn4 (.inr hc) (.inr hx))⟩, vs2), (by decide : 3 - 3 < 3 - 2), rfl, rfl⟩
                · exact stm _
                · exact ⟨⟨rfl, rfl, rfl, fun _ => rfl⟩, ⟨rfl, rfl, rfl, fun _ => rfl⟩, trivial⟩
            · have hd : eqP S.b T.b = false := hd
              conv => whnf
              refine ⟨[0, 1], [2, 3, 5], [0, 1], fun vs2 => ?_⟩
              conv => whnf
              refine ⟨fun _ _ => rfl, fun _ _ => rfl, ?_⟩
              conv => whnf
              refine ⟨_, _, ?_, ?_, (⟨3, by decide, he.trans (cn4 (.inr hc) (.inl hd))⟩, vs2), (by decide : 3 - 3 < 3 - 2), rfl, rfl⟩
              · exact stm _
              · exact ⟨⟨rfl, rfl, rfl, fun _ => rfl⟩, ⟨rfl, rfl, rfl, fun _ => rfl⟩, trivial⟩
        · have hb : eqP S.b T.a = false := hb
          conv => whnf
          refine bcase_intro (fun hd => ?_) (fun hd => ?_)
          · have hd : eqP S.b T.b = true := hd
            conv => whnf
            refine bcase_intro (fun hx => ?_) (fun hx => ?_)
            · have hx : eqP S.c T.a = true := hx
              conv => whnf
              exact fun ρ => sint_e (he.trans (cn3 ha (.inl hb) hd hx)).symm ρ
            · have hx : eqP S.c T.a = false := hx
              conv => whnf
              refine ⟨[0, 1], [2, 3, 5], [0, 1], fun vs2 => ?_⟩
              conv => whnf
              refine ⟨fun _ _ => rfl, fun _ _ => rfl, ?_⟩
              conv => whnf
              refine ⟨_, _, ?_, ?_, (⟨3, by decide, he.trans (cn4 (.inl hb) (.inr hx))⟩, vs2), (by decide : 3 - 3 < 3 - 2), rfl, rfl⟩
              · exact stm _
              · exact ⟨⟨rfl, rfl, rfl, fun _ => rfl⟩, ⟨rfl, rfl, rfl, fun _ => rfl⟩, trivial⟩
          · have hd : eqP S.b T.b = false := hd
            conv => whnf
            refine ⟨[0, 1], [2, 3, 5], [0, 1], fun vs2 => ?_⟩
            conv => whnf
            refine ⟨fun _ _ => rfl, fun _ _ => rfl, ?_⟩
            conv => whnf
            refine ⟨_, _, ?_, ?_, (⟨3, by decide, he.trans (cn4 (.inl hb) (.inl hd))⟩, vs2), (by decide : 3 - 3 < 3 - 2), rfl, rfl⟩
            · exact stm _
            · exact ⟨⟨rfl, rfl, rfl, fun _ => rfl⟩, ⟨rfl, rfl, rfl, fun _ => rfl⟩, trivial⟩
    · conv => whnf
      exact fun ρ => sint_e he.symm ρ
def toTr : List C → Option TR
  | [.int x1 h1, .int y1 h2, .int z1 h3, .int x2 h4, .int y2 h5, .int z2 h6, .int x3 h7, .int y3 h8, .int z3 h9] => some ⟨⟨x1, y1, z1, h1, h2, h3⟩, ⟨x2, y2, z2, h4, h5, h6⟩, ⟨x3, y3, z3, h7, h8, h9⟩⟩
  | _ => none
theorem toTr_eq {l : List C} {t : TR} (h : toTr l = some t) : l = trC t := by
  unfold toTr at h
  split at h
  · cases h; rfl
  · cases h
def dAl : Dn
  | [.agg a, .agg b] => (match toTr a, toTr b with
    | some s, some t => some (none, .c (.int (alT s t) (ir_al _ _)))
    | _, _ => none)
  | _ => none
theorem spAl : SpOk Tryd.prog 19 dAl := ⟨⟨_, Tryd.func19, by kernel_rfl, by kernel_rfl⟩, fun args p v hd => by
  unfold dAl at hd
  split at hd
  · rename_i a b
    split at hd
    · rename_i s t h1 h2
      cases hd
      obtain rfl := toTr_eq h1
      obtain rfl := toTr_eq h2
      exact ⟨fun _ _ => rfl, fun _ ρ w => pure_ok (env_ok baseF4_ok 0) mixed noF_ok ⟨Tryd.func19, by kernel_rfl, by kernel_rfl⟩ (fun _ _ => rfl) (fun _ _ => rfl) (vcAl s t) ρ w⟩
    · cases hd
  · cases hd⟩
end Go.Proofs.YtdjpbccaglkafaaDoor
