/- Triangles that meet, by the reckoner. -/
import Derived.Test.YtmooplnklcgfjaaGreatDoorE5
namespace Go.Proofs.YtmooplnklcgfjaaGreatDoor
open Go.RowKit
set_option maxRecDepth 100000

/-- a side of one triangle touches the other one -/
def touchesV (s0 s1 s2 t0 t1 t2 : V3) : Bool := touchV s0 s1 t0 t1 t2 || (touchV s1 s2 t0 t1 t2 || touchV s2 s0 t0 t1 t2)
theorem tch1 {a b c d e f : V3} (h : touchV a b d e f = true) : true = touchesV a b c d e f := by unfold touchesV; rw [h]; rfl
theorem tch2 {a b c d e f : V3} (h : touchV a b d e f = false) (h1 : touchV b c d e f = true) : true = touchesV a b c d e f := by unfold touchesV; rw [h, h1]; rfl
theorem tch3 {a b c d e f : V3} (h : touchV a b d e f = false) (h1 : touchV b c d e f = false) : touchV c a d e f = touchesV a b c d e f := by unfold touchesV; rw [h, h1]; rfl
noncomputable def fxTs : FuncId → Option Func := lk [(55, Tryz.f55)]
theorem fxTs_ok : ∀ f fn, fxTs f = some fn → FnOk Tryz.prog f fn := lkF_ok fun x hx => by
  simp only [List.mem_cons, List.not_mem_nil, or_false] at hx
  subst hx
  · exact ⟨Tryz.func55, by kernel_rfl, by kernel_rfl⟩
abbrev envT2 : Env := envE 20 baseE8 [] (fun _ => false) sidesR
theorem envT2_ok : EOk Tryz.prog envT2 := envE_ok baseE8_ok .nil 20 _ sidesR_ok
def dTouches : Dn
  | [.agg [.int x1 _, .int y1 _, .int z1 _, .int x2 _, .int y2 _, .int z2 _, .int x3 _, .int y3 _, .int z3 _], .agg [.int x4 _, .int y4 _, .int z4 _, .int x5 _, .int y5 _, .int z5 _, .int x6 _, .int y6 _, .int z6 _]] =>
    some (none, .c (.val (.bool (touchesV ⟨x1, y1, z1⟩ ⟨x2, y2, z2⟩ ⟨x3, y3, z3⟩ ⟨x4, y4, z4⟩ ⟨x5, y5, z5⟩ ⟨x6, y6, z6⟩))))
  | _ => none
set_option maxHeartbeats 8000000 in
theorem spTouches : SpOk Tryz.prog 29 dTouches := sp_ofE (n := 4) ⟨Tryz.func29, by kernel_rfl, by kernel_rfl⟩ envT2_ok fxTs_ok fun args p v hd => by
  unfold dTouches at hd
  split at hd
  · rename_i x1 hx1 y1 hy1 z1 hz1 x2 hx2 y2 hy2 z2 hz2 x3 hx3 y3 hy3 z3 hz3 x4 hx4 y4 hy4 z4 hz4 x5 hx5 y5 hy5 z5 hz5 x6 hx6 y6 hy6 z6 hz6
    cases hd
    refine ⟨[.agg [.int x1 hx1, .int y1 hy1, .int z1 hz1, .int x2 hx2, .int y2 hy2, .int z2 hz2, .int x3 hx3, .int y3 hy3, .int z3 hz3], .agg [.int x4 hx4, .int y4 hy4, .int z4 hz4, .int x5 hx5, .int y5 hy5, .int z5 hz5, .int x6 hx6, .int y6 hy6, .int z6 hz6]], fun _ => rfl, fun _ _ => rfl, fun _ _ => rfl, fun _ => ?_⟩
    conv => whnf
    refine ⟨⟨rfl, fun _ _ => rfl, trivial⟩, ?_⟩
    conv => whnf
    refine bcase_intro (fun u0 => ?_) (fun u0 => ?_)
    · conv => whnf
      exact fun ρ => sbool_e (tch1 u0) ρ
    conv => whnf
    refine ⟨⟨rfl, fun _ _ => rfl, trivial⟩, ?_⟩
    conv => whnf
    refine bcase_intro (fun u1 => ?_) (fun u1 => ?_)
    · conv => whnf
      exact fun ρ => sbool_e (tch2 u0 u1) ρ
    conv => whnf
    refine ⟨⟨rfl, fun _ _ => rfl, trivial⟩, ?_⟩
    conv => whnf
    refine bcase_intro (fun u2 => ?_) (fun u2 => ?_)
    · conv => whnf
      exact fun ρ => sbool_e (u2.symm.trans (tch3 u0 u1)) ρ
    conv => whnf
    refine ⟨⟨rfl, fun _ _ => rfl, trivial⟩, ?_⟩
    conv => whnf
    exact fun ρ => sbool_e (u2.symm.trans (tch3 u0 u1)) ρ
  · cases hd
def baseE9 : List (FuncId × Dn) := (29, dTouches) :: baseE8
theorem baseE9_ok : AllOk baseE9 := .cons spTouches <| baseE8_ok
def flatT (t : TR) : Bool := (normZ t.a.v t.b.v t.c.v).isZ
def touchesT (s t : TR) : Bool := touchesV s.a.v s.b.v s.c.v t.a.v t.b.v t.c.v
def touchT (p q : PT) (t : TR) : Bool := touchV p.v q.v t.a.v t.b.v t.c.v
def sgE (v w : V3) : Bool := decide (v.x.sign = w.x.sign) && (decide (v.y.sign = w.y.sign) && decide (v.z.sign = w.z.sign))
def edgeM (a b u v : PT) : Bool := decide ((detZ a.v b.v u.v v.v).sign = 0) && sgE (crZ a.v b.v a.v u.v) (crZ a.v b.v a.v v.v)
/-- triangles that have more in common than corners and edges -/
def meetL (s t : TR) : List PT → List PT → List PT → Bool
  | [_], [u, u2], [v, v2] => touchT u u2 t || touchT v v2 s
  | [a, b], [u], [v] => edgeM a b u v
  | _, _, _ => true
def apartB (s t : TR) : Bool := decide (((cmn true s t).length : Int) = 0) || (flatT s || flatT t)
def meetV (s t : TR) : Bool := cond (apartB s t) (touchesT s t || touchesT t s) (meetL s t (cmn true s t) (cmn false s t) (cmn false t s))
end Go.Proofs.YtmooplnklcgfjaaGreatDoor
