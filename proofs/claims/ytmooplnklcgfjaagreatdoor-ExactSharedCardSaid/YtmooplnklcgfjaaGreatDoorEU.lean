/- Triangles with their corners in another order. -/
import Derived.Test.YtmooplnklcgfjaaGreatDoorEG
import Derived.Test.YtmooplnklcgfjaaGreatDoorE10
import Derived.Test.YtmooplnklcgfjaaGreatDoorEV
namespace Go.Proofs.YtmooplnklcgfjaaGreatDoor
open Go.RowKit
set_option maxRecDepth 100000

/-- a coordinate of the corner at a place, after a turn -/
def tn (k : Int) (i : Nat) (a b c : Int) : Int :=
  if k = 0 then (match i with | 0 => a | 1 => b | _ => c)
  else if k = 1 then (match i with | 0 => b | 1 => c | _ => a)
  else if k = 2 then (match i with | 0 => c | 1 => a | _ => b)
  else if k = 3 then (match i with | 0 => b | 1 => a | _ => c)
  else if k = 4 then (match i with | 0 => c | 1 => b | _ => a)
  else (match i with | 0 => a | 1 => c | _ => b)
theorem ir_tn {a b c : Int} (ha : IR a) (hb : IR b) (hc : IR c) (k : Int) (i : Nat) : IR (tn k i a b c) := by
  unfold tn; (repeat' split) <;> assumption
theorem int_of {a b : Int} (h : a = b) (ha : IR a) : C.int a ha = C.int b (h ▸ ha) := by subst h; rfl
theorem md6 (n : Int) : n % 6 = 0 ∨ n % 6 = 1 ∨ n % 6 = 2 ∨ n % 6 = 3 ∨ n % 6 = 4 ∨ n % 6 = 5 := by omega
theorem agg9_e {a0 a1 a2 a3 a4 a5 a6 a7 a8 b0 b1 b2 b3 b4 b5 b6 b7 b8 : Int} {ha0 : IR a0} {ha1 : IR a1} {ha2 : IR a2} {ha3 : IR a3} {ha4 : IR a4} {ha5 : IR a5} {ha6 : IR a6} {ha7 : IR a7} {ha8 : IR a8} {hb0 : IR b0} {hb1 : IR b1} {hb2 : IR b2} {hb3 : IR b3} {hb4 : IR b4} {hb5 : IR b5} {hb6 : IR b6} {hb7 : IR b7} {hb8 : IR b8} (e0 : a0 = b0) (e1 : a1 = b1) (e2 : a2 = b2) (e3 : a3 = b3) (e4 : a4 = b4) (e5 : a5 = b5) (e6 : a6 = b6) (e7 : a7 = b7) (e8 : a8 = b8) (ρ : Rho) : (SV.agg [.int a0 ha0, .int a1 ha1, .int a2 ha2, .int a3 ha3, .int a4 ha4, .int a5 ha5, .int a6 ha6, .int a7 ha7, .int a8 ha8]).den ρ = (SV.agg [.int b0 hb0, .int b1 hb1, .int b2 hb2, .int b3 hb3, .int b4 hb4, .int b5 hb5, .int b6 hb6, .int b7 hb7, .int b8 hb8]).den ρ := by subst e0 e1 e2 e3 e4 e5 e6 e7 e8; rfl
def baseU0 : List (FuncId × Dn) := (24, dTouch2) :: (9, dMeetR) :: baseP
theorem baseU0_ok : AllOk baseU0 := .cons spTouch2 <| .cons spMeetR <| baseP_ok
def dTurned : Dn
  | [.agg [.int x1 hx1, .int y1 hy1, .int z1 hz1, .int x2 hx2, .int y2 hy2, .int z2 hz2, .int x3 hx3, .int y3 hy3, .int z3 hz3], .c (.int n _)] =>
    some (none, .agg [.int (tn (n % 6) 0 x1 x2 x3) (ir_tn hx1 hx2 hx3 _ _), .int (tn (n % 6) 0 y1 y2 y3) (ir_tn hy1 hy2 hy3 _ _), .int (tn (n % 6) 0 z1 z2 z3) (ir_tn hz1 hz2 hz3 _ _), .int (tn (n % 6) 1 x1 x2 x3) (ir_tn hx1 hx2 hx3 _ _), .int (tn (n % 6) 1 y1 y2 y3) (ir_tn hy1 hy2 hy3 _ _), .int (tn (n % 6) 1 z1 z2 z3) (ir_tn hz1 hz2 hz3 _ _), .int (tn (n % 6) 2 x1 x2 x3) (ir_tn hx1 hx2 hx3 _ _), .int (tn (n % 6) 2 y1 y2 y3) (ir_tn hy1 hy2 hy3 _ _), .int (tn (n % 6) 2 z1 z2 z3) (ir_tn hz1 hz2 hz3 _ _)])
  | _ => none
set_option maxHeartbeats 8000000 in
theorem spTurned : SpOk Tryz.prog 11 dTurned := sp_of2 (un := 20) (n := 0) ⟨Tryz.func11, by kernel_rfl, by kernel_rfl⟩ baseU0_ok noF_ok fun args p v hd => by
  unfold dTurned at hd
  split at hd
  · rename_i x1 hx1 y1 hy1 z1 hz1 x2 hx2 y2 hy2 z2 hz2 x3 hx3 y3 hy3 z3 hz3 n hn
    cases hd
    refine ⟨[.agg [.int x1 hx1, .int y1 hy1, .int z1 hz1, .int x2 hx2, .int y2 hy2, .int z2 hz2, .int x3 hx3, .int y3 hy3, .int z3 hz3], .c (.int n hn)], fun _ => rfl, fun _ _ => rfl, fun _ _ => rfl, fun _ => ?_⟩
    conv => whnf
    refine ⟨by decide, ?_⟩
    rcases md6 n with h | h | h | h | h | h
    · rw [int_of h]
      conv => whnf
      exact fun ρ => agg9_e (by rw [h]; rfl) (by rw [h]; rfl) (by rw [h]; rfl) (by rw [h]; rfl) (by rw [h]; rfl) (by rw [h]; rfl) (by rw [h]; rfl) (by rw [h]; rfl) (by rw [h]; rfl) ρ
    · rw [int_of h]
      conv => whnf
      exact fun ρ => agg9_e (by rw [h]; rfl) (by rw [h]; rfl) (by rw [h]; rfl) (by rw [h]; rfl) (by rw [h]; rfl) (by rw [h]; rfl) (by rw [h]; rfl) (by rw [h]; rfl) (by rw [h]; rfl) ρ
    · rw [int_of h]
      conv => whnf
      exact fun ρ => agg9_e (by rw [h]; rfl) (by rw [h]; rfl) (by rw [h]; rfl) (by rw [h]; rfl) (by rw [h]; rfl) (by rw [h]; rfl) (by rw [h]; rfl) (by rw [h]; rfl) (by rw [h]; rfl) ρ
    · rw [int_of h]
      conv => whnf
      exact fun ρ => agg9_e (by rw [h]; rfl) (by rw [h]; rfl) (by rw [h]; rfl) (by rw [h]; rfl) (by rw [h]; rfl) (by rw [h]; rfl) (by rw [h]; rfl) (by rw [h]; rfl) (by rw [h]; rfl) ρ
    · rw [int_of h]
      conv => whnf
      exact fun ρ => agg9_e (by rw [h]; rfl) (by rw [h]; rfl) (by rw [h]; rfl) (by rw [h]; rfl) (by rw [h]; rfl) (by rw [h]; rfl) (by rw [h]; rfl) (by rw [h]; rfl) (by rw [h]; rfl) ρ
    · rw [int_of h]
      conv => whnf
      exact fun ρ => agg9_e (by rw [h]; rfl) (by rw [h]; rfl) (by rw [h]; rfl) (by rw [h]; rfl) (by rw [h]; rfl) (by rw [h]; rfl) (by rw [h]; rfl) (by rw [h]; rfl) (by rw [h]; rfl) ρ
  · cases hd
def baseU : List (FuncId × Dn) := (11, dTurned) :: baseU0
theorem baseU_ok : AllOk baseU := .cons spTurned <| baseU0_ok
def trn (n : Int) (t : TR) : TR := ⟨⟨tn (n % 6) 0 t.a.x t.b.x t.c.x, tn (n % 6) 0 t.a.y t.b.y t.c.y, tn (n % 6) 0 t.a.z t.b.z t.c.z, ir_tn t.a.hx t.b.hx t.c.hx _ _, ir_tn t.a.hy t.b.hy t.c.hy _ _, ir_tn t.a.hz t.b.hz t.c.hz _ _⟩, ⟨tn (n % 6) 1 t.a.x t.b.x t.c.x, tn (n % 6) 1 t.a.y t.b.y t.c.y, tn (n % 6) 1 t.a.z t.b.z t.c.z, ir_tn t.a.hx t.b.hx t.c.hx _ _, ir_tn t.a.hy t.b.hy t.c.hy _ _, ir_tn t.a.hz t.b.hz t.c.hz _ _⟩, ⟨tn (n % 6) 2 t.a.x t.b.x t.c.x, tn (n % 6) 2 t.a.y t.b.y t.c.y, tn (n % 6) 2 t.a.z t.b.z t.c.z, ir_tn t.a.hx t.b.hx t.c.hx _ _, ir_tn t.a.hy t.b.hy t.c.hy _ _, ir_tn t.a.hz t.b.hz t.c.hz _ _⟩⟩
theorem tr_eq {s t : TR} (eax : s.a.x = t.a.x) (eay : s.a.y = t.a.y) (eaz : s.a.z = t.a.z) (ebx : s.b.x = t.b.x) (eby : s.b.y = t.b.y) (ebz : s.b.z = t.b.z) (ecx : s.c.x = t.c.x) (ecy : s.c.y = t.c.y) (ecz : s.c.z = t.c.z) : s = t := by
  cases s with | mk p q r => cases t with | mk p' q' r' => cases p; cases q; cases r; cases p'; cases q'; cases r'; simp_all
theorem meet_trn (n : Int) (s t : TR) : meetV s (trn n t) = meetV s t := by
  rcases md6 n with h | h | h | h | h | h
  · exact (congrArg (meetV s) (show trn n t = t from tr_eq (by unfold trn; simp only [h]; rfl) (by unfold trn; simp only [h]; rfl) (by unfold trn; simp only [h]; rfl) (by unfold trn; simp only [h]; rfl) (by unfold trn; simp only [h]; rfl) (by unfold trn; simp only [h]; rfl) (by unfold trn; simp only [h]; rfl) (by unfold trn; simp only [h]; rfl) (by unfold trn; simp only [h]; rfl))).trans (rfl)
  · exact (congrArg (meetV s) (show trn n t = tRot t from tr_eq (by unfold trn; simp only [h]; rfl) (by unfold trn; simp only [h]; rfl) (by unfold trn; simp only [h]; rfl) (by unfold trn; simp only [h]; rfl) (by unfold trn; simp only [h]; rfl) (by unfold trn; simp only [h]; rfl) (by unfold trn; simp only [h]; rfl) (by unfold trn; simp only [h]; rfl) (by unfold trn; simp only [h]; rfl))).trans (meet_rot s t)
  · exact (congrArg (meetV s) (show trn n t = tRot (tRot t) from tr_eq (by unfold trn; simp only [h]; rfl) (by unfold trn; simp only [h]; rfl) (by unfold trn; simp only [h]; rfl) (by unfold trn; simp only [h]; rfl) (by unfold trn; simp only [h]; rfl) (by unfold trn; simp only [h]; rfl) (by unfold trn; simp only [h]; rfl) (by unfold trn; simp only [h]; rfl) (by unfold trn; simp only [h]; rfl))).trans ((meet_rot s _).trans (meet_rot s t))
  · exact (congrArg (meetV s) (show trn n t = tSw t from tr_eq (by unfold trn; simp only [h]; rfl) (by unfold trn; simp only [h]; rfl) (by unfold trn; simp only [h]; rfl) (by unfold trn; simp only [h]; rfl) (by unfold trn; simp only [h]; rfl) (by unfold trn; simp only [h]; rfl) (by unfold trn; simp only [h]; rfl) (by unfold trn; simp only [h]; rfl) (by unfold trn; simp only [h]; rfl))).trans (meet_sw s t)
  · exact (congrArg (meetV s) (show trn n t = tSw (tRot t) from tr_eq (by unfold trn; simp only [h]; rfl) (by unfold trn; simp only [h]; rfl) (by unfold trn; simp only [h]; rfl) (by unfold trn; simp only [h]; rfl) (by unfold trn; simp only [h]; rfl) (by unfold trn; simp only [h]; rfl) (by unfold trn; simp only [h]; rfl) (by unfold trn; simp only [h]; rfl) (by unfold trn; simp only [h]; rfl))).trans ((meet_sw s _).trans (meet_rot s t))
  · exact (congrArg (meetV s) (show trn n t = tSw (tRot (tRot t)) from tr_eq (by unfold trn; simp only [h]; rfl) (by unfold trn; simp only [h]; rfl) (by unfold trn; simp only [h]; rfl) (by unfold trn; simp only [h]; rfl) (by unfold trn; simp only [h]; rfl) (by unfold trn; simp only [h]; rfl) (by unfold trn; simp only [h]; rfl) (by unfold trn; simp only [h]; rfl) (by unfold trn; simp only [h]; rfl))).trans ((meet_sw s _).trans ((meet_rot s _).trans (meet_rot s t)))
theorem me_2 (q0 q1 : Int) (a b : TR) : (meetV (trn q0 b) (trn q1 a) == meetV a b) = true := by
  rw [meet_trn q1, meet_sym a (trn q0 b), meet_trn q0]; exact beq_self_eq_true _
theorem i4 : IR 4 := by decide
/-- a point of the small grid -/
def g4 {x y z : Int} (hx : IR x) (hy : IR y) (hz : IR z) : PT := ⟨x % 4, y % 4, z % 4, ir_emod hx i4, ir_emod hy i4, ir_emod hz i4⟩
end Go.Proofs.YtmooplnklcgfjaaGreatDoor
