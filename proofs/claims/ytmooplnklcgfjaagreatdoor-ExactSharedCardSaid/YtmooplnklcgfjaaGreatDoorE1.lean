/- Order of points; on which side of a triangle a point lies; by the reckoner. -/
import Derived.Test.YtmooplnklcgfjaaGreatDoorRyG
namespace Go.Proofs.YtmooplnklcgfjaaGreatDoor
open Go.RowKit
set_option maxRecDepth 100000

/-- six times the volume -/
def detZ (p q s t : V3) : Int := (normZ p q s).dot (t.sub p)
/-- the order of points -/
def lessZ (p q : V3) : Bool := cond (!decide (p.x = q.x)) (decide (p.x < q.x)) (cond (!decide (p.y = q.y)) (decide (p.y < q.y)) (cond (!decide (p.z = q.z)) (decide (p.z < q.z)) false))
theorem less1 {p q : V3} (h : (!decide (p.x = q.x)) = true) : decide (p.x < q.x) = lessZ p q := by unfold lessZ; rw [h]; rfl
theorem less2 {p q : V3} (h : (!decide (p.x = q.x)) = false) (h1 : (!decide (p.y = q.y)) = true) : decide (p.y < q.y) = lessZ p q := by unfold lessZ; rw [h, h1]; rfl
theorem less3 {p q : V3} (h : (!decide (p.x = q.x)) = false) (h1 : (!decide (p.y = q.y)) = false) (h2 : (!decide (p.z = q.z)) = true) : decide (p.z < q.z) = lessZ p q := by unfold lessZ; rw [h, h1, h2]; rfl
theorem less4 {p q : V3} (h : (!decide (p.x = q.x)) = false) (h1 : (!decide (p.y = q.y)) = false) (h2 : (!decide (p.z = q.z)) = false) : false = lessZ p q := by unfold lessZ; rw [h, h1, h2]; rfl
theorem less5 {p q : V3} (h : (!decide (p.x = q.x)) = false) (h1 : (!decide (p.y = q.y)) = false) : decide (p.z < q.z) = lessZ p q := by
  unfold lessZ; rw [h, h1]
  show _ = cond (!decide (p.z = q.z)) (decide (p.z < q.z)) false
  by_cases e : p.z = q.z
  · simp [e]
  · simp [e]
noncomputable def fxAx : FuncId → Option Func := lk [(70, Tryz.f70)]
theorem fxAx_ok : ∀ f fn, fxAx f = some fn → FnOk Tryz.prog f fn := lkF_ok fun x hx => by
  simp only [List.mem_cons, List.not_mem_nil, or_false] at hx
  subst hx
  · exact ⟨Tryz.func70, by kernel_rfl, by kernel_rfl⟩
def dLess : Dn
  | [.agg [.int x1 _, .int y1 _, .int z1 _], .agg [.int x2 _, .int y2 _, .int z2 _]] =>
    some (none, .c (.val (.bool (lessZ ⟨x1, y1, z1⟩ ⟨x2, y2, z2⟩))))
  | _ => none
theorem spLess : SpOk Tryz.prog 39 dLess := sp_of2 (un := 20) (n := 3) ⟨Tryz.func39, by kernel_rfl, by kernel_rfl⟩ baseF3_ok fxAx_ok fun args p v hd => by
  unfold dLess at hd
  split at hd
  · rename_i x1 hx1 y1 hy1 z1 hz1 x2 hx2 y2 hy2 z2 hz2
    cases hd
    refine ⟨[.agg [.int x1 hx1, .int y1 hy1, .int z1 hz1], .agg [.int x2 hx2, .int y2 hy2, .int z2 hz2]], fun _ => rfl, fun _ _ => rfl, fun _ _ => rfl, fun _ => ?_⟩
    conv => whnf
    refine bcase_intro (fun h0 => ?_) (fun h0 => ?_)
    · conv => whnf
      exact fun ρ => sbool_e (less1 (p := (⟨x1, y1, z1⟩ : V3)) (q := (⟨x2, y2, z2⟩ : V3)) h0) ρ
    conv => whnf
    refine bcase_intro (fun h1 => ?_) (fun h1 => ?_)
    · conv => whnf
      exact fun ρ => sbool_e (less2 (p := (⟨x1, y1, z1⟩ : V3)) (q := (⟨x2, y2, z2⟩ : V3)) h0 h1) ρ
    conv => whnf
    refine bcase_intro (fun h2 => ?_) (fun h2 => ?_)
    · conv => whnf
      exact fun ρ => sbool_e (less3 (p := (⟨x1, y1, z1⟩ : V3)) (q := (⟨x2, y2, z2⟩ : V3)) h0 h1 h2) ρ
    conv => whnf
    exact fun ρ => sbool_e (less4 (p := (⟨x1, y1, z1⟩ : V3)) (q := (⟨x2, y2, z2⟩ : V3)) h0 h1 h2) ρ
  · cases hd
def dLess2 : Dn
  | [.agg [.int x1 _, .int y1 _, .int z1 _], .agg [.int x2 _, .int y2 _, .int z2 _]] =>
    some (none, .c (.val (.bool (lessZ ⟨x1, y1, z1⟩ ⟨x2, y2, z2⟩))))
  | _ => none
theorem spLess2 : SpOk Tryz.prog 40 dLess2 := sp_of2 (un := 20) (n := 0) ⟨Tryz.func40, by kernel_rfl, by kernel_rfl⟩ baseF3_ok noF_ok fun args p v hd => by
  unfold dLess2 at hd
  split at hd
  · rename_i x1 hx1 y1 hy1 z1 hz1 x2 hx2 y2 hy2 z2 hz2
    cases hd
    refine ⟨[.agg [.int x1 hx1, .int y1 hy1, .int z1 hz1], .agg [.int x2 hx2, .int y2 hy2, .int z2 hz2]], fun _ => rfl, fun _ _ => rfl, fun _ _ => rfl, fun _ => ?_⟩
    conv => whnf
    refine bcase_intro (fun h0 => ?_) (fun h0 => ?_)
    · conv => whnf
      exact fun ρ => sbool_e (less1 (p := (⟨x1, y1, z1⟩ : V3)) (q := (⟨x2, y2, z2⟩ : V3)) h0) ρ
    conv => whnf
    refine bcase_intro (fun h1 => ?_) (fun h1 => ?_)
    · conv => whnf
      exact fun ρ => sbool_e (less2 (p := (⟨x1, y1, z1⟩ : V3)) (q := (⟨x2, y2, z2⟩ : V3)) h0 h1) ρ
    conv => whnf
    exact fun ρ => sbool_e (less5 (p := (⟨x1, y1, z1⟩ : V3)) (q := (⟨x2, y2, z2⟩ : V3)) h0 h1) ρ
  · cases hd
def dNScal : Dn
  | [.agg [.int u0 _, .int u1 _, .int u2 _], .agg [.int v0 _, .int v1 _, .int v2 _]] =>
    some (none, .c (.int (IntKind.i64.wrap (IntKind.i64.wrap (IntKind.i64.wrap (u0 * v0) + IntKind.i64.wrap (u1 * v1)) + IntKind.i64.wrap (u2 * v2))) (IR.wrap _)))
  | _ => none
theorem spNScal : SpOk Tryz.prog 48 dNScal := sp_of2 (un := 20) (n := 0) ⟨Tryz.func48, by kernel_rfl, by kernel_rfl⟩ baseF3_ok noF_ok fun args p v hd => by
  unfold dNScal at hd
  split at hd
  · rename_i u0 hu0 u1 hu1 u2 hu2 v0 hv0 v1 hv1 v2 hv2
    cases hd
    refine ⟨[.agg [.int u0 hu0, .int u1 hu1, .int u2 hu2], .agg [.int v0 hv0, .int v1 hv1, .int v2 hv2]], fun _ => rfl, fun _ _ => rfl, fun _ _ => rfl, fun _ => ?_⟩
    conv => whnf
    exact fun _ => rfl
  · cases hd
def dFScal : Dn
  | [.agg [.wid ju0 u0 hu0, .wid ju1 u1 hu1, .wid ju2 u2 hu2], .agg [.wid jv0 v0 hv0, .wid jv1 v1 hv1, .wid jv2 v2 hv2]] =>
    if ju0 ≤ 1000000 ∧ ju1 ≤ 1000000 ∧ ju2 ≤ 1000000 ∧ jv0 ≤ 1000000 ∧ jv1 ≤ 1000000 ∧ jv2 ≤ 1000000 then some (none, .agg [.wid (ju0 + jv0 + (ju1 + jv1) + 1 + (ju2 + jv2) + 1) (V3.dot ⟨u0, u1, u2⟩ ⟨v0, v1, v2⟩) (sm_dot hu0 hu1 hu2 hv0 hv1 hv2)]) else none
  | _ => none
theorem spFScal : SpOk Tryz.prog 50 dFScal := sp_of2 (un := 20) (n := 0) ⟨Tryz.func50, by kernel_rfl, by kernel_rfl⟩ baseF3_ok noF_ok fun args p v hd => by
  unfold dFScal at hd
  split at hd
  · rename_i ju0 u0 hu0 ju1 u1 hu1 ju2 u2 hu2 jv0 v0 hv0 jv1 v1 hv1 jv2 v2 hv2
    split at hd
    · rename_i hcon
      cases hd
      refine ⟨[.agg [.wid 1000000 u0 (hu0.mono hcon.1), .wid 1000000 u1 (hu1.mono hcon.2.1), .wid 1000000 u2 (hu2.mono hcon.2.2.1)], .agg [.wid 1000000 v0 (hv0.mono hcon.2.2.2.1), .wid 1000000 v1 (hv1.mono hcon.2.2.2.2.1), .wid 1000000 v2 (hv2.mono hcon.2.2.2.2.2)]], fun _ => rfl, fun _ _ => rfl, fun _ _ => rfl, fun _ => ?_⟩
      conv => whnf
      exact fun ρ => wid1_sv _ _ (dot_zero u0 u1 u2 v0 v1 v2) ρ
    · cases hd
  · cases hd
def dScal2 : Dn
  | [.agg [.wid ju0 u0 hu0, .wid ju1 u1 hu1, .wid ju2 u2 hu2], .agg [.wid jv0 v0 hv0, .wid jv1 v1 hv1, .wid jv2 v2 hv2]] =>
    if ju0 ≤ 1000000 ∧ ju1 ≤ 1000000 ∧ ju2 ≤ 1000000 ∧ jv0 ≤ 1000000 ∧ jv1 ≤ 1000000 ∧ jv2 ≤ 1000000 then some (none, .agg [.wid (ju0 + jv0 + (ju1 + jv1) + 1 + (ju2 + jv2) + 1) (V3.dot ⟨u0, u1, u2⟩ ⟨v0, v1, v2⟩) (sm_dot hu0 hu1 hu2 hv0 hv1 hv2)]) else none
  | _ => none
theorem spScal2 : SpOk Tryz.prog 67 dScal2 := sp_of2 (un := 20) (n := 0) ⟨Tryz.func67, by kernel_rfl, by kernel_rfl⟩ baseF3_ok noF_ok fun args p v hd => by
  unfold dScal2 at hd
  split at hd
  · rename_i ju0 u0 hu0 ju1 u1 hu1 ju2 u2 hu2 jv0 v0 hv0 jv1 v1 hv1 jv2 v2 hv2
    split at hd
    · rename_i hcon
      cases hd
      refine ⟨[.agg [.wid 1000000 u0 (hu0.mono hcon.1), .wid 1000000 u1 (hu1.mono hcon.2.1), .wid 1000000 u2 (hu2.mono hcon.2.2.1)], .agg [.wid 1000000 v0 (hv0.mono hcon.2.2.2.1), .wid 1000000 v1 (hv1.mono hcon.2.2.2.2.1), .wid 1000000 v2 (hv2.mono hcon.2.2.2.2.2)]], fun _ => rfl, fun _ _ => rfl, fun _ _ => rfl, fun _ => ?_⟩
      conv => whnf
      exact fun _ => rfl
    · cases hd
  · cases hd
def baseE0 : List (FuncId × Dn) := (39, dLess) :: (40, dLess2) :: (48, dNScal) :: (50, dFScal) :: (67, dScal2) :: baseF3
theorem baseE0_ok : AllOk baseE0 := .cons spLess <| .cons spLess2 <| .cons spNScal <| .cons spFScal <| .cons spScal2 <| baseF3_ok
theorem minor_bd {a b c d e f g k : Int} (ha : a.natAbs ≤ 262144) (hb : b.natAbs ≤ 262144) (hc : c.natAbs ≤ 262144) (hd : d.natAbs ≤ 262144) (he : e.natAbs ≤ 262144) (hf : f.natAbs ≤ 262144) (hg : g.natAbs ≤ 262144) (hk : k.natAbs ≤ 262144) : ((a - b) * (c - d) - (e - f) * (g - k)).natAbs ≤ 549755813888 := by
  have h1 : (a - b).natAbs ≤ 524288 := by omega
  have h2 : (c - d).natAbs ≤ 524288 := by omega
  have h3 : (e - f).natAbs ≤ 524288 := by omega
  have h4 : (g - k).natAbs ≤ 524288 := by omega
  have h5 := mul_bd h1 h2
  have h6 := mul_bd h3 h4
  omega
/-- a determinant of small vectors -/
theorem dot_small {n0 n1 n2 : Int} (h0 : n0.natAbs ≤ 549755813888) (h1 : n1.natAbs ≤ 549755813888) (h2 : n2.natAbs ≤ 549755813888) {a b c d e f : Int} (ha : a.natAbs ≤ 262144) (hb : b.natAbs ≤ 262144) (hc : c.natAbs ≤ 262144) (hd : d.natAbs ≤ 262144) (he : e.natAbs ≤ 262144) (hf : f.natAbs ≤ 262144) :
    IntKind.i64.wrap (IntKind.i64.wrap (IntKind.i64.wrap (n0 * IntKind.i64.wrap (a - b)) + IntKind.i64.wrap (n1 * IntKind.i64.wrap (c - d))) + IntKind.i64.wrap (n2 * IntKind.i64.wrap (e - f))) = n0 * (a - b) + n1 * (c - d) + n2 * (e - f) := by
  have g1 : (a - b).natAbs ≤ 524288 := by omega
  have g2 : (c - d).natAbs ≤ 524288 := by omega
  have g3 : (e - f).natAbs ≤ 524288 := by omega
  have k1 := mul_bd h0 g1
  have k2 := mul_bd h1 g2
  have k3 := mul_bd h2 g3
  rw [wrap_i (n := a - b) (by omega), wrap_i (n := c - d) (by omega), wrap_i (n := e - f) (by omega), wrap_i (n := n0 * (a - b)) (by omega), wrap_i (n := n1 * (c - d)) (by omega), wrap_i (n := n2 * (e - f)) (by omega), wrap_i (n := n0 * (a - b) + n1 * (c - d)) (by omega)]
  exact wrap_i (by omega)
theorem det_small {x1 y1 z1 x2 y2 z2 x3 y3 z3 x4 y4 z4 : Int} (hb : ∀ q ∈ [x1, y1, z1, x2, y2, z2, x3, y3, z3, x4, y4, z4], q.natAbs ≤ 262144) : IntKind.i64.wrap (IntKind.i64.wrap (IntKind.i64.wrap (IntKind.i64.wrap (IntKind.i64.wrap (IntKind.i64.wrap (y2 - y1) * IntKind.i64.wrap (z3 - z1)) - IntKind.i64.wrap (IntKind.i64.wrap (z2 - z1) * IntKind.i64.wrap (y3 - y1))) * IntKind.i64.wrap (x4 - x1)) + IntKind.i64.wrap (IntKind.i64.wrap (IntKind.i64.wrap (IntKind.i64.wrap (z2 - z1) * IntKind.i64.wrap (x3 - x1)) - IntKind.i64.wrap (IntKind.i64.wrap (x2 - x1) * IntKind.i64.wrap (z3 - z1))) * IntKind.i64.wrap (y4 - y1))) + IntKind.i64.wrap (IntKind.i64.wrap (IntKind.i64.wrap (IntKind.i64.wrap (x2 - x1) * IntKind.i64.wrap (y3 - y1)) - IntKind.i64.wrap (IntKind.i64.wrap (y2 - y1) * IntKind.i64.wrap (x3 - x1))) * IntKind.i64.wrap (z4 - z1))) = detZ ⟨x1, y1, z1⟩ ⟨x2, y2, z2⟩ ⟨x3, y3, z3⟩ ⟨x4, y4, z4⟩ := by
  have e0 := near_eq (hb y2 (by simp)) (hb y1 (by simp)) (hb z3 (by simp)) (hb z1 (by simp)) (hb z2 (by simp)) (hb z1 (by simp)) (hb y3 (by simp)) (hb y1 (by simp))
  have e1 := near_eq (hb z2 (by simp)) (hb z1 (by simp)) (hb x3 (by simp)) (hb x1 (by simp)) (hb x2 (by simp)) (hb x1 (by simp)) (hb z3 (by simp)) (hb z1 (by simp))
  have e2 := near_eq (hb x2 (by simp)) (hb x1 (by simp)) (hb y3 (by simp)) (hb y1 (by simp)) (hb y2 (by simp)) (hb y1 (by simp)) (hb x3 (by simp)) (hb x1 (by simp))
  rw [e0, e1, e2]
  exact dot_small (minor_bd (hb y2 (by simp)) (hb y1 (by simp)) (hb z3 (by simp)) (hb z1 (by simp)) (hb z2 (by simp)) (hb z1 (by simp)) (hb y3 (by simp)) (hb y1 (by simp))) (minor_bd (hb z2 (by simp)) (hb z1 (by simp)) (hb x3 (by simp)) (hb x1 (by simp)) (hb x2 (by simp)) (hb x1 (by simp)) (hb z3 (by simp)) (hb z1 (by simp))) (minor_bd (hb x2 (by simp)) (hb x1 (by simp)) (hb y3 (by simp)) (hb y1 (by simp)) (hb y2 (by simp)) (hb y1 (by simp)) (hb x3 (by simp)) (hb x1 (by simp))) (hb x4 (by simp)) (hb x1 (by simp)) (hb y4 (by simp)) (hb y1 (by simp)) (hb z4 (by simp)) (hb z1 (by simp))
def dOrient : Dn
  | [.agg [.int x1 _, .int y1 _, .int z1 _], .agg [.int x2 _, .int y2 _, .int z2 _], .agg [.int x3 _, .int y3 _, .int z3 _], .agg [.int x4 _, .int y4 _, .int z4 _]] =>
    some (none, .c (.int (detZ ⟨x1, y1, z1⟩ ⟨x2, y2, z2⟩ ⟨x3, y3, z3⟩ ⟨x4, y4, z4⟩).sign (ir_sign _)))
  | _ => none
set_option maxHeartbeats 4000000 in
theorem spOrient : SpOk Tryz.prog 17 dOrient := sp_of3 (un := 20) (n := 0) ⟨Tryz.func17, by kernel_rfl, by kernel_rfl⟩ baseE0_ok rdSigns_ok noF_ok fun args p v hd => by
  unfold dOrient at hd
  split at hd
  · rename_i x1 hx1 y1 hy1 z1 hz1 x2 hx2 y2 hy2 z2 hz2 x3 hx3 y3 hy3 z3 hz3 x4 hx4 y4 hy4 z4 hz4
    cases hd
    refine ⟨[.agg [.int x1 hx1, .int y1 hy1, .int z1 hz1], .agg [.int x2 hx2, .int y2 hy2, .int z2 hz2], .agg [.int x3 hx3, .int y3 hy3, .int z3 hz3], .agg [.int x4 hx4, .int y4 hy4, .int z4 hz4]], fun _ => rfl, fun _ _ => rfl, fun _ _ => rfl, fun _ => ?_⟩
    conv => whnf
    refine bcase_intro (fun hs => ?_) (fun _ => ?_)
    · have hb := smB_bd (l := [x1, y1, z1, x2, y2, z2, x3, y3, z3, x4, y4, z4]) hs (by simp only [List.mem_cons, List.not_mem_nil, or_false]; rintro q (rfl | rfl | rfl | rfl | rfl | rfl | rfl | rfl | rfl | rfl | rfl | rfl) <;> assumption)
      conv => whnf
      exact fun ρ => sint_e (congrArg Int.sign (det_small hb)) ρ
    conv => whnf
    exact fun ρ => sint_e rfl ρ
  · cases hd
def dOrient2 : Dn
  | [.agg [.int x1 _, .int y1 _, .int z1 _], .agg [.int x2 _, .int y2 _, .int z2 _], .agg [.int x3 _, .int y3 _, .int z3 _], .agg [.int x4 _, .int y4 _, .int z4 _]] =>
    some (none, .c (.int (detZ ⟨x1, y1, z1⟩ ⟨x2, y2, z2⟩ ⟨x3, y3, z3⟩ ⟨x4, y4, z4⟩).sign (ir_sign _)))
  | _ => none
set_option maxHeartbeats 4000000 in
theorem spOrient2 : SpOk Tryz.prog 26 dOrient2 := sp_of3 (un := 20) (n := 0) ⟨Tryz.func26, by kernel_rfl, by kernel_rfl⟩ baseE0_ok rdSigns2_ok noF_ok fun args p v hd => by
  unfold dOrient2 at hd
  split at hd
  · rename_i x1 hx1 y1 hy1 z1 hz1 x2 hx2 y2 hy2 z2 hz2 x3 hx3 y3 hy3 z3 hz3 x4 hx4 y4 hy4 z4 hz4
    cases hd
    refine ⟨[.agg [.int x1 hx1, .int y1 hy1, .int z1 hz1], .agg [.int x2 hx2, .int y2 hy2, .int z2 hz2], .agg [.int x3 hx3, .int y3 hy3, .int z3 hz3], .agg [.int x4 hx4, .int y4 hy4, .int z4 hz4]], fun _ => rfl, fun _ _ => rfl, fun _ _ => rfl, fun _ => ?_⟩
    conv => whnf
    refine bcase_intro (fun hs => ?_) (fun _ => ?_)
    · have hb := smR_bd (l := [x1, y1, z1, x2, y2, z2, x3, y3, z3, x4, y4, z4]) hs
      conv => whnf
      exact fun ρ => sint_e (congrArg Int.sign (det_small hb)) ρ
    conv => whnf
    exact fun ρ => sint_e rfl ρ
  · cases hd
def baseE1 : List (FuncId × Dn) := (17, dOrient) :: (26, dOrient2) :: baseE0
theorem baseE1_ok : AllOk baseE1 := .cons spOrient <| .cons spOrient2 <| baseE0_ok
theorem sgn1 {x : Int} {l : List Int} (h : (!decide (x.sign = 0)) = true) : x.sign = sgL (x :: l) := (sgL_n (of_decide_eq_false (by simpa using h))).symm
theorem sgn0 {x : Int} {l : List Int} (h : (!decide (x.sign = 0)) = false) : sgL (x :: l) = sgL l := sgL_z (of_decide_eq_true (by simpa using h))
theorem sgn1' {x : Int} {l : List Int} (h : decide (x.sign = 0) = false) : x.sign = sgL (x :: l) := (sgL_n (of_decide_eq_false h)).symm
theorem sgn0' {x : Int} {l : List Int} (h : decide (x.sign = 0) = true) : sgL (x :: l) = sgL l := sgL_z (of_decide_eq_true h)
theorem sgL_nil : (0 : Int) = sgL [] := rfl
theorem sg_last (x : Int) : x.sign = sgL [x] := by unfold sgL; split <;> simp_all [sgL]
def dSide : Dn
  | [.agg [.int x1 _, .int y1 _, .int z1 _, .int x2 _, .int y2 _, .int z2 _, .int x3 _, .int y3 _, .int z3 _], .agg [.int x4 _, .int y4 _, .int z4 _]] =>
    some (none, .c (.int (sgV (detZ ⟨x1, y1, z1⟩ ⟨x2, y2, z2⟩ ⟨x3, y3, z3⟩ ⟨x4, y4, z4⟩) (normZ ⟨x1, y1, z1⟩ ⟨x2, y2, z2⟩ ⟨x3, y3, z3⟩)) (ir_sgL _)))
  | _ => none
theorem spSide : SpOk Tryz.prog 19 dSide := sp_of2 (un := 20) (n := 0) ⟨Tryz.func19, by kernel_rfl, by kernel_rfl⟩ baseE1_ok noF_ok fun args p v hd => by
  unfold dSide at hd
  split at hd
  · rename_i x1 hx1 y1 hy1 z1 hz1 x2 hx2 y2 hy2 z2 hz2 x3 hx3 y3 hy3 z3 hz3 x4 hx4 y4 hy4 z4 hz4
    cases hd
    refine ⟨[.agg [.int x1 hx1, .int y1 hy1, .int z1 hz1, .int x2 hx2, .int y2 hy2, .int z2 hz2, .int x3 hx3, .int y3 hy3, .int z3 hz3], .agg [.int x4 hx4, .int y4 hy4, .int z4 hz4]], fun _ => rfl, fun _ _ => rfl, fun _ _ => rfl, fun _ => ?_⟩
    conv => whnf
    refine bcase_intro (fun h0 => ?_) (fun h0 => ?_)
    · conv => whnf
      exact fun ρ => sint_e (sgn1 h0) ρ
    conv => whnf
    refine bcase_intro (fun h1 => ?_) (fun h1 => ?_)
    · conv => whnf
      exact fun ρ => sint_e ((sgn1 h1).trans (sgn0 h0).symm) ρ
    conv => whnf
    refine bcase_intro (fun h2 => ?_) (fun h2 => ?_)
    · conv => whnf
      exact fun ρ => sint_e (((sgn1 h2).trans (sgn0 h1).symm).trans (sgn0 h0).symm) ρ
    conv => whnf
    refine bcase_intro (fun h3 => ?_) (fun h3 => ?_)
    · conv => whnf
      exact fun ρ => sint_e ((((sgn1 h3).trans (sgn0 h2).symm).trans (sgn0 h1).symm).trans (sgn0 h0).symm) ρ
    conv => whnf
    exact fun ρ => sint_e ((((sgL_nil.trans (sgn0 h3).symm).trans (sgn0 h2).symm).trans (sgn0 h1).symm).trans (sgn0 h0).symm) ρ
  · cases hd
def dSide2 : Dn
  | [.agg [.int x1 _, .int y1 _, .int z1 _, .int x2 _, .int y2 _, .int z2 _, .int x3 _, .int y3 _, .int z3 _], .agg [.int x4 _, .int y4 _, .int z4 _]] =>
    some (none, .c (.int (sgV (detZ ⟨x1, y1, z1⟩ ⟨x2, y2, z2⟩ ⟨x3, y3, z3⟩ ⟨x4, y4, z4⟩) (normZ ⟨x1, y1, z1⟩ ⟨x2, y2, z2⟩ ⟨x3, y3, z3⟩)) (ir_sgL _)))
  | _ => none
theorem spSide2 : SpOk Tryz.prog 33 dSide2 := sp_of2 (un := 20) (n := 3) ⟨Tryz.func33, by kernel_rfl, by kernel_rfl⟩ baseE1_ok fxNo2_ok fun args p v hd => by
  unfold dSide2 at hd
  split at hd
  · rename_i x1 hx1 y1 hy1 z1 hz1 x2 hx2 y2 hy2 z2 hz2 x3 hx3 y3 hy3 z3 hz3 x4 hx4 y4 hy4 z4 hz4
    cases hd
    refine ⟨[.agg [.int x1 hx1, .int y1 hy1, .int z1 hz1, .int x2 hx2, .int y2 hy2, .int z2 hz2, .int x3 hx3, .int y3 hy3, .int z3 hz3], .agg [.int x4 hx4, .int y4 hy4, .int z4 hz4]], fun _ => rfl, fun _ _ => rfl, fun _ _ => rfl, fun _ => ?_⟩
    conv => whnf
    refine bcase_intro (fun h0 => ?_) (fun h0 => ?_)
    rotate_left
    · conv => whnf
      exact fun ρ => sint_e (sgn1' h0) ρ
    conv => whnf
    refine bcase_intro (fun h1 => ?_) (fun h1 => ?_)
    rotate_left
    · conv => whnf
      exact fun ρ => sint_e ((sgn1' h1).trans (sgn0' h0).symm) ρ
    conv => whnf
    refine bcase_intro (fun h2 => ?_) (fun h2 => ?_)
    rotate_left
    · conv => whnf
      exact fun ρ => sint_e (((sgn1' h2).trans (sgn0' h1).symm).trans (sgn0' h0).symm) ρ
    conv => whnf
    exact fun ρ => sint_e ((((sg_last _).trans (sgn0' h2).symm).trans (sgn0' h1).symm).trans (sgn0' h0).symm) ρ
  · cases hd
def dFacing : Dn
  | [.agg [.int x1 _, .int y1 _, .int z1 _, .int x2 _, .int y2 _, .int z2 _, .int x3 _, .int y3 _, .int z3 _], .agg [.int x4 _, .int y4 _, .int z4 _, .int x5 _, .int y5 _, .int z5 _, .int x6 _, .int y6 _, .int z6 _]] =>
    some (none, .c (.int ((normZ ⟨x1, y1, z1⟩ ⟨x2, y2, z2⟩ ⟨x3, y3, z3⟩).dot (normZ ⟨x4, y4, z4⟩ ⟨x5, y5, z5⟩ ⟨x6, y6, z6⟩)).sign (ir_sign _)))
  | _ => none
theorem spFacing : SpOk Tryz.prog 35 dFacing := sp_of2 (un := 20) (n := 0) ⟨Tryz.func35, by kernel_rfl, by kernel_rfl⟩ baseE1_ok noF_ok fun args p v hd => by
  unfold dFacing at hd
  split at hd
  · rename_i x1 hx1 y1 hy1 z1 hz1 x2 hx2 y2 hy2 z2 hz2 x3 hx3 y3 hy3 z3 hz3 x4 hx4 y4 hy4 z4 hz4 x5 hx5 y5 hy5 z5 hz5 x6 hx6 y6 hy6 z6 hz6
    cases hd
    refine ⟨[.agg [.int x1 hx1, .int y1 hy1, .int z1 hz1, .int x2 hx2, .int y2 hy2, .int z2 hz2, .int x3 hx3, .int y3 hy3, .int z3 hz3], .agg [.int x4 hx4, .int y4 hy4, .int z4 hz4, .int x5 hx5, .int y5 hy5, .int z5 hz5, .int x6 hx6, .int y6 hy6, .int z6 hz6]], fun _ => rfl, fun _ _ => rfl, fun _ _ => rfl, fun _ => ?_⟩
    conv => whnf
    exact fun _ => rfl
  · cases hd
def dFacing2 : Dn
  | [.agg [.int x1 _, .int y1 _, .int z1 _, .int x2 _, .int y2 _, .int z2 _, .int x3 _, .int y3 _, .int z3 _], .agg [.int x4 _, .int y4 _, .int z4 _, .int x5 _, .int y5 _, .int z5 _, .int x6 _, .int y6 _, .int z6 _]] =>
    some (none, .c (.int ((normZ ⟨x1, y1, z1⟩ ⟨x2, y2, z2⟩ ⟨x3, y3, z3⟩).dot (normZ ⟨x4, y4, z4⟩ ⟨x5, y5, z5⟩ ⟨x6, y6, z6⟩)).sign (ir_sign _)))
  | _ => none
theorem spFacing2 : SpOk Tryz.prog 36 dFacing2 := sp_of2 (un := 20) (n := 0) ⟨Tryz.func36, by kernel_rfl, by kernel_rfl⟩ baseE1_ok noF_ok fun args p v hd => by
  unfold dFacing2 at hd
  split at hd
  · rename_i x1 hx1 y1 hy1 z1 hz1 x2 hx2 y2 hy2 z2 hz2 x3 hx3 y3 hy3 z3 hz3 x4 hx4 y4 hy4 z4 hz4 x5 hx5 y5 hy5 z5 hz5 x6 hx6 y6 hy6 z6 hz6
    cases hd
    refine ⟨[.agg [.int x1 hx1, .int y1 hy1, .int z1 hz1, .int x2 hx2, .int y2 hy2, .int z2 hz2, .int x3 hx3, .int y3 hy3, .int z3 hz3], .agg [.int x4 hx4, .int y4 hy4, .int z4 hz4, .int x5 hx5, .int y5 hy5, .int z5 hz5, .int x6 hx6, .int y6 hy6, .int z6 hz6]], fun _ => rfl, fun _ _ => rfl, fun _ _ => rfl, fun _ => ?_⟩
    conv => whnf
    exact fun _ => rfl
  · cases hd
def dDist : Dn
  | [.agg [.int x1 hx1, .int y1 hy1, .int z1 hz1], .agg [.int x2 hx2, .int y2 hy2, .int z2 hz2]] =>
    some (none, .agg [.wid 776 ((V3.sub ⟨x2, y2, z2⟩ ⟨x1, y1, z1⟩).dot (V3.sub ⟨x2, y2, z2⟩ ⟨x1, y1, z1⟩)) (sm_dot (sm_subj (smI hx2) (smI hx1)) (sm_subj (smI hy2) (smI hy1)) (sm_subj (smI hz2) (smI hz1)) (sm_subj (smI hx2) (smI hx1)) (sm_subj (smI hy2) (smI hy1)) (sm_subj (smI hz2) (smI hz1)))])
  | _ => none
theorem spDist : SpOk Tryz.prog 37 dDist := sp_of2 (un := 20) (n := 0) ⟨Tryz.func37, by kernel_rfl, by kernel_rfl⟩ baseE1_ok noF_ok fun args p v hd => by
  unfold dDist at hd
  split at hd
  · rename_i x1 hx1 y1 hy1 z1 hz1 x2 hx2 y2 hy2 z2 hz2
    cases hd
    refine ⟨[.agg [.int x1 hx1, .int y1 hy1, .int z1 hz1], .agg [.int x2 hx2, .int y2 hy2, .int z2 hz2]], fun _ => rfl, fun _ _ => rfl, fun _ _ => rfl, fun _ => ?_⟩
    conv => whnf
    exact fun _ => rfl
  · cases hd
def dDist2 : Dn
  | [.agg [.int x1 hx1, .int y1 hy1, .int z1 hz1], .agg [.int x2 hx2, .int y2 hy2, .int z2 hz2]] =>
    some (none, .agg [.wid 776 ((V3.sub ⟨x2, y2, z2⟩ ⟨x1, y1, z1⟩).dot (V3.sub ⟨x2, y2, z2⟩ ⟨x1, y1, z1⟩)) (sm_dot (sm_subj (smI hx2) (smI hx1)) (sm_subj (smI hy2) (smI hy1)) (sm_subj (smI hz2) (smI hz1)) (sm_subj (smI hx2) (smI hx1)) (sm_subj (smI hy2) (smI hy1)) (sm_subj (smI hz2) (smI hz1)))])
  | _ => none
theorem spDist2 : SpOk Tryz.prog 38 dDist2 := sp_of2 (un := 20) (n := 0) ⟨Tryz.func38, by kernel_rfl, by kernel_rfl⟩ baseE1_ok noF_ok fun args p v hd => by
  unfold dDist2 at hd
  split at hd
  · rename_i x1 hx1 y1 hy1 z1 hz1 x2 hx2 y2 hy2 z2 hz2
    cases hd
    refine ⟨[.agg [.int x1 hx1, .int y1 hy1, .int z1 hz1], .agg [.int x2 hx2, .int y2 hy2, .int z2 hz2]], fun _ => rfl, fun _ _ => rfl, fun _ _ => rfl, fun _ => ?_⟩
    conv => whnf
    exact fun _ => rfl
  · cases hd
def baseE2 : List (FuncId × Dn) := (19, dSide) :: (33, dSide2) :: (35, dFacing) :: (36, dFacing2) :: (37, dDist) :: (38, dDist2) :: baseE1
theorem baseE2_ok : AllOk baseE2 := .cons spSide <| .cons spSide2 <| .cons spFacing <| .cons spFacing2 <| .cons spDist <| .cons spDist2 <| baseE1_ok
end Go.Proofs.YtmooplnklcgfjaaGreatDoor
