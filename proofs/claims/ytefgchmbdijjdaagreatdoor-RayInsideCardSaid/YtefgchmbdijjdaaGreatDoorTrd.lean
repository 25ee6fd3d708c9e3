/- quad and cube: which triangles they make, by the reckoner. Voxels: which triangles it makes, by the reckoner. Hills: which triangles it makes, by the reckoner. shape: which triangles it makes, by the reckoner. -/
import Derived.Test.YtefgchmbdijjdaaGreatDoorTrs
namespace Go.Proofs.YtefgchmbdijjdaaGreatDoor
open Go.RowKit
set_option maxRecDepth 100000

def toPt : SV → Option PT
 | .agg [.int x hx, .int y hy, .int z hz] => some ⟨x, y, z, hx, hy, hz⟩
 | _ => none
theorem toPt_eq {v : SV} {p : PT} (h : toPt v = some p) : v = .agg (ptC p) := by
 unfold toPt at h
 split at h
 ·cases h; rfl
 ·cases h
structure SI where
 n : Int
 h : IR n
def toSI : SV → Option SI
 | .c (.int n h) => some ⟨n, h⟩
 | _ => none
theorem toSI_eq {v : SV} {s : SI} (h : toSI v = some s) : v = .c (.int s.n s.h) := by
 unfold toSI at h
 split at h
 ·cases h; rfl
 ·cases h
def quadL (a b c d : PT) : List TR := [⟨a, b, c⟩, ⟨a, c, d⟩]
def cQuadD : NewC := fun args ros K => ∃ a b c d p1 p2 p3 p4, args = [a, b, c, d] ∧ toPt a = some p1 ∧ toPt b = some p2 ∧ toPt c = some p3 ∧ toPt d = some p4 ∧ ros = [] ∧ ∀ o : OT, o.l = quadL p1 p2 p3 p4 → K (o.sl 0) [o.blk]
theorem csQuadD : CSp Tryz.prog 101 cQuadD := csp_of (env_ok base_ok 20) mixed (inl_ok (env_ok base_ok 20) mixed noF_ok 0) ⟨Tryz.func101, by kernel_rfl, by kernel_rfl⟩ fun args ros K hc => by
 obtain ⟨_, _, _, _, p1, p2, p3, p4, rfl, h1, h2, h3, h4, rfl, hc⟩ := hc
 obtain rfl := toPt_eq h1
 obtain rfl := toPt_eq h2
 obtain rfl := toPt_eq h3
 obtain rfl := toPt_eq h4
 refine ⟨fun _ _ _ => rfl, ?_⟩
 conv => whnf
 refine ⟨[4], [], fun vs => ?_⟩
 conv => whnf
 exact ⟨_, [(OT.mk (quadL p1 p2 p3 p4) false 2 (by unfold SliOk; simp [quadL])).blk], rfl, ⟨⟨rfl,rfl,rfl, fun _=>rfl⟩, trivial⟩, ⟨OT.new _, trivial⟩, OT.sl (OT.mk (quadL p1 p2 p3 p4) false 2 (by unfold SliOk; simp [quadL])) 0, fun _=>rfl,hc _ rfl⟩
def crn (p : PT) (s : Int) (n : Nat) : PT := ⟨IntKind.i64.wrap (p.x + IntKind.i64.wrap (((n % 2 : Nat) : Int) * s)), IntKind.i64.wrap (p.y + IntKind.i64.wrap (((n / 2 % 2 : Nat) : Int) * s)), IntKind.i64.wrap (p.z + IntKind.i64.wrap (((n / 4 : Nat) : Int) * s)), IR.wrap _, IR.wrap _, IR.wrap _⟩
def cubeL (p : PT) (s : Int) : List TR := quadL (crn p s 0) (crn p s 2) (crn p s 3) (crn p s 1) ++ quadL (crn p s 4) (crn p s 5) (crn p s 7) (crn p s 6) ++ quadL (crn p s 0) (crn p s 1) (crn p s 5) (crn p s 4) ++ quadL (crn p s 2) (crn p s 6) (crn p s 7) (crn p s 3) ++ quadL (crn p s 0) (crn p s 4) (crn p s 6) (crn p s 2) ++ quadL (crn p s 1) (crn p s 3) (crn p s 7) (crn p s 5)
def cCubeD : NewC := fun args ros K => ∃ a b p s, args = [a, b] ∧ toPt a = some p ∧ toSI b = some s ∧ ros = [] ∧ ∀ o : OT, o.l = cubeL p s.n → K (o.sl 0) [o.blk]
def shapeD : List (FuncId × NewC) := [(101, cQuadD)]
theorem shapeD_ok : AllC Tryz.prog shapeD := .cons csQuadD .nil
set_option maxHeartbeats 8000000 in
theorem csCubeD : CSp Tryz.prog 73 cCubeD := csp_of (env_ok base_ok 20) mixed (hnew_ok shapeD_ok (inl_ok (env_ok base_ok 20) mixed noF_ok 0)) ⟨Tryz.func73, by kernel_rfl, by kernel_rfl⟩ fun args ros K hc => by
 obtain ⟨_, _, p, ⟨s, hs⟩, rfl, h1, h2, rfl, hc⟩ := hc
 obtain rfl := toPt_eq h1
 obtain rfl := toSI_eq h2
 refine ⟨fun _ _ _ => rfl, ?_⟩
 conv => whnf
 refine ⟨fun _ _=>rfl,?_⟩
 conv => whnf
 refine ⟨fun _ _=>rfl,?_⟩
 conv => whnf
 refine ⟨fun _ _=>rfl,?_⟩
 conv => whnf
 refine ⟨fun _ _=>rfl,?_⟩
 conv => whnf
 refine ⟨trivial, ⟨_, _, _, _, _, _, _, _, rfl,rfl,rfl,rfl,rfl,rfl,?_⟩⟩
 intro o1 e1
 have l1 : o1.l.length = 2 := by rw [e1]; rfl
 conv => whnf
 refine ⟨fun _ _=>rfl,?_⟩
 conv => whnf
 refine ⟨fun _ _=>rfl,?_⟩
 conv => whnf
 refine ⟨fun _ _=>rfl,?_⟩
 conv => whnf
 refine ⟨fun _ _=>rfl,?_⟩
 conv => whnf
 refine ⟨trivial, ⟨_, _, _, _, _, _, _, _, rfl,rfl,rfl,rfl,rfl,rfl,?_⟩⟩
 intro o2 e2
 have l2 : o2.l.length = 2 := by rw [e2]; rfl
 conv => whnf
 rw [o2.src]
 conv => whnf
 refine ⟨allOne_trs _, ?_⟩
 conv => whnf
 refine ⟨o1.app (by omega), fun c2 k2 => ?_⟩
 conv => whnf
 refine ⟨fun _ _=>rfl,?_⟩
 conv => whnf
 refine ⟨fun _ _=>rfl,?_⟩
 conv => whnf
 refine ⟨fun _ _=>rfl,?_⟩
 conv => whnf
 refine ⟨fun _ _=>rfl,?_⟩
 conv => whnf
 refine ⟨trivial, ⟨_, _, _, _, _, _, _, _, rfl,rfl,rfl,rfl,rfl,rfl,?_⟩⟩
 intro o3 e3
 have l3 : o3.l.length = 2 := by rw [e3]; rfl
 conv => whnf
 rw [o3.src]
 conv => whnf
 refine ⟨allOne_trs _, ?_⟩
 conv => whnf
 refine ⟨⟨rfl,rfl,by simp only [sizeC_append, trsC_size]; omega, fun _ => by have := k2.1; simp only [sizeC_append, trsC_size]; omega, by omega⟩, fun c3 k3 => ?_⟩
 conv => whnf
 refine ⟨fun _ _=>rfl,?_⟩
 conv => whnf
 refine ⟨fun _ _=>rfl,?_⟩
 conv => whnf
 refine ⟨fun _ _=>rfl,?_⟩
 conv => whnf
 refine ⟨fun _ _=>rfl,?_⟩
 conv => whnf
 refine ⟨trivial, ⟨_, _, _, _, _, _, _, _, rfl,rfl,rfl,rfl,rfl,rfl,?_⟩⟩
 intro o4 e4
 have l4 : o4.l.length = 2 := by rw [e4]; rfl
 conv => whnf
 rw [o4.src]
 conv => whnf
 refine ⟨allOne_trs _, ?_⟩
 conv => whnf
 refine ⟨⟨rfl,rfl,by simp only [sizeC_append, trsC_size]; omega, fun _ => by have := k3.1; simp only [sizeC_append, trsC_size]; omega, by omega⟩, fun c4 k4 => ?_⟩
 conv => whnf
 refine ⟨fun _ _=>rfl,?_⟩
 conv => whnf
 refine ⟨fun _ _=>rfl,?_⟩
 conv => whnf
 refine ⟨fun _ _=>rfl,?_⟩
 conv => whnf
 refine ⟨fun _ _=>rfl,?_⟩
 conv => whnf
 refine ⟨trivial, ⟨_, _, _, _, _, _, _, _, rfl,rfl,rfl,rfl,rfl,rfl,?_⟩⟩
 intro o5 e5
 have l5 : o5.l.length = 2 := by rw [e5]; rfl
 conv => whnf
 rw [o5.src]
 conv => whnf
 refine ⟨allOne_trs _, ?_⟩
 conv => whnf
 refine ⟨⟨rfl,rfl,by simp only [sizeC_append, trsC_size]; omega, fun _ => by have := k4.1; simp only [sizeC_append, trsC_size]; omega, by omega⟩, fun c5 k5 => ?_⟩
 conv => whnf
 refine ⟨fun _ _=>rfl,?_⟩
 conv => whnf
 refine ⟨fun _ _=>rfl,?_⟩
 conv => whnf
 refine ⟨fun _ _=>rfl,?_⟩
 conv => whnf
 refine ⟨fun _ _=>rfl,?_⟩
 conv => whnf
 refine ⟨trivial, ⟨_, _, _, _, _, _, _, _, rfl,rfl,rfl,rfl,rfl,rfl,?_⟩⟩
 intro o6 e6
 have l6 : o6.l.length = 2 := by rw [e6]; rfl
 conv => whnf
 rw [o6.src]
 conv => whnf
 refine ⟨allOne_trs _, ?_⟩
 conv => whnf
 refine ⟨⟨rfl,rfl,by simp only [sizeC_append, trsC_size]; omega, fun _ => by have := k5.1; simp only [sizeC_append, trsC_size]; omega, by omega⟩, fun c6 k6 => ?_⟩
 conv => whnf
 refine ⟨[12], [0], fun vs => ?_⟩
 conv => whnf
 refine ⟨pureL_append (pureL_append (pureL_append (pureL_append (pureL_append (trsC_pure _) (trsC_pure _)) (trsC_pure _)) (trsC_pure _)) (trsC_pure _)) (trsC_pure _), ?_⟩
 conv => whnf
 have h6 : SliOk (o1.nl && decide (o2.l.length = 0) && decide (o3.l.length = 0) && decide (o4.l.length = 0) && decide (o5.l.length = 0) && decide (o6.l.length = 0)) (o1.l ++ o2.l ++ o3.l ++ o4.l ++ o5.l ++ o6.l).length c6 := by
  simp only [List.length_append]; exact k6
 refine ⟨_, [(OT.mk _ _ c6 h6).blk], rfl, ⟨⟨rfl,rfl,?_, fun ρ => ?_⟩, trivial⟩, ⟨OT.new _, trivial⟩, (OT.mk _ _ c6 h6).sl 0, fun ρ => ?_, hc _ ?_⟩
 ·simp only [OT.blk, List.length_append]
 ·simp only [OT.blk, trsC_append]
 ·simp only [OT.sl, SV.den, C.den, C.cells, List.length_append]
 ·show o1.l ++ o2.l ++ o3.l ++ o4.l ++ o5.l ++ o6.l = _
  rw [e1, e2, e3, e4, e5, e6]
  rfl
end Go.Proofs.YtefgchmbdijjdaaGreatDoor

namespace Go.Proofs.YtefgchmbdijjdaaGreatDoor
open Go.RowKit
set_option maxRecDepth 100000

theorem eff_shr {T : TypeId → Option TI} {op : Op} {ev : Operand → SV} {hp : Nat → Option Blk} {t yt : TypeId} {x y : Operand} (ho : op = .binOp .shr t x y yt) {a : Int} {ha : IR a} (hx : ev x = .c (.int a ha)) {k : IntKind} {b : Int} (hy : ev y = .c (.val (.int k b))) (hb : 0 ≤ b) :
  eff T op ev hp = some (.val (.c (.int (a.fdiv (2 ^ (min b.toNat 64))) (ha.fdiv _)))) := by
 subst ho
 simp only [eff, hx, hy, binS]
 rw [if_neg (by omega)]
theorem u64_wrap_nonneg (z : Int) : 0 ≤ IntKind.u64.wrap z := by
 simp [IntKind.wrap, IntKind.bits, IntKind.signed]; omega
def bit0 (b i : Int) : Bool := decide (IntKind.i64.wrap (((BitVec.ofInt 64 (b.fdiv (2 ^ (min (IntKind.u64.wrap i).toNat 64))) &&& BitVec.ofInt 64 1).toNat : Nat) : Int) = 0)
def dirF : Nat → Int × Int × Int
 | 0 => (0, 0, -1)
 | 1 => (0, 0, 1)
 | 2 => (0, -1, 0)
 | 3 => (0, 1, 0)
 | 4 => (-1, 0, 0)
 | _ => (1, 0, 0)
def insB (u v w : Int) : Bool := decide (0 ≤ u) && (decide (u < 3) && (decide (0 ≤ v) && (decide (v < 3) && (decide (0 ≤ w) && decide (w < 3)))))
def ixF (u v w : Int) : Int := IntKind.i64.wrap (IntKind.i64.wrap (IntKind.i64.wrap (IntKind.i64.wrap (w * 3) + v) * 3) + u)
def nbU (x : Int) (f : Nat) : Int := IntKind.i64.wrap (x + (dirF f).1)
def nbV (y : Int) (f : Nat) : Int := IntKind.i64.wrap (y + (dirF f).2.1)
def nbW (z : Int) (f : Nat) : Int := IntKind.i64.wrap (z + (dirF f).2.2)
def faceB (b x y z : Int) (f : Nat) : Bool := !insB (nbU x f) (nbV y f) (nbW z f) || bit0 b (ixF (nbU x f) (nbV y f) (nbW z f))
def triD (l : List TR) (i : Nat) : TR := (l[i]?).getD ⟨⟨0, 0, 0, by decide, by decide, by decide⟩, ⟨0, 0, 0, by decide, by decide, by decide⟩, ⟨0, 0, 0, by decide, by decide, by decide⟩⟩
def facesL (b : Int) (C : List TR) (x y z : Int) : Nat → List TR
 | 0 => []
 | f + 1 => facesL b C x y z f ++ (if faceB b x y z f = true then [triD C (2 * f), triD C (2 * f + 1)] else [])
def vxX (k : Nat) : Int := (k : Int).tmod 3
def vxY (k : Nat) : Int := (IntKind.i64.wrap ((k : Int).tdiv 3)).tmod 3
def vxZ (k : Nat) : Int := IntKind.i64.wrap ((k : Int).tdiv 9)
def voxP (p : PT) (s : Int) (k : Nat) : PT := ⟨IntKind.i64.wrap (p.x + IntKind.i64.wrap (vxX k * s)), IntKind.i64.wrap (p.y + IntKind.i64.wrap (vxY k * s)), IntKind.i64.wrap (p.z + IntKind.i64.wrap (vxZ k * s)), IR.wrap _, IR.wrap _, IR.wrap _⟩
def voxL (b s : Int) (p : PT) : Nat → List TR
 | 0 => []
 | k + 1 => voxL b s p k ++ (if bit0 b k = true then [] else facesL b (cubeL (voxP p s k) s) (vxX k) (vxY k) (vxZ k) 6)
theorem facesL_len (b : Int) (C : List TR) (x y z : Int) : ∀ f, (facesL b C x y z f).length ≤ 2 * f
 | 0 => Nat.le_refl _
 | f + 1 => by
  have := facesL_len b C x y z f
  unfold facesL; rw [List.length_append]; split <;> simp <;> omega
theorem voxL_len (b s : Int) (p : PT) : ∀ k, (voxL b s p k).length ≤ 12 * k
 | 0 => Nat.le_refl _
 | k + 1 => by
  have := voxL_len b s p k
  have h := facesL_len b (cubeL (voxP p s k) s) (vxX k) (vxY k) (vxZ k) 6
  unfold voxL; rw [List.length_append]; split
  ·simp; omega
  ·omega
theorem voxL_skip {b s : Int} {p : PT} {k : Nat} (h : bit0 b k = true) : voxL b s p k = voxL b s p (k + 1) := by
 conv => rhs; unfold voxL
 rw [if_pos h, List.append_nil]
theorem voxL_take {b s : Int} {p : PT} {k : Nat} (h : bit0 b k = false) : voxL b s p k ++ facesL b (cubeL (voxP p s k) s) (vxX k) (vxY k) (vxZ k) 6 = voxL b s p (k + 1) := by
 conv => rhs; unfold voxL
 rw [if_neg (by rw [h]; decide)]
theorem faces_yes {b x y z : Int} {C : List TR} {f : Nat} {V : List TR} (h : faceB b x y z f = true) : V ++ facesL b C x y z f ++ [triD C (2 * f), triD C (2 * f + 1)] = V ++ facesL b C x y z (f + 1) := by
 conv => rhs; unfold facesL
 rw [if_pos h, List.append_assoc]
theorem faces_no {b x y z : Int} {C : List TR} {f : Nat} {V : List TR} (h : faceB b x y z f = false) : V ++ facesL b C x y z f = V ++ facesL b C x y z (f + 1) := by
 conv => rhs; unfold facesL
 rw [if_neg (by rw [h]; decide), List.append_nil]
theorem face_out {b x y z : Int} {f : Nat} (h : insB (nbU x f) (nbV y f) (nbW z f) = false) : faceB b x y z f = true := by unfold faceB; rw [h]; rfl
theorem face_in {b x y z : Int} {f : Nat} (h : insB (nbU x f) (nbV y f) (nbW z f) = true) {c : Bool} (hb : bit0 b (ixF (nbU x f) (nbV y f) (nbW z f)) = c) : faceB b x y z f = c := by unfold faceB; rw [h, hb]; rfl
section
variable {u v w : Int}
theorem ins1 (h : decide (0 ≤ u) = false) : insB u v w = false := by unfold insB; rw [h]; rfl
theorem ins2 (h : decide (u < 3) = false) : insB u v w = false := by unfold insB; rw [h]; simp
theorem ins3 (h : decide (0 ≤ v) = false) : insB u v w = false := by unfold insB; rw [h]; simp
theorem ins4 (h : decide (v < 3) = false) : insB u v w = false := by unfold insB; rw [h]; simp
theorem ins5 (h : decide (0 ≤ w) = false) : insB u v w = false := by unfold insB; rw [h]; simp
theorem ins6 (h : decide (w < 3) = false) : insB u v w = false := by unfold insB; rw [h]; simp
theorem ins7 (h1 : decide (0 ≤ u) = true) (h2 : decide (u < 3) = true) (h3 : decide (0 ≤ v) = true) (h4 : decide (v < 3) = true) (h5 : decide (0 ≤ w) = true) (h6 : decide (w < 3) = true) : insB u v w = true := by unfold insB; rw [h1, h2, h3, h4, h5, h6]; rfl
end
theorem ir_le {k : Nat} (h : k ≤ 27) : IR k := by unfold IR; omega
theorem k_lt {k : Nat} (h : decide ((k : Int) < 27) = true) : k < 27 := by have := of_decide_eq_true h; omega
theorem k_ge {k : Nat} (h : decide ((k : Int) < 27) = false) : 27 ≤ k := by have := of_decide_eq_false h; omega
theorem ir_6 {k : Nat} (h : k ≤ 6) : IR k := by unfold IR; omega
theorem app2_le {n : Nat} (h : n ≤ 400) : (n + 2) * 9 ≤ 5000000000000 := by omega
theorem nb_f {b : Bool} (h : (!(bif true then b else false)) = true) : b = false := by simpa using h
theorem nb_t {b : Bool} (h : (!(bif true then b else false)) = false) : b = true := by simpa using h
def cubeD2 : List (FuncId × NewC) := (73, cCubeD) :: shapeD
theorem cubeD2_ok : AllC Tryz.prog cubeD2 := .cons csCubeD shapeD_ok
def cVoxD : NewC := fun args ros K => ∃ a b c bi s p, args = [a, b, c] ∧ toSI a = some bi ∧ toSI b = some s ∧ toPt c = some p ∧ ros = [] ∧ ∀ o : OT, o.l = voxL bi.n s.n p 27 → K (o.sl 0) [o.blk]
set_option maxHeartbeats 40000000 in
theorem csVoxD : CSp Tryz.prog 25 cVoxD := csp_of (env_ok base_ok 0) mixed (hnew_ok cubeD2_ok (inl_ok (env_ok base_ok 20) mixed noF_ok 0)) ⟨Tryz.func25, by kernel_rfl, by kernel_rfl⟩ fun args ros K hc => by
 obtain ⟨_, _, _, ⟨bits, hb⟩, ⟨step, hs⟩, p, rfl, h1, h2, h3, rfl, hc⟩ := hc
 obtain rfl := toSI_eq h1
 obtain rfl := toSI_eq h2
 obtain rfl := toPt_eq h3
 refine ⟨fun _ _ _ => rfl, ?_⟩
 conv => whnf
 refine loop_st (G := {g : Nat × OT × (Nat → Value) // g.1 ≤ 27 ∧ g.2.1.l = voxL bits step p g.1}) (fun g => (.c (.int bits hb) :: .c (.int step hs) :: .c (.val (g.1.2.2 2)) :: .c (.val (g.1.2.2 3)) :: .c (.val (g.1.2.2 4)) :: .c (.ptr 0 0) :: .c (.val (g.1.2.2 6)) :: g.1.2.1.sl 1 :: .c (.int (g.1.1 : Nat) (ir_le g.2.1)) :: .c (.val (g.1.2.2 9)) :: .c (.val (g.1.2.2 10)) :: .c (.val (g.1.2.2 11)) :: .c (.val (g.1.2.2 12)) :: .c (.val (g.1.2.2 13)) :: .c (.val (g.1.2.2 14)) :: .c (.val (g.1.2.2 15)) :: .c (.val (g.1.2.2 16)) :: .c (.val (g.1.2.2 17)) :: .c (.val (g.1.2.2 18)) :: .c (.val (g.1.2.2 19)) :: .c (.val (g.1.2.2 20)) :: .c (.val (g.1.2.2 21)) :: .c (.val (g.1.2.2 22)) :: .c (.val (g.1.2.2 23)) :: .c (.val (g.1.2.2 24)) :: .c (.val (g.1.2.2 25)) :: .c (.val (g.1.2.2 26)) :: .c (.val (g.1.2.2 27)) :: .c (.val (g.1.2.2 28)) :: .c (.val (g.1.2.2 29)) :: .c (.val (g.1.2.2 30)) :: .c (.val (g.1.2.2 31)) :: .c (.val (g.1.2.2 32)) :: .c (.val (g.1.2.2 33)) :: .c (.val (g.1.2.2 34)) :: .c (.val (g.1.2.2 35)) :: .c (.val (g.1.2.2 36)) :: .c (.val (g.1.2.2 37)) :: .c (.val (g.1.2.2 38)) :: .c (.val (g.1.2.2 39)) :: .c (.val (g.1.2.2 40)) :: .c (.val (g.1.2.2 41)) :: .c (.val (g.1.2.2 42)) :: .c (.val (g.1.2.2 43)) :: .c (.val (g.1.2.2 44)) :: .c (.val (g.1.2.2 45)) :: .c (.val (g.1.2.2 46)) :: .c (.val (g.1.2.2 47)) :: .c (.val (g.1.2.2 48)) :: .c (.val (g.1.2.2 49)) :: .c (.val (g.1.2.2 50)) :: .c (.val (g.1.2.2 51)) :: .c (.val (g.1.2.2 52)) :: .c (.val (g.1.2.2 53)) :: .c (.val (g.1.2.2 54)) :: .c (.val (g.1.2.2 55)) :: .c (.val (g.1.2.2 56)) :: .c (.val (g.1.2.2 57)) :: .c (.val (g.1.2.2 58)) :: .c (.val (g.1.2.2 59)) :: .c (.val (g.1.2.2 60)) :: .c (.val (g.1.2.2 61)) :: .c (.val (g.1.2.2 62)) :: .c (.val (g.1.2.2 63)) :: .c (.val (g.1.2.2 64)) :: .c (.val (g.1.2.2 65)) :: .c (.val (g.1.2.2 66)) :: .c (.val (g.1.2.2 67)) :: .c (.val (g.1.2.2 68)) :: .c (.val (g.1.2.2 69)) :: .c (.val (g.1.2.2 70)) :: .c (.val (g.1.2.2 71)) :: .c (.val (g.1.2.2 72)) :: .c (.val (g.1.2.2 73)) :: .c (.val (g.1.2.2 74)) :: .c (.val (g.1.2.2 75)) :: .c (.val (g.1.2.2 76)) :: .c (.val (g.1.2.2 77)) :: .c (.val (g.1.2.2 78)) :: .c (.val (g.1.2.2 79)) :: .c (.val (g.1.2.2 80)) :: .c (.val (g.1.2.2 81)) :: .c (.val (g.1.2.2 82)) :: .c (.val (g.1.2.2 83)) :: .c (.val (g.1.2.2 84)) :: .c (.val (g.1.2.2 85)) :: .c (.val (g.1.2.2 86)) :: .c (.val (g.1.2.2 87)) :: .c (.val (g.1.2.2 88)) :: .c (.val (g.1.2.2 89)) :: .c (.val (g.1.2.2 90)) :: .c (.val (g.1.2.2 91)) :: .c (.val (g.1.2.2 92)) :: .c (.val (g.1.2.2 93)) :: .c (.val (g.1.2.2 94)) :: .c (.val (g.1.2.2 95)) :: .c (.val (g.1.2.2 96)) :: .c (.val (g.1.2.2 97)) :: .c (.val (g.1.2.2 98)) :: .c (.val (g.1.2.2 99)) :: .c (.val (g.1.2.2 100)) :: .c (.val (g.1.2.2 101)) :: .c (.val (g.1.2.2 102)) :: .c (.val (g.1.2.2 103)) :: .c (.val (g.1.2.2 104)) :: .c (.val (g.1.2.2 105)) :: .c (.val (g.1.2.2 106)) :: .c (.val (g.1.2.2 107)) :: .c (.val (g.1.2.2 108)) :: .c (.val (g.1.2.2 109)) :: .c (.val (g.1.2.2 110)) :: .c (.val (g.1.2.2 111)) :: .c (.val (g.1.2.2 112)) :: .c (.val (g.1.2.2 113)) :: .c (.val (g.1.2.2 114)) :: .c (.val (g.1.2.2 115)) :: .c (.val (g.1.2.2 116)) :: .c (.val (g.1.2.2 117)) :: .c (.val (g.1.2.2 118)) :: .c (.val (g.1.2.2 119)) :: .c (.val (g.1.2.2 120)) :: .c (.val (g.1.2.2 121)) :: .c (.val (g.1.2.2 122)) :: .c (.val (g.1.2.2 123)) :: .c (.val (g.1.2.2 124)) :: .c (.val (g.1.2.2 125)) :: .c (.val (g.1.2.2 126)) :: .c (.val (g.1.2.2 127)) :: .c (.val (g.1.2.2 128)) :: .c (.val (g.1.2.2 129)) :: .c (.val (g.1.2.2 130)) :: .c (.val (g.1.2.2 131)) :: .c (.val (g.1.2.2 132)) :: .c (.val (g.1.2.2 133)) :: .c (.val (g.1.2.2 134)) :: .c (.val (g.1.2.2 135)) :: .c (.val (g.1.2.2 136)) :: .c (.val (g.1.2.2 137)) :: .c (.val (g.1.2.2 138)) :: .c (.val (g.1.2.2 139)) :: .c (.val (g.1.2.2 140)) :: [])) (fun g => [⟨26, false, ptC p, 0⟩, g.1.2.1.blk]) (fun g => 27 - g.1.1) ?_ ?_
 ·refine ⟨[0, 1000 + 29], [0,1,5,7,8], [], fun vs => ?_⟩
  conv => whnf
  refine ⟨_, _, ?_, ?_, ⟨(0, OT.none, vs), Nat.zero_le _, rfl⟩, rfl, rfl⟩
  ·exact ⟨fun _=>rfl,fun _=>rfl,fun _=>rfl,fun _=>rfl,fun _=>rfl,fun _=>rfl,fun _=>rfl,fun _=>rfl,fun _=>rfl,fun _=>rfl,stm _⟩
  ·exact ⟨⟨rfl,rfl,rfl, fun _=>rfl⟩, ⟨rfl,rfl,rfl, fun _=>rfl⟩, trivial⟩
 ·rintro ⟨⟨k, o, vs⟩, hk, ho⟩
  have hk : k ≤ 27 := hk
  have ho : o.l = voxL bits step p k := ho
  have hlen : o.l.length ≤ 12 * k := by rw [ho]; exact voxL_len _ _ _ _
  conv => whnf
  refine bcase_intro (fun hlt => ?_) (fun hge => ?_)
  ·have hk27 : k < 27 := k_lt hlt
   conv => whnf
   refine bcase_intro (fun hb0 => ?_) (fun hb0 => ?_)
   ·have hb0 : bit0 bits k = true := hb0
    conv => whnf
    refine ⟨[0,1], [0,1,5,7,8], [1], fun vs3 => ?_⟩
    conv => whnf
    refine ⟨o.new.1, ?_⟩
    conv => whnf
    refine ⟨_, _, ?_, ?_, ⟨(k + 1, o, vs3), hk27, ho.trans (voxL_skip hb0)⟩, by show 27 - (k + 1) < 27 - k; omega, rfl, rfl⟩
    ·exact ⟨fun _=>rfl,fun _=>rfl,fun _=>rfl,fun _=>rfl,fun _=>rfl,fun _=>rfl,fun _=>rfl,fun _=>rfl,sint_eq (wrap_add1 hk27 (ir_le (Nat.le_refl 27))) _ _, stm _⟩
    ·exact ⟨⟨rfl,rfl,rfl, fun _=>rfl⟩, ⟨rfl,rfl,rfl, fun _=>rfl⟩, trivial⟩
   ·have hb0 : bit0 bits k = false := hb0
    conv => whnf
    refine ⟨fun _ _=>rfl,?_⟩
    conv => whnf
    refine ⟨trivial, ⟨_, _, _, _, rfl,rfl,rfl,rfl,?_⟩⟩
    rintro ⟨lc, nlc, capc, okc⟩ hc12
    have hcL : lc = cubeL (voxP p step k) step := hc12
    have hc : lc.length = 12 := by rw [hcL]; rfl
    obtain ⟨a0, a1, a2, a3, a4, a5, a6, a7, a8, a9, a10, a11, rfl⟩ := len12 hc
    conv => whnf
    refine loop_st (G := {g : Nat × OT × (Nat → Value) // g.1 ≤ 6 ∧ g.2.1.l = voxL bits step p k ++ facesL bits [a0, a1, a2, a3, a4, a5, a6, a7, a8, a9, a10, a11] (vxX k) (vxY k) (vxZ k) g.1}) (fun g => (.c (.int bits hb) :: .c (.int step hs) :: .c (.val (g.1.2.2 2)) :: .c (.val (g.1.2.2 3)) :: .c (.val (g.1.2.2 4)) :: .c (.ptr 0 0) :: .c (.val (g.1.2.2 6)) :: g.1.2.1.sl 1 :: .c (.int (k : Nat) (ir_le hk)) :: .c (.int ((k : Int).tmod 3) ((ir_le hk).tmod _)) :: .c (.int ((IntKind.i64.wrap ((k : Int).tdiv 3)).tmod 3) ((IR.wrap _).tmod _)) :: .c (.int (IntKind.i64.wrap ((k : Int).tdiv 9)) (IR.wrap _)) :: .c (.val (g.1.2.2 12)) :: .c (.sli nlc 2 0 12 capc okc) :: .c (.ptr 3 0) :: .c (.int (g.1.1 : Nat) (ir_6 g.2.1)) :: .c (.val (g.1.2.2 16)) :: .c (.val (g.1.2.2 17)) :: .c (.val (g.1.2.2 18)) :: .c (.val (g.1.2.2 19)) :: .c (.val (g.1.2.2 20)) :: .c (.val (g.1.2.2 21)) :: .c (.val (g.1.2.2 22)) :: .c (.val (g.1.2.2 23)) :: .c (.val (g.1.2.2 24)) :: .c (.val (g.1.2.2 25)) :: .c (.val (g.1.2.2 26)) :: .c (.val (g.1.2.2 27)) :: .c (.val (g.1.2.2 28)) :: .c (.val (g.1.2.2 29)) :: .c (.val (g.1.2.2 30)) :: .c (.val (g.1.2.2 31)) :: .c (.val (g.1.2.2 32)) :: .c (.val (g.1.2.2 33)) :: .c (.val (g.1.2.2 34)) :: .c (.val (g.1.2.2 35)) :: .c (.val (g.1.2.2 36)) :: .c (.val (g.1.2.2 37)) :: .c (.val (g.1.2.2 38)) :: .c (.val (g.1.2.2 39)) :: .c (.val (g.1.2.2 40)) :: .c (.val (g.1.2.2 41)) :: .c (.val (g.1.2.2 42)) :: .c (.val (g.1.2.2 43)) :: .c (.val (g.1.2.2 44)) :: .c (.val (g.1.2.2 45)) :: .c (.val (g.1.2.2 46)) :: .c (.val (g.1.2.2 47)) :: .c (.val (g.1.2.2 48)) :: .c (.val (g.1.2.2 49)) :: .c (.val (g.1.2.2 50)) :: .c (.val (g.1.2.2 51)) :: .c (.val (g.1.2.2 52)) :: .c (.val (g.1.2.2 53)) :: .c (.val (g.1.2.2 54)) :: .c (.val (g.1.2.2 55)) :: .c (.val (g.1.2.2 56)) :: .c (.val (g.1.2.2 57)) :: .c (.val (g.1.2.2 58)) :: .c (.val (g.1.2.2 59)) :: .c (.val (g.1.2.2 60)) :: .c (.val (g.1.2.2 61)) :: .c (.val (g.1.2.2 62)) :: .c (.val (g.1.2.2 63)) :: .c (.val (g.1.2.2 64)) :: .c (.val (g.1.2.2 65)) :: .c (.val (g.1.2.2 66)) :: .c (.val (g.1.2.2 67)) :: .c (.val (g.1.2.2 68)) :: .c (.val (g.1.2.2 69)) :: .c (.val (g.1.2.2 70)) :: .c (.val (g.1.2.2 71)) :: .c (.val (g.1.2.2 72)) :: .c (.val (g.1.2.2 73)) :: .c (.val (g.1.2.2 74)) :: .c (.val (g.1.2.2 75)) :: .c (.val (g.1.2.2 76)) :: .c (.val (g.1.2.2 77)) :: .c (.val (g.1.2.2 78)) :: .c (.val (g.1.2.2 79)) :: .c (.val (g.1.2.2 80)) :: .c (.val (g.1.2.2 81)) :: .c (.val (g.1.2.2 82)) :: .c (.val (g.1.2.2 83)) :: .c (.val (g.1.2.2 84)) :: .c (.val (g.1.2.2 85)) :: .c (.val (g.1.2.2 86)) :: .c (.val (g.1.2.2 87)) :: .c (.val (g.1.2.2 88)) :: .c (.val (g.1.2.2 89)) :: .c (.val (g.1.2.2 90)) :: .c (.val (g.1.2.2 91)) :: .c (.val (g.1.2.2 92)) :: .c (.val (g.1.2.2 93)) :: .c (.val (g.1.2.2 94)) :: .c (.val (g.1.2.2 95)) :: .c (.val (g.1.2.2 96)) :: .c (.val (g.1.2.2 97)) :: .c (.val (g.1.2.2 98)) :: .c (.val (g.1.2.2 99)) :: .c (.val (g.1.2.2 100)) :: .c (.val (g.1.2.2 101)) :: .c (.val (g.1.2.2 102)) :: .c (.val (g.1.2.2 103)) :: .c (.val (g.1.2.2 104)) :: .c (.val (g.1.2.2 105)) :: .c (.val (g.1.2.2 106)) :: .c (.val (g.1.2.2 107)) :: .c (.val (g.1.2.2 108)) :: .c (.val (g.1.2.2 109)) :: .c (.val (g.1.2.2 110)) :: .c (.val (g.1.2.2 111)) :: .c (.val (g.1.2.2 112)) :: .c (.val (g.1.2.2 113)) :: .c (.val (g.1.2.2 114)) :: .c (.val (g.1.2.2 115)) :: .c (.val (g.1.2.2 116)) :: .c (.val (g.1.2.2 117)) :: .c (.val (g.1.2.2 118)) :: .c (.val (g.1.2.2 119)) :: .c (.val (g.1.2.2 120)) :: .c (.val (g.1.2.2 121)) :: .c (.val (g.1.2.2 122)) :: .c (.val (g.1.2.2 123)) :: .c (.val (g.1.2.2 124)) :: .c (.val (g.1.2.2 125)) :: .c (.val (g.1.2.2 126)) :: .c (.val (g.1.2.2 127)) :: .c (.val (g.1.2.2 128)) :: .c (.val (g.1.2.2 129)) :: .c (.val (g.1.2.2 130)) :: .c (.val (g.1.2.2 131)) :: .c (.val (g.1.2.2 132)) :: .c (.val (g.1.2.2 133)) :: .c (.val (g.1.2.2 134)) :: .c (.val (g.1.2.2 135)) :: .c (.val (g.1.2.2 136)) :: .c (.val (g.1.2.2 137)) :: .c (.val (g.1.2.2 138)) :: .c (.val (g.1.2.2 139)) :: .c (.val (g.1.2.2 140)) :: [])) (fun g => [⟨26, false, ptC p, 0⟩, g.1.2.1.blk, ⟨29, nlc, trsC [a0, a1, a2, a3, a4, a5, a6, a7, a8, a9, a10, a11], (capc - 12) * 9⟩, ⟨105, false, [.int (0) (by decide), .int (0) (by decide), .int (-1) (by decide), .int (0) (by decide), .int (0) (by decide), .int (1) (by decide), .int (0) (by decide), .int (-1) (by decide), .int (0) (by decide), .int (0) (by decide), .int (1) (by decide), .int (0) (by decide), .int (-1) (by decide), .int (0) (by decide), .int (0) (by decide), .int (1) (by decide), .int (0) (by decide), .int (0) (by decide)], 0⟩]) (fun g => 6 - g.1.1) ?_ ?_
    ·refine ⟨[0,1,3,4], [0,1,5,7,8,9,10,11,13,14,15], [1], fun vs2 => ?_⟩
     conv => whnf
     refine ⟨o.new.1, ?_⟩
     conv => whnf
     refine ⟨_, _, ?_, ?_, ⟨(0, o, vs2), Nat.zero_le _, ho.trans (List.append_nil _).symm⟩, rfl, rfl⟩
     ·exact ⟨fun _=>rfl,fun _=>rfl,fun _=>rfl,fun _=>rfl,fun _=>rfl,fun _=>rfl,fun _=>rfl,fun _=>rfl,fun _=>rfl,fun _=>rfl,fun _=>rfl,fun _=>rfl,fun _=>rfl,fun _=>rfl,fun _=>rfl,fun _=>rfl,fun _=>rfl,fun _=>rfl,fun _=>rfl,fun _=>rfl,stm _⟩
     ·exact ⟨⟨rfl,rfl,rfl, fun _=>rfl⟩, ⟨rfl,rfl,rfl, fun _=>rfl⟩, ⟨rfl,rfl,rfl, fun _=>rfl⟩, ⟨rfl,rfl,rfl, fun _=>rfl⟩, trivial⟩
    ·rintro ⟨⟨f, o2, vs2⟩, hf, ho2⟩
     have hf : f ≤ 6 := hf
     have ho2 : o2.l = voxL bits step p k ++ facesL bits [a0, a1, a2, a3, a4, a5, a6, a7, a8, a9, a10, a11] (vxX k) (vxY k) (vxZ k) f := ho2
     have hlen2 : o2.l.length ≤ 400 := by
      rw [ho2, List.length_append]
      have h1 := voxL_len bits step p k
      have h2 := facesL_len bits [a0, a1, a2, a3, a4, a5, a6, a7, a8, a9, a10, a11] (vxX k) (vxY k) (vxZ k) f
      omega
     have hcase : f = 6 ∨ f = 0 ∨ f = 1 ∨ f = 2 ∨ f = 3 ∨ f = 4 ∨ f = 5 := by omega
     rcases hcase with rfl | rfl | rfl | rfl | rfl | rfl | rfl
     ·conv => whnf
      refine ⟨[0,1], [0,1,5,7,8], [1], fun vs3 => ?_⟩
      conv => whnf
      refine ⟨o2.new.1, ?_⟩
      conv => whnf
      refine ⟨_, _, ?_, ?_, ⟨(k + 1, o2, vs3), hk27, ho2.trans (by rw [hcL]; exact voxL_take hb0)⟩, by show 27 - (k + 1) < 27 - k; omega, rfl, rfl⟩
      ·exact ⟨fun _=>rfl,fun _=>rfl,fun _=>rfl,fun _=>rfl,fun _=>rfl,fun _=>rfl,fun _=>rfl,fun _=>rfl,sint_eq (wrap_add1 hk27 (ir_le (Nat.le_refl 27))) _ _, stm _⟩
      ·exact ⟨⟨rfl,rfl,rfl, fun _=>rfl⟩, ⟨rfl,rfl,rfl, fun _=>rfl⟩, trivial⟩
     ·conv => whnf
      refine bcase_intro (fun h1 => ?_) (fun h1 => ?_)
      ·have h1 : decide (0 ≤ nbU (vxX k) 0) = true := h1
       conv => whnf
       refine bcase_intro (fun h2 => ?_) (fun h2 => ?_)
       ·have h2 : decide (nbU (vxX k) 0 < 3) = true := h2
        conv => whnf
        refine bcase_intro (fun h3 => ?_) (fun h3 => ?_)
        ·have h3 : decide (0 ≤ nbV (vxY k) 0) = true := h3
         conv => whnf
         refine bcase_intro (fun h4 => ?_) (fun h4 => ?_)
         ·have h4 : decide (nbV (vxY k) 0 < 3) = true := h4
          conv => whnf
          refine bcase_intro (fun h5 => ?_) (fun h5 => ?_)
          ·have h5 : decide (0 ≤ nbW (vxZ k) 0) = true := h5
           conv => whnf
           refine bcase_intro (fun h6 => ?_) (fun h6 => ?_)
           ·have h6 : decide (nbW (vxZ k) 0 < 3) = false := nb_f h6
            conv => whnf
            refine ⟨rfl, ?_⟩
            conv => whnf
            refine ⟨o2.app (app2_le hlen2), fun c2 k2 => ?_⟩
            conv => whnf
            refine ⟨[0,5,2,3], [0,1,5,7,8,9,10,11,13,14,15], [1], fun vs3 => ?_⟩
            conv => whnf
            refine ⟨pureL_append (trsC_pure o2.l) (fun _ _=>rfl), ?_⟩
            conv => whnf
            refine ⟨_, _, ?_, ?_, ⟨(1, o2.push [a0, a1] rfl c2 k2, vs3), (by decide : 1 ≤ 6), (congrArg (· ++ [a0, a1]) ho2).trans (faces_yes (f := 0) (face_out (ins6 h6)))⟩, (by decide : 6 - 1 < 6 - 0), rfl, rfl⟩
            ·exact ⟨fun _=>rfl,fun _=>rfl,fun _=>rfl,fun _=>rfl,fun _=>rfl,fun _=>rfl,fun _=>rfl,fun ρ => OT.push_sl o2 [a0, a1] rfl c2 k2 1 ρ, stm _⟩
            ·exact ⟨⟨rfl,rfl,rfl, fun _=>rfl⟩, OT.push_blk o2 [a0, a1] rfl c2 k2 (fun _=>rfl), ⟨rfl,rfl,rfl, fun _=>rfl⟩, ⟨rfl,rfl,rfl, fun _=>rfl⟩, trivial⟩
           ·have h6 : decide (nbW (vxZ k) 0 < 3) = true := nb_t h6
            have hi := ins7 h1 h2 h3 h4 h5 h6
            conv => whnf
            conv =>
             arg 2
             tactic' =>
              apply eff_shr (ho := ?how1) (hx := ?hxw1) (hy := ?hyw1) (hb := ?hbw1)
              case how1 => rfl
              case hxw1 => rfl
              case hyw1 => rfl
              case hbw1 => exact u64_wrap_nonneg _
            conv => whnf
            refine bcase_intro (fun hb => ?_) (fun hb => ?_)
            ·have hb : bit0 bits (ixF (nbU (vxX k) 0) (nbV (vxY k) 0) (nbW (vxZ k) 0)) = true := hb
             conv => whnf
             refine ⟨rfl, ?_⟩
             conv => whnf
             refine ⟨o2.app (app2_le hlen2), fun c2 k2 => ?_⟩
             conv => whnf
             refine ⟨[0,5,2,3], [0,1,5,7,8,9,10,11,13,14,15], [1], fun vs3 => ?_⟩
             conv => whnf
             refine ⟨pureL_append (trsC_pure o2.l) (fun _ _=>rfl), ?_⟩
             conv => whnf
             refine ⟨_, _, ?_, ?_, ⟨(1, o2.push [a0, a1] rfl c2 k2, vs3), (by decide : 1 ≤ 6), (congrArg (· ++ [a0, a1]) ho2).trans (faces_yes (f := 0) (face_in hi hb))⟩, (by decide : 6 - 1 < 6 - 0), rfl, rfl⟩
             ·exact ⟨fun _=>rfl,fun _=>rfl,fun _=>rfl,fun _=>rfl,fun _=>rfl,fun _=>rfl,fun _=>rfl,fun ρ => OT.push_sl o2 [a0, a1] rfl c2 k2 1 ρ, stm _⟩
             ·exact ⟨⟨rfl,rfl,rfl, fun _=>rfl⟩, OT.push_blk o2 [a0, a1] rfl c2 k2 (fun _=>rfl), ⟨rfl,rfl,rfl, fun _=>rfl⟩, ⟨rfl,rfl,rfl, fun _=>rfl⟩, trivial⟩
            ·have hb : bit0 bits (ixF (nbU (vxX k) 0) (nbV (vxY k) 0) (nbW (vxZ k) 0)) = false := hb
             conv => whnf
             refine ⟨[0,1,2,3], [0,1,5,7,8,9,10,11,13,14,15], [1], fun vs3 => ?_⟩
             conv => whnf
             refine ⟨o2.new.1, ?_⟩
             conv => whnf
             refine ⟨_, _, ?_, ?_, ⟨(1, o2, vs3), (by decide : 1 ≤ 6), ho2.trans (faces_no (f := 0) (face_in hi hb))⟩, (by decide : 6 - 1 < 6 - 0), rfl, rfl⟩
             ·exact stm _
             ·exact ⟨⟨rfl,rfl,rfl, fun _=>rfl⟩, ⟨rfl,rfl,rfl, fun _=>rfl⟩, ⟨rfl,rfl,rfl, fun _=>rfl⟩, ⟨rfl,rfl,rfl, fun _=>rfl⟩, trivial⟩
          ·have h5 : decide (0 ≤ nbW (vxZ k) 0) = false := h5
           conv => whnf
           refine ⟨rfl, ?_⟩
           conv => whnf
           refine ⟨o2.app (app2_le hlen2), fun c2 k2 => ?_⟩
           conv => whnf
           refine ⟨[0,5,2,3], [0,1,5,7,8,9,10,11,13,14,15], [1], fun vs3 => ?_⟩
           conv => whnf
           refine ⟨pureL_append (trsC_pure o2.l) (fun _ _=>rfl), ?_⟩
           conv => whnf
           refine ⟨_, _, ?_, ?_, ⟨(1, o2.push [a0, a1] rfl c2 k2, vs3), (by decide : 1 ≤ 6), (congrArg (· ++ [a0, a1]) ho2).trans (faces_yes (f := 0) (face_out (ins5 h5)))⟩, (by decide : 6 - 1 < 6 - 0), rfl, rfl⟩
           ·exact ⟨fun _=>rfl,fun _=>rfl,fun _=>rfl,fun _=>rfl,fun _=>rfl,fun _=>rfl,fun _=>rfl,fun ρ => OT.push_sl o2 [a0, a1] rfl c2 k2 1 ρ, stm _⟩
           ·exact ⟨⟨rfl,rfl,rfl, fun _=>rfl⟩, OT.push_blk o2 [a0, a1] rfl c2 k2 (fun _=>rfl), ⟨rfl,rfl,rfl, fun _=>rfl⟩, ⟨rfl,rfl,rfl, fun _=>rfl⟩, trivial⟩
         ·have h4 : decide (nbV (vxY k) 0 < 3) = false := h4
          conv => whnf
          refine ⟨rfl, ?_⟩
          conv => whnf
          refine ⟨o2.app (app2_le hlen2), fun c2 k2 => ?_⟩
          conv => whnf
          refine ⟨[0,5,2,3], [0,1,5,7,8,9,10,11,13,14,15], [1], fun vs3 => ?_⟩
          conv => whnf
          refine ⟨pureL_append (trsC_pure o2.l) (fun _ _=>rfl), ?_⟩
          conv => whnf
          refine ⟨_, _, ?_, ?_, ⟨(1, o2.push [a0, a1] rfl c2 k2, vs3), (by decide : 1 ≤ 6), (congrArg (· ++ [a0, a1]) ho2).trans (faces_yes (f := 0) (face_out (ins4 h4)))⟩, (by decide : 6 - 1 < 6 - 0), rfl, rfl⟩
          ·exact ⟨fun _=>rfl,fun _=>rfl,fun _=>rfl,fun _=>rfl,fun _=>rfl,fun _=>rfl,fun _=>rfl,fun ρ => OT.push_sl o2 [a0, a1] rfl c2 k2 1 ρ, stm _⟩
          ·exact ⟨⟨rfl,rfl,rfl, fun _=>rfl⟩, OT.push_blk o2 [a0, a1] rfl c2 k2 (fun _=>rfl), ⟨rfl,rfl,rfl, fun _=>rfl⟩, ⟨rfl,rfl,rfl, fun _=>rfl⟩, trivial⟩
        ·have h3 : decide (0 ≤ nbV (vxY k) 0) = false := h3
         conv => whnf
         refine ⟨rfl, ?_⟩
         conv => whnf
         refine ⟨o2.app (app2_le hlen2), fun c2 k2 => ?_⟩
         conv => whnf
         refine ⟨[0,5,2,3], [0,1,5,7,8,9,10,11,13,14,15], [1], fun vs3 => ?_⟩
         conv => whnf
         refine ⟨pureL_append (trsC_pure o2.l) (fun _ _=>rfl), ?_⟩
         conv => whnf
         refine ⟨_, _, ?_, ?_, ⟨(1, o2.push [a0, a1] rfl c2 k2, vs3), (by decide : 1 ≤ 6), (congrArg (· ++ [a0, a1]) ho2).trans (faces_yes (f := 0) (face_out (ins3 h3)))⟩, (by decide : 6 - 1 < 6 - 0), rfl, rfl⟩
         ·exact ⟨fun _=>rfl,fun _=>rfl,fun _=>rfl,fun _=>rfl,fun _=>rfl,fun _=>rfl,fun _=>rfl,fun ρ => OT.push_sl o2 [a0, a1] rfl c2 k2 1 ρ, stm _⟩
         ·exact ⟨⟨rfl,rfl,rfl, fun _=>rfl⟩, OT.push_blk o2 [a0, a1] rfl c2 k2 (fun _=>rfl), ⟨rfl,rfl,rfl, fun _=>rfl⟩, ⟨rfl,rfl,rfl, fun _=>rfl⟩, trivial⟩
       ·have h2 : decide (nbU (vxX k) 0 < 3) = false := h2
        conv => whnf
        refine ⟨rfl, ?_⟩
        conv => whnf
        refine ⟨o2.app (app2_le hlen2), fun c2 k2 => ?_⟩
        conv => whnf
        refine ⟨[0,5,2,3], [0,1,5,7,8,9,10,11,13,14,15], [1], fun vs3 => ?_⟩
        conv => whnf
        refine ⟨pureL_append (trsC_pure o2.l) (fun _ _=>rfl), ?_⟩
        conv => whnf
        refine ⟨_, _, ?_, ?_, ⟨(1, o2.push [a0, a1] rfl c2 k2, vs3), (by decide : 1 ≤ 6), (congrArg (· ++ [a0, a1]) ho2).trans (faces_yes (f := 0) (face_out (ins2 h2)))⟩, (by decide : 6 - 1 < 6 - 0), rfl, rfl⟩
        ·exact ⟨fun _=>rfl,fun _=>rfl,fun _=>rfl,fun _=>rfl,fun _=>rfl,fun _=>rfl,fun _=>rfl,fun ρ => OT.push_sl o2 [a0, a1] rfl c2 k2 1 ρ, stm _⟩
        ·exact ⟨⟨rfl,rfl,rfl, fun _=>rfl⟩, OT.push_blk o2 [a0, a1] rfl c2 k2 (fun _=>rfl), ⟨rfl,rfl,rfl, fun _=>rfl⟩, ⟨rfl,rfl,rfl, fun _=>rfl⟩, trivial⟩
      ·have h1 : decide (0 ≤ nbU (vxX k) 0) = false := h1
       conv => whnf
       refine ⟨rfl, ?_⟩
       conv => whnf
       refine ⟨o2.app (app2_le hlen2), fun c2 k2 => ?_⟩
       conv => whnf
       refine ⟨[0,5,2,3], [0,1,5,7,8,9,10,11,13,14,15], [1], fun vs3 => ?_⟩
       conv => whnf
       refine ⟨pureL_append (trsC_pure o2.l) (fun _ _=>rfl), ?_⟩
       conv => whnf
       refine ⟨_, _, ?_, ?_, ⟨(1, o2.push [a0, a1] rfl c2 k2, vs3), (by decide : 1 ≤ 6), (congrArg (· ++ [a0, a1]) ho2).trans (faces_yes (f := 0) (face_out (ins1 h1)))⟩, (by decide : 6 - 1 < 6 - 0), rfl, rfl⟩
       ·exact ⟨fun _=>rfl,fun _=>rfl,fun _=>rfl,fun _=>rfl,fun _=>rfl,fun _=>rfl,fun _=>rfl,fun ρ => OT.push_sl o2 [a0, a1] rfl c2 k2 1 ρ, stm _⟩
       ·exact ⟨⟨rfl,rfl,rfl, fun _=>rfl⟩, OT.push_blk o2 [a0, a1] rfl c2 k2 (fun _=>rfl), ⟨rfl,rfl,rfl, fun _=>rfl⟩, ⟨rfl,rfl,rfl, fun _=>rfl⟩, trivial⟩
     ·conv => whnf
      refine bcase_intro (fun h1 => ?_) (fun h1 => ?_)
      ·have h1 : decide (0 ≤ nbU (vxX k) 1) = true := h1
       conv => whnf
       refine bcase_intro (fun h2 => ?_) (fun h2 => ?_)
       ·have h2 : decide (nbU (vxX k) 1 < 3) = true := h2
        conv => whnf
        refine bcase_intro (fun h3 => ?_) (fun h3 => ?_)
        ·have h3 : decide (0 ≤ nbV (vxY k) 1) = true := h3
         conv => whnf
         refine bcase_intro (fun h4 => ?_) (fun h4 => ?_)
         ·have h4 : decide (nbV (vxY k) 1 < 3) = true := h4
          conv => whnf
          refine bcase_intro (fun h5 => ?_) (fun h5 => ?_)
          ·have h5 : decide (0 ≤ nbW (vxZ k) 1) = true := h5
           conv => whnf
           refine bcase_intro (fun h6 => ?_) (fun h6 => ?_)
           ·have h6 : decide (nbW (vxZ k) 1 < 3) = false := nb_f h6
            conv => whnf
            refine ⟨rfl, ?_⟩
            conv => whnf
            refine ⟨o2.app (app2_le hlen2), fun c2 k2 => ?_⟩
            conv => whnf
            refine ⟨[0,5,2,3], [0,1,5,7,8,9,10,11,13,14,15], [1], fun vs3 => ?_⟩
            conv => whnf
            refine ⟨pureL_append (trsC_pure o2.l) (fun _ _=>rfl), ?_⟩
            conv => whnf
            refine ⟨_, _, ?_, ?_, ⟨(2, o2.push [a2, a3] rfl c2 k2, vs3), (by decide : 2 ≤ 6), (congrArg (· ++ [a2, a3]) ho2).trans (faces_yes (f := 1) (face_out (ins6 h6)))⟩, (by decide : 6 - 2 < 6 - 1), rfl, rfl⟩
            ·exact ⟨fun _=>rfl,fun _=>rfl,fun _=>rfl,fun _=>rfl,fun _=>rfl,fun _=>rfl,fun _=>rfl,fun ρ => OT.push_sl o2 [a2, a3] rfl c2 k2 1 ρ, stm _⟩
            ·exact ⟨⟨rfl,rfl,rfl, fun _=>rfl⟩, OT.push_blk o2 [a2, a3] rfl c2 k2 (fun _=>rfl), ⟨rfl,rfl,rfl, fun _=>rfl⟩, ⟨rfl,rfl,rfl, fun _=>rfl⟩, trivial⟩
           ·have h6 : decide (nbW (vxZ k) 1 < 3) = true := nb_t h6
            have hi := ins7 h1 h2 h3 h4 h5 h6
            conv => whnf
            conv =>
             arg 2
             tactic' =>
              apply eff_shr (ho := ?how1) (hx := ?hxw1) (hy := ?hyw1) (hb := ?hbw1)
              case how1 => rfl
              case hxw1 => rfl
              case hyw1 => rfl
              case hbw1 => exact u64_wrap_nonneg _
            conv => whnf
            refine bcase_intro (fun hb => ?_) (fun hb => ?_)
            ·have hb : bit0 bits (ixF (nbU (vxX k) 1) (nbV (vxY k) 1) (nbW (vxZ k) 1)) = true := hb
             conv => whnf
             refine ⟨rfl, ?_⟩
             conv => whnf
             refine ⟨o2.app (app2_le hlen2), fun c2 k2 => ?_⟩
             conv => whnf
             refine ⟨[0,5,2,3], [0,1,5,7,8,9,10,11,13,14,15], [1], fun vs3 => ?_⟩
             conv => whnf
             refine ⟨pureL_append (trsC_pure o2.l) (fun _ _=>rfl), ?_⟩
             conv => whnf
             refine ⟨_, _, ?_, ?_, ⟨(2, o2.push [a2, a3] rfl c2 k2, vs3), (by decide : 2 ≤ 6), (congrArg (· ++ [a2, a3]) ho2).trans (faces_yes (f := 1) (face_in hi hb))⟩, (by decide : 6 - 2 < 6 - 1), rfl, rfl⟩
             ·exact ⟨fun _=>rfl,fun _=>rfl,fun _=>rfl,fun _=>rfl,fun _=>rfl,fun _=>rfl,fun _=>rfl,fun ρ => OT.push_sl o2 [a2, a3] rfl c2 k2 1 ρ, stm _⟩
             ·exact ⟨⟨rfl,rfl,rfl, fun _=>rfl⟩, OT.push_blk o2 [a2, a3] rfl c2 k2 (fun _=>rfl), ⟨rfl,rfl,rfl, fun _=>rfl⟩, ⟨rfl,rfl,rfl, fun _=>rfl⟩, trivial⟩
            ·have hb : bit0 bits (ixF (nbU (vxX k) 1) (nbV (vxY k) 1) (nbW (vxZ k) 1)) = false := hb
             conv => whnf
             refine ⟨[0,1,2,3], [0,1,5,7,8,9,10,11,13,14,15], [1], fun vs3 => ?_⟩
             conv => whnf
             refine ⟨o2.new.1, ?_⟩
             conv => whnf
             refine ⟨_, _, ?_, ?_, ⟨(2, o2, vs3), (by decide : 2 ≤ 6), ho2.trans (faces_no (f := 1) (face_in hi hb))⟩, (by decide : 6 - 2 < 6 - 1), rfl, rfl⟩
             ·exact stm _
             ·exact ⟨⟨rfl,rfl,rfl, fun _=>rfl⟩, ⟨rfl,rfl,rfl, fun _=>rfl⟩, ⟨rfl,rfl,rfl, fun _=>rfl⟩, ⟨rfl,rfl,rfl, fun _=>rfl⟩, trivial⟩
          ·have h5 : decide (0 ≤ nbW (vxZ k) 1) = false := h5
           conv => whnf
           refine ⟨rfl, ?_⟩
           conv => whnf
           refine ⟨o2.app (app2_le hlen2), fun c2 k2 => ?_⟩
           conv => whnf
           refine ⟨[0,5,2,3], [0,1,5,7,8,9,10,11,13,14,15], [1], fun vs3 => ?_⟩
           conv => whnf
           refine ⟨pureL_append (trsC_pure o2.l) (fun _ _=>rfl), ?_⟩
           conv => whnf
           refine ⟨_, _, ?_, ?_, ⟨(2, o2.push [a2, a3] rfl c2 k2, vs3), (by decide : 2 ≤ 6), (congrArg (· ++ [a2, a3]) ho2).trans (faces_yes (f := 1) (face_out (ins5 h5)))⟩, (by decide : 6 - 2 < 6 - 1), rfl, rfl⟩
           ·exact ⟨fun _=>rfl,fun _=>rfl,fun _=>rfl,fun _=>rfl,fun _=>rfl,fun _=>rfl,fun _=>rfl,fun ρ => OT.push_sl o2 [a2, a3] rfl c2 k2 1 ρ, stm _⟩
           ·exact ⟨⟨rfl,rfl,rfl, fun _=>rfl⟩, OT.push_blk o2 [a2, a3] rfl c2 k2 (fun _=>rfl), ⟨rfl,rfl,rfl, fun _=>rfl⟩, ⟨rfl,rfl,rfl, fun _=>rfl⟩, trivial⟩
         ·have h4 : decide (nbV (vxY k) 1 < 3) = false := h4
          conv => whnf
          refine ⟨rfl, ?_⟩
          conv => whnf
          refine ⟨o2.app (app2_le hlen2), fun c2 k2 => ?_⟩
          conv => whnf
          refine ⟨[0,5,2,3], [0,1,5,7,8,9,10,11,13,14,15], [1], fun vs3 => ?_⟩
          conv => whnf
          refine ⟨pureL_append (trsC_pure o2.l) (fun _ _=>rfl), ?_⟩
          conv => whnf
          refine ⟨_, _, ?_, ?_, ⟨(2, o2.push [a2, a3] rfl c2 k2, vs3), (by decide : 2 ≤ 6), (congrArg (· ++ [a2, a3]) ho2).trans (faces_yes (f := 1) (face_out (ins4 h4)))⟩, (by decide : 6 - 2 < 6 - 1), rfl, rfl⟩
          ·exact ⟨fun _=>rfl,fun _=>rfl,fun _=>rfl,fun _=>rfl,fun _=>rfl,fun _=>rfl,fun _=>rfl,fun ρ => OT.push_sl o2 [a2, a3] rfl c2 k2 1 ρ, stm _⟩
          ·exact ⟨⟨rfl,rfl,rfl, fun _=>rfl⟩, OT.push_blk o2 [a2, a3] rfl c2 k2 (fun _=>rfl), ⟨rfl,rfl,rfl, fun _=>rfl⟩, ⟨rfl,rfl,rfl, fun _=>rfl⟩, trivial⟩
        ·have h3 : decide (0 ≤ nbV (vxY k) 1) = false := h3
         conv => whnf
         refine ⟨rfl, ?_⟩
         conv => whnf
         refine ⟨o2.app (app2_le hlen2), fun c2 k2 => ?_⟩
         conv => whnf
         refine ⟨[0,5,2,3], [0,1,5,7,8,9,10,11,13,14,15], [1], fun vs3 => ?_⟩
         conv => whnf
         refine ⟨pureL_append (trsC_pure o2.l) (fun _ _=>rfl), ?_⟩
         conv => whnf
         refine ⟨_, _, ?_, ?_, ⟨(2, o2.push [a2, a3] rfl c2 k2, vs3), (by decide : 2 ≤ 6), (congrArg (· ++ [a2, a3]) ho2).trans (faces_yes (f := 1) (face_out (ins3 h3)))⟩, (by decide : 6 - 2 < 6 - 1), rfl, rfl⟩
         ·exact ⟨fun _=>rfl,fun _=>rfl,fun _=>rfl,fun _=>rfl,fun _=>rfl,fun _=>rfl,fun _=>rfl,fun ρ => OT.push_sl o2 [a2, a3] rfl c2 k2 1 ρ, stm _⟩
         ·exact ⟨⟨rfl,rfl,rfl, fun _=>rfl⟩, OT.push_blk o2 [a2, a3] rfl c2 k2 (fun _=>rfl), ⟨rfl,rfl,rfl, fun _=>rfl⟩, ⟨rfl,rfl,rfl, fun _=>rfl⟩, trivial⟩
       ·have h2 : decide (nbU (vxX k) 1 < 3) = false := h2
        conv => whnf
        refine ⟨rfl, ?_⟩
        conv => whnf
        refine ⟨o2.app (app2_le hlen2), fun c2 k2 => ?_⟩
        conv => whnf
        refine ⟨[0,5,2,3], [0,1,5,7,8,9,10,11,13,14,15], [1], fun vs3 => ?_⟩
        conv => whnf
        refine ⟨pureL_append (trsC_pure o2.l) (fun _ _=>rfl), ?_⟩
        conv => whnf
        refine ⟨_, _, ?_, ?_, ⟨(2, o2.push [a2, a3] rfl c2 k2, vs3), (by decide : 2 ≤ 6), (congrArg (· ++ [a2, a3]) ho2).trans (faces_yes (f := 1) (face_out (ins2 h2)))⟩, (by decide : 6 - 2 < 6 - 1), rfl, rfl⟩
        ·exact ⟨fun _=>rfl,fun _=>rfl,fun _=>rfl,fun _=>rfl,fun _=>rfl,fun _=>rfl,fun _=>rfl,fun ρ => OT.push_sl o2 [a2, a3] rfl c2 k2 1 ρ, stm _⟩
        ·exact ⟨⟨rfl,rfl,rfl, fun _=>rfl⟩, OT.push_blk o2 [a2, a3] rfl c2 k2 (fun _=>rfl), ⟨rfl,rfl,rfl, fun _=>rfl⟩, ⟨rfl,rfl,rfl, fun _=>rfl⟩, trivial⟩
      ·have h1 : decide (0 ≤ nbU (vxX k) 1) = false := h1
       conv => whnf
       refine ⟨rfl, ?_⟩
       conv => whnf
       refine ⟨o2.app (app2_le hlen2), fun c2 k2 => ?_⟩
       conv => whnf
       refine ⟨[0,5,2,3], [0,1,5,7,8,9,10,11,13,14,15], [1], fun vs3 => ?_⟩
       conv => whnf
       refine ⟨pureL_append (trsC_pure o2.l) (fun _ _=>rfl), ?_⟩
       conv => whnf
       refine ⟨_, _, ?_, ?_, ⟨(2, o2.push [a2, a3] rfl c2 k2, vs3), (by decide : 2 ≤ 6), (congrArg (· ++ [a2, a3]) ho2).trans (faces_yes (f := 1) (face_out (ins1 h1)))⟩, (by decide : 6 - 2 < 6 - 1), rfl, rfl⟩
       ·exact ⟨fun _=>rfl,fun _=>rfl,fun _=>rfl,fun _=>rfl,fun _=>rfl,fun _=>rfl,fun _=>rfl,fun ρ => OT.push_sl o2 [a2, a3] rfl c2 k2 1 ρ, stm _⟩
       ·exact ⟨⟨rfl,rfl,rfl, fun _=>rfl⟩, OT.push_blk o2 [a2, a3] rfl c2 k2 (fun _=>rfl), ⟨rfl,rfl,rfl, fun _=>rfl⟩, ⟨rfl,rfl,rfl, fun _=>rfl⟩, trivial⟩
     ·conv => whnf
      refine bcase_intro (fun h1 => ?_) (fun h1 => ?_)
      ·have h1 : decide (0 ≤ nbU (vxX k) 2) = true := h1
       conv => whnf
       refine bcase_intro (fun h2 => ?_) (fun h2 => ?_)
       ·have h2 : decide (nbU (vxX k) 2 < 3) = true := h2
        conv => whnf
        refine bcase_intro (fun h3 => ?_) (fun h3 => ?_)
        ·have h3 : decide (0 ≤ nbV (vxY k) 2) = true := h3
         conv => whnf
         refine bcase_intro (fun h4 => ?_) (fun h4 => ?_)
         ·have h4 : decide (nbV (vxY k) 2 < 3) = true := h4
          conv => whnf
          refine bcase_intro (fun h5 => ?_) (fun h5 => ?_)
          ·have h5 : decide (0 ≤ nbW (vxZ k) 2) = true := h5
           conv => whnf
           refine bcase_intro (fun h6 => ?_) (fun h6 => ?_)
           ·have h6 : decide (nbW (vxZ k) 2 < 3) = false := nb_f h6
            conv => whnf
            refine ⟨rfl, ?_⟩
            conv => whnf
            refine ⟨o2.app (app2_le hlen2), fun c2 k2 => ?_⟩
            conv => whnf
            refine ⟨[0,5,2,3], [0,1,5,7,8,9,10,11,13,14,15], [1], fun vs3 => ?_⟩
            conv => whnf
            refine ⟨pureL_append (trsC_pure o2.l) (fun _ _=>rfl), ?_⟩
            conv => whnf
            refine ⟨_, _, ?_, ?_, ⟨(3, o2.push [a4, a5] rfl c2 k2, vs3), (by decide : 3 ≤ 6), (congrArg (· ++ [a4, a5]) ho2).trans (faces_yes (f := 2) (face_out (ins6 h6)))⟩, (by decide : 6 - 3 < 6 - 2), rfl, rfl⟩
            ·exact ⟨fun _=>rfl,fun _=>rfl,fun _=>rfl,fun _=>rfl,fun _=>rfl,fun _=>rfl,fun _=>rfl,fun ρ => OT.push_sl o2 [a4, a5] rfl c2 k2 1 ρ, stm _⟩
            ·exact ⟨⟨rfl,rfl,rfl, fun _=>rfl⟩, OT.push_blk o2 [a4, a5] rfl c2 k2 (fun _=>rfl), ⟨rfl,rfl,rfl, fun _=>rfl⟩, ⟨rfl,rfl,rfl, fun _=>rfl⟩, trivial⟩
           ·have h6 : decide (nbW (vxZ k) 2 < 3) = true := nb_t h6
            have hi := ins7 h1 h2 h3 h4 h5 h6
            conv => whnf
            conv =>
             arg 2
             tactic' =>
              apply eff_shr (ho := ?how1) (hx := ?hxw1) (hy := ?hyw1) (hb := ?hbw1)
              case how1 => rfl
              case hxw1 => rfl
              case hyw1 => rfl
              case hbw1 => exact u64_wrap_nonneg _
            conv => whnf
            refine bcase_intro (fun hb => ?_) (fun hb => ?_)
            ·have hb : bit0 bits (ixF (nbU (vxX k) 2) (nbV (vxY k) 2) (nbW (vxZ k) 2)) = true := hb
             conv => whnf
             refine ⟨rfl, ?_⟩
             conv => whnf
             refine ⟨o2.app (app2_le hlen2), fun c2 k2 => ?_⟩
             conv => whnf
             refine ⟨[0,5,2,3], [0,1,5,7,8,9,10,11,13,14,15], [1], fun vs3 => ?_⟩
             conv => whnf
             refine ⟨pureL_append (trsC_pure o2.l) (fun _ _=>rfl), ?_⟩
             conv => whnf
             refine ⟨_, _, ?_, ?_, ⟨(3, o2.push [a4, a5] rfl c2 k2, vs3), (by decide : 3 ≤ 6), (congrArg (· ++ [a4, a5]) ho2).trans (faces_yes (f := 2) (face_in hi hb))⟩, (by decide : 6 - 3 < 6 - 2), rfl, rfl⟩
             ·exact ⟨fun _=>rfl,fun _=>rfl,fun _=>rfl,fun _=>rfl,fun _=>rfl,fun _=>rfl,fun _=>rfl,fun ρ => OT.push_sl o2 [a4, a5] rfl c2 k2 1 ρ, stm _⟩
             ·exact ⟨⟨rfl,rfl,rfl, fun _=>rfl⟩, OT.push_blk o2 [a4, a5] rfl c2 k2 (fun _=>rfl), ⟨rfl,rfl,rfl, fun _=>rfl⟩, ⟨rfl,rfl,rfl, fun _=>rfl⟩, trivial⟩
            ·have hb : bit0 bits (ixF (nbU (vxX k) 2) (nbV (vxY k) 2) (nbW (vxZ k) 2)) = false := hb
             conv => whnf
             refine ⟨[0,1,2,3], [0,1,5,7,8,9,10,11,13,14,15], [1], fun vs3 => ?_⟩
             conv => whnf
             refine ⟨o2.new.1, ?_⟩
             conv => whnf
             refine ⟨_, _, ?_, ?_, ⟨(3, o2, vs3), (by decide : 3 ≤ 6), ho2.trans (faces_no (f := 2) (face_in hi hb))⟩, (by decide : 6 - 3 < 6 - 2), rfl, rfl⟩
             ·exact stm _
             ·exact ⟨⟨rfl,rfl,rfl, fun _=>rfl⟩, ⟨rfl,rfl,rfl, fun _=>rfl⟩, ⟨rfl,rfl,rfl, fun _=>rfl⟩, ⟨rfl,rfl,rfl, fun _=>rfl⟩, trivial⟩
          ·have h5 : decide (0 ≤ nbW (vxZ k) 2) = false := h5
           conv => whnf
           refine ⟨rfl, ?_⟩
           conv => whnf
           refine ⟨o2.app (app2_le hlen2), fun c2 k2 => ?_⟩
           conv => whnf
           refine ⟨[0,5,2,3], [0,1,5,7,8,9,10,11,13,14,15], [1], fun vs3 => ?_⟩
           conv => whnf
           refine ⟨pureL_append (trsC_pure o2.l) (fun _ _=>rfl), ?_⟩
           conv => whnf
           refine ⟨_, _, ?_, ?_, ⟨(3, o2.push [a4, a5] rfl c2 k2, vs3), (by decide : 3 ≤ 6), (congrArg (· ++ [a4, a5]) ho2).trans (faces_yes (f := 2) (face_out (ins5 h5)))⟩, (by decide : 6 - 3 < 6 - 2), rfl, rfl⟩
           ·exact ⟨fun _=>rfl,fun _=>rfl,fun _=>rfl,fun _=>rfl,fun _=>rfl,fun _=>rfl,fun _=>rfl,fun ρ => OT.push_sl o2 [a4, a5] rfl c2 k2 1 ρ, stm _⟩
           ·exact ⟨⟨rfl,rfl,rfl, fun _=>rfl⟩, OT.push_blk o2 [a4, a5] rfl c2 k2 (fun _=>rfl), ⟨rfl,rfl,rfl, fun _=>rfl⟩, ⟨rfl,rfl,rfl, fun _=>rfl⟩, trivial⟩
         ·have h4 : decide (nbV (vxY k) 2 < 3) = false := h4
          conv => whnf
          refine ⟨rfl, ?_⟩
          conv => whnf
          refine ⟨o2.app (app2_le hlen2), fun c2 k2 => ?_⟩
          conv => whnf
          refine ⟨[0,5,2,3], [0,1,5,7,8,9,10,11,13,14,15], [1], fun vs3 => ?_⟩
          conv => whnf
          refine ⟨pureL_append (trsC_pure o2.l) (fun _ _=>rfl), ?_⟩
          conv => whnf
          refine ⟨_, _, ?_, ?_, ⟨(3, o2.push [a4, a5] rfl c2 k2, vs3), (by decide : 3 ≤ 6), (congrArg (· ++ [a4, a5]) ho2).trans (faces_yes (f := 2) (face_out (ins4 h4)))⟩, (by decide : 6 - 3 < 6 - 2), rfl, rfl⟩
          ·exact ⟨fun _=>rfl,fun _=>rfl,fun _=>rfl,fun _=>rfl,fun _=>rfl,fun _=>rfl,fun _=>rfl,fun ρ => OT.push_sl o2 [a4, a5] rfl c2 k2 1 ρ, stm _⟩
          ·exact ⟨⟨rfl,rfl,rfl, fun _=>rfl⟩, OT.push_blk o2 [a4, a5] rfl c2 k2 (fun _=>rfl), ⟨rfl,rfl,rfl, fun _=>rfl⟩, ⟨rfl,rfl,rfl, fun _=>rfl⟩, trivial⟩
        ·have h3 : decide (0 ≤ nbV (vxY k) 2) = false := h3
         conv => whnf
         refine ⟨rfl, ?_⟩
         conv => whnf
         refine ⟨o2.app (app2_le hlen2), fun c2 k2 => ?_⟩
         conv => whnf
         refine ⟨[0,5,2,3], [0,1,5,7,8,9,10,11,13,14,15], [1], fun vs3 => ?_⟩
         conv => whnf
         refine ⟨pureL_append (trsC_pure o2.l) (fun _ _=>rfl), ?_⟩
         conv => whnf
         refine ⟨_, _, ?_, ?_, ⟨(3, o2.push [a4, a5] rfl c2 k2, vs3), (by decide : 3 ≤ 6), (congrArg (· ++ [a4, a5]) ho2).trans (faces_yes (f := 2) (face_out (ins3 h3)))⟩, (by decide : 6 - 3 < 6 - 2), rfl, rfl⟩
         ·exact ⟨fun _=>rfl,fun _=>rfl,fun _=>rfl,fun _=>rfl,fun _=>rfl,fun _=>rfl,fun _=>rfl,fun ρ => OT.push_sl o2 [a4, a5] rfl c2 k2 1 ρ, stm _⟩
         ·exact ⟨⟨rfl,rfl,rfl, fun _=>rfl⟩, OT.push_blk o2 [a4, a5] rfl c2 k2 (fun _=>rfl), ⟨rfl,rfl,rfl, fun _=>rfl⟩, ⟨rfl,rfl,rfl, fun _=>rfl⟩, trivial⟩
       ·have h2 : decide (nbU (vxX k) 2 < 3) = false := h2
        conv => whnf
        refine ⟨rfl, ?_⟩
        conv => whnf
        refine ⟨o2.app (app2_le hlen2), fun c2 k2 => ?_⟩
        conv => whnf
        refine ⟨[0,5,2,3], [0,1,5,7,8,9,10,11,13,14,15], [1], fun vs3 => ?_⟩
        conv => whnf
        refine ⟨pureL_append (trsC_pure o2.l) (fun _ _=>rfl), ?_⟩
        conv => whnf
        refine ⟨_, _, ?_, ?_, ⟨(3, o2.push [a4, a5] rfl c2 k2, vs3), (by decide : 3 ≤ 6), (congrArg (· ++ [a4, a5]) ho2).trans (faces_yes (f := 2) (face_out (ins2 h2)))⟩, (by decide : 6 - 3 < 6 - 2), rfl, rfl⟩
        ·exact ⟨fun _=>rfl,fun _=>rfl,fun _=>rfl,fun _=>rfl,fun _=>rfl,fun _=>rfl,fun _=>rfl,fun ρ => OT.push_sl o2 [a4, a5] rfl c2 k2 1 ρ, stm _⟩
        ·exact ⟨⟨rfl,rfl,rfl, fun _=>rfl⟩, OT.push_blk o2 [a4, a5] rfl c2 k2 (fun _=>rfl), ⟨rfl,rfl,rfl, fun _=>rfl⟩, ⟨rfl,rfl,rfl, fun _=>rfl⟩, trivial⟩
      ·have h1 : decide (0 ≤ nbU (vxX k) 2) = false := h1
       conv => whnf
       refine ⟨rfl, ?_⟩
       conv => whnf
       refine ⟨o2.app (app2_le hlen2), fun c2 k2 => ?_⟩
       conv => whnf
       refine ⟨[0,5,2,3], [0,1,5,7,8,9,10,11,13,14,15], [1], fun vs3 => ?_⟩
       conv => whnf
       refine ⟨pureL_append (trsC_pure o2.l) (fun _ _=>rfl), ?_⟩
       conv => whnf
       refine ⟨_, _, ?_, ?_, ⟨(3, o2.push [a4, a5] rfl c2 k2, vs3), (by decide : 3 ≤ 6), (congrArg (· ++ [a4, a5]) ho2).trans (faces_yes (f := 2) (face_out (ins1 h1)))⟩, (by decide : 6 - 3 < 6 - 2), rfl, rfl⟩
       ·exact ⟨fun _=>rfl,fun _=>rfl,fun _=>rfl,fun _=>rfl,fun _=>rfl,fun _=>rfl,fun _=>rfl,fun ρ => OT.push_sl o2 [a4, a5] rfl c2 k2 1 ρ, stm _⟩
       ·exact ⟨⟨rfl,rfl,rfl, fun _=>rfl⟩, OT.push_blk o2 [a4, a5] rfl c2 k2 (fun _=>rfl), ⟨rfl,rfl,rfl, fun _=>rfl⟩, ⟨rfl,rfl,rfl, fun _=>rfl⟩, trivial⟩
     ·conv => whnf
      refine bcase_intro (fun h1 => ?_) (fun h1 => ?_)
      ·have h1 : decide (0 ≤ nbU (vxX k) 3) = true := h1
       conv => whnf
       refine bcase_intro (fun h2 => ?_) (fun h2 => ?_)
       ·have h2 : decide (nbU (vxX k) 3 < 3) = true := h2
        conv => whnf
        refine bcase_intro (fun h3 => ?_) (fun h3 => ?_)
        ·have h3 : decide (0 ≤ nbV (vxY k) 3) = true := h3
         conv => whnf
         refine bcase_intro (fun h4 => ?_) (fun h4 => ?_)
         ·have h4 : decide (nbV (vxY k) 3 < 3) = true := h4
          conv => whnf
          refine bcase_intro (fun h5 => ?_) (fun h5 => ?_)
          ·have h5 : decide (0 ≤ nbW (vxZ k) 3) = true := h5
           conv => whnf
           refine bcase_intro (fun h6 => ?_) (fun h6 => ?_)
           ·have h6 : decide (nbW (vxZ k) 3 < 3) = false := nb_f h6
            conv => whnf
            refine ⟨rfl, ?_⟩
            conv => whnf
            refine ⟨o2.app (app2_le hlen2), fun c2 k2 => ?_⟩
            conv => whnf
            refine ⟨[0,5,2,3], [0,1,5,7,8,9,10,11,13,14,15], [1], fun vs3 => ?_⟩
            conv => whnf
            refine ⟨pureL_append (trsC_pure o2.l) (fun _ _=>rfl), ?_⟩
            conv => whnf
            refine ⟨_, _, ?_, ?_, ⟨(4, o2.push [a6, a7] rfl c2 k2, vs3), (by decide : 4 ≤ 6), (congrArg (· ++ [a6, a7]) ho2).trans (faces_yes (f := 3) (face_out (ins6 h6)))⟩, (by decide : 6 - 4 < 6 - 3), rfl, rfl⟩
            ·exact ⟨fun _=>rfl,fun _=>rfl,fun _=>rfl,fun _=>rfl,fun _=>rfl,fun _=>rfl,fun _=>rfl,fun ρ => OT.push_sl o2 [a6, a7] rfl c2 k2 1 ρ, stm _⟩
            ·exact ⟨⟨rfl,rfl,rfl, fun _=>rfl⟩, OT.push_blk o2 [a6, a7] rfl c2 k2 (fun _=>rfl), ⟨rfl,rfl,rfl, fun _=>rfl⟩, ⟨rfl,rfl,rfl, fun _=>rfl⟩, trivial⟩
           ·have h6 : decide (nbW (vxZ k) 3 < 3) = true := nb_t h6
            have hi := ins7 h1 h2 h3 h4 h5 h6
            conv => whnf
            conv =>
             arg 2
             tactic' =>
              apply eff_shr (ho := ?how1) (hx := ?hxw1) (hy := ?hyw1) (hb := ?hbw1)
              case how1 => rfl
              case hxw1 => rfl
              case hyw1 => rfl
              case hbw1 => exact u64_wrap_nonneg _
            conv => whnf
            refine bcase_intro (fun hb => ?_) (fun hb => ?_)
            ·have hb : bit0 bits (ixF (nbU (vxX k) 3) (nbV (vxY k) 3) (nbW (vxZ k) 3)) = true := hb
             conv => whnf
             refine ⟨rfl, ?_⟩
             conv => whnf
             refine ⟨o2.app (app2_le hlen2), fun c2 k2 => ?_⟩
             conv => whnf
             refine ⟨[0,5,2,3], [0,1,5,7,8,9,10,11,13,14,15], [1], fun vs3 => ?_⟩
             conv => whnf
             refine ⟨pureL_append (trsC_pure o2.l) (fun _ _=>rfl), ?_⟩
             conv => whnf
             refine ⟨_, _, ?_, ?_, ⟨(4, o2.push [a6, a7] rfl c2 k2, vs3), (by decide : 4 ≤ 6), (congrArg (· ++ [a6, a7]) ho2).trans (faces_yes (f := 3) (face_in hi hb))⟩, (by decide : 6 - 4 < 6 - 3), rfl, rfl⟩
             ·exact ⟨fun _=>rfl,fun _=>rfl,fun _=>rfl,fun _=>rfl,fun _=>rfl,fun _=>rfl,fun _=>rfl,fun ρ => OT.push_sl o2 [a6, a7] rfl c2 k2 1 ρ, stm _⟩
             ·exact ⟨⟨rfl,rfl,rfl, fun _=>rfl⟩, OT.push_blk o2 [a6, a7] rfl c2 k2 (fun _=>rfl), ⟨rfl,rfl,rfl, fun _=>rfl⟩, ⟨rfl,rfl,rfl, fun _=>rfl⟩, trivial⟩
            ·have hb : bit0 bits (ixF (nbU (vxX k) 3) (nbV (vxY k) 3) (nbW (vxZ k) 3)) = false := hb
             conv => whnf
             refine ⟨[0,1,2,3], [0,1,5,7,8,9,10,11,13,14,15], [1], fun vs3 => ?_⟩
             conv => whnf
             refine ⟨o2.new.1, ?_⟩
             conv => whnf
             refine ⟨_, _, ?_, ?_, ⟨(4, o2, vs3), (by decide : 4 ≤ 6), ho2.trans (faces_no (f := 3) (face_in hi hb))⟩, (by decide : 6 - 4 < 6 - 3), rfl, rfl⟩
             ·exact stm _
             ·exact ⟨⟨rfl,rfl,rfl, fun _=>rfl⟩, ⟨rfl,rfl,rfl, fun _=>rfl⟩, ⟨rfl,rfl,rfl, fun _=>rfl⟩, ⟨rfl,rfl,rfl, fun _=>rfl⟩, trivial⟩
          ·have h5 : decide (0 ≤ nbW (vxZ k) 3) = false := h5
           conv => whnf
           refine ⟨rfl, ?_⟩
           conv => whnf
           refine ⟨o2.app (app2_le hlen2), fun c2 k2 => ?_⟩
           conv => whnf
           refine ⟨[0,5,2,3], [0,1,5,7,8,9,10,11,13,14,15], [1], fun vs3 => ?_⟩
           conv => whnf
           refine ⟨pureL_append (trsC_pure o2.l) (fun _ _=>rfl), ?_⟩
           conv => whnf
           refine ⟨_, _, ?_, ?_, ⟨(4, o2.push [a6, a7] rfl c2 k2, vs3), (by decide : 4 ≤ 6), (congrArg (· ++ [a6, a7]) ho2).trans (faces_yes (f := 3) (face_out (ins5 h5)))⟩, (by decide : 6 - 4 < 6 - 3), rfl, rfl⟩
           ·exact ⟨fun _=>rfl,fun _=>rfl,fun _=>rfl,fun _=>rfl,fun _=>rfl,fun _=>rfl,fun _=>rfl,fun ρ => OT.push_sl o2 [a6, a7] rfl c2 k2 1 ρ, stm _⟩
           ·exact ⟨⟨rfl,rfl,rfl, fun _=>rfl⟩, OT.push_blk o2 [a6, a7] rfl c2 k2 (fun _=>rfl), ⟨rfl,rfl,rfl, fun _=>rfl⟩, ⟨rfl,rfl,rfl, fun _=>rfl⟩, trivial⟩
         ·have h4 : decide (nbV (vxY k) 3 < 3) = false := h4
          conv => whnf
          refine ⟨rfl, ?_⟩
          conv => whnf
          refine ⟨o2.app (app2_le hlen2), fun c2 k2 => ?_⟩
          conv => whnf
          refine ⟨[0,5,2,3], [0,1,5,7,8,9,10,11,13,14,15], [1], fun vs3 => ?_⟩
          conv => whnf
          refine ⟨pureL_append (trsC_pure o2.l) (fun _ _=>rfl), ?_⟩
          conv => whnf
          refine ⟨_, _, ?_, ?_, ⟨(4, o2.push [a6, a7] rfl c2 k2, vs3), (by decide : 4 ≤ 6), (congrArg (· ++ [a6, a7]) ho2).trans (faces_yes (f := 3) (face_out (ins4 h4)))⟩, (by decide : 6 - 4 < 6 - 3), rfl, rfl⟩
          ·exact ⟨fun _=>rfl,fun _=>rfl,fun _=>rfl,fun _=>rfl,fun _=>rfl,fun _=>rfl,fun _=>rfl,fun ρ => OT.push_sl o2 [a6, a7] rfl c2 k2 1 ρ, stm _⟩
          ·exact ⟨⟨rfl,rfl,rfl, fun _=>rfl⟩, OT.push_blk o2 [a6, a7] rfl c2 k2 (fun _=>rfl), ⟨rfl,rfl,rfl, fun _=>rfl⟩, ⟨rfl,rfl,rfl, fun _=>rfl⟩, trivial⟩
        ·have h3 : decide (0 ≤ nbV (vxY k) 3) = false := h3
         conv => whnf
         refine ⟨rfl, ?_⟩
         conv => whnf
         refine ⟨o2.app (app2_le hlen2), fun c2 k2 => ?_⟩
         conv => whnf
         refine ⟨[0,5,2,3], [0,1,5,7,8,9,10,11,13,14,15], [1], fun vs3 => ?_⟩
         conv => whnf
         refine ⟨pureL_append (trsC_pure o2.l) (fun _ _=>rfl), ?_⟩
         conv => whnf
         refine ⟨_, _, ?_, ?_, ⟨(4, o2.push [a6, a7] rfl c2 k2, vs3), (by decide : 4 ≤ 6), (congrArg (· ++ [a6, a7]) ho2).trans (faces_yes (f := 3) (face_out (ins3 h3)))⟩, (by decide : 6 - 4 < 6 - 3), rfl, rfl⟩
         ·exact ⟨fun _=>rfl,fun _=>rfl,fun _=>rfl,fun _=>rfl,fun _=>rfl,fun _=>rfl,fun _=>rfl,fun ρ => OT.push_sl o2 [a6, a7] rfl c2 k2 1 ρ, stm _⟩
         ·exact ⟨⟨rfl,rfl,rfl, fun _=>rfl⟩, OT.push_blk o2 [a6, a7] rfl c2 k2 (fun _=>rfl), ⟨rfl,rfl,rfl, fun _=>rfl⟩, ⟨rfl,rfl,rfl, fun _=>rfl⟩, trivial⟩
       ·have h2 : decide (nbU (vxX k) 3 < 3) = false := h2
        conv => whnf
        refine ⟨rfl, ?_⟩
        conv => whnf
        refine ⟨o2.app (app2_le hlen2), fun c2 k2 => ?_⟩
        conv => whnf
        refine ⟨[0,5,2,3], [0,1,5,7,8,9,10,11,13,14,15], [1], fun vs3 => ?_⟩
        conv => whnf
        refine ⟨pureL_append (trsC_pure o2.l) (fun _ _=>rfl), ?_⟩
        conv => whnf
        refine ⟨_, _, ?_, ?_, ⟨(4, o2.push [a6, a7] rfl c2 k2, vs3), (by decide : 4 ≤ 6), (congrArg (· ++ [a6, a7]) ho2).trans (faces_yes (f := 3) (face_out (ins2 h2)))⟩, (by decide : 6 - 4 < 6 - 3), rfl, rfl⟩
        ·exact ⟨fun _=>rfl,fun _=>rfl,fun _=>rfl,fun _=>rfl,fun _=>rfl,fun _=>rfl,fun _=>rfl,fun ρ => OT.push_sl o2 [a6, a7] rfl c2 k2 1 ρ, stm _⟩
        ·exact ⟨⟨rfl,rfl,rfl, fun _=>rfl⟩, OT.push_blk o2 [a6, a7] rfl c2 k2 (fun _=>rfl), ⟨rfl,rfl,rfl, fun _=>rfl⟩, ⟨rfl,rfl,rfl, fun _=>rfl⟩, trivial⟩
      ·have h1 : decide (0 ≤ nbU (vxX k) 3) = false := h1
       conv => whnf
       refine ⟨rfl, ?_⟩
       conv => whnf
       refine ⟨o2.app (app2_le hlen2), fun c2 k2 => ?_⟩
       conv => whnf
       refine ⟨[0,5,2,3], [0,1,5,7,8,9,10,11,13,14,15], [1], fun vs3 => ?_⟩
       conv => whnf
       refine ⟨pureL_append (trsC_pure o2.l) (fun _ _=>rfl), ?_⟩
       conv => whnf
       refine ⟨_, _, ?_, ?_, ⟨(4, o2.push [a6, a7] rfl c2 k2, vs3), (by decide : 4 ≤ 6), (congrArg (· ++ [a6, a7]) ho2).trans (faces_yes (f := 3) (face_out (ins1 h1)))⟩, (by decide : 6 - 4 < 6 - 3), rfl, rfl⟩
       ·exact ⟨fun _=>rfl,fun _=>rfl,fun _=>rfl,fun _=>rfl,fun _=>rfl,fun _=>rfl,fun _=>rfl,fun ρ => OT.push_sl o2 [a6, a7] rfl c2 k2 1 ρ, stm _⟩
       ·exact ⟨⟨rfl,rfl,rfl, fun _=>rfl⟩, OT.push_blk o2 [a6, a7] rfl c2 k2 (fun _=>rfl), ⟨rfl,rfl,rfl, fun _=>rfl⟩, ⟨rfl,rfl,rfl, fun _=>rfl⟩, trivial⟩
     ·conv => whnf
      refine bcase_intro (fun h1 => ?_) (fun h1 => ?_)
      ·have h1 : decide (0 ≤ nbU (vxX k) 4) = true := h1
       conv => whnf
       refine bcase_intro (fun h2 => ?_) (fun h2 => ?_)
       ·have h2 : decide (nbU (vxX k) 4 < 3) = true := h2
        conv => whnf
        refine bcase_intro (fun h3 => ?_) (fun h3 => ?_)
        ·have h3 : decide (0 ≤ nbV (vxY k) 4) = true := h3
         conv => whnf
         refine bcase_intro (fun h4 => ?_) (fun h4 => ?_)
         ·have h4 : decide (nbV (vxY k) 4 < 3) = true := h4
          conv => whnf
          refine bcase_intro (fun h5 => ?_) (fun h5 => ?_)
          ·have h5 : decide (0 ≤ nbW (vxZ k) 4) = true := h5
           conv => whnf
           refine bcase_intro (fun h6 => ?_) (fun h6 => ?_)
           ·have h6 : decide (nbW (vxZ k) 4 < 3) = false := nb_f h6
            conv => whnf
            refine ⟨rfl, ?_⟩
            conv => whnf
            refine ⟨o2.app (app2_le hlen2), fun c2 k2 => ?_⟩
            conv => whnf
            refine ⟨[0,5,2,3], [0,1,5,7,8,9,10,11,13,14,15], [1], fun vs3 => ?_⟩
            conv => whnf
            refine ⟨pureL_append (trsC_pure o2.l) (fun _ _=>rfl), ?_⟩
            conv => whnf
            refine ⟨_, _, ?_, ?_, ⟨(5, o2.push [a8, a9] rfl c2 k2, vs3), (by decide : 5 ≤ 6), (congrArg (· ++ [a8, a9]) ho2).trans (faces_yes (f := 4) (face_out (ins6 h6)))⟩, (by decide : 6 - 5 < 6 - 4), rfl, rfl⟩
            ·exact ⟨fun _=>rfl,fun _=>rfl,fun _=>rfl,fun _=>rfl,fun _=>rfl,fun _=>rfl,fun _=>rfl,fun ρ => OT.push_sl o2 [a8, a9] rfl c2 k2 1 ρ, stm _⟩
            ·exact ⟨⟨rfl,rfl,rfl, fun _=>rfl⟩, OT.push_blk o2 [a8, a9] rfl c2 k2 (fun _=>rfl), ⟨rfl,rfl,rfl, fun _=>rfl⟩, ⟨rfl,rfl,rfl, fun _=>rfl⟩, trivial⟩
           ·have h6 : decide (nbW (vxZ k) 4 < 3) = true := nb_t h6
            have hi := ins7 h1 h2 h3 h4 h5 h6
            conv => whnf
            conv =>
             arg 2
             tactic' =>
              apply eff_shr (ho := ?how1) (hx := ?hxw1) (hy := ?hyw1) (hb := ?hbw1)
              case how1 => rfl
              case hxw1 => rfl
              case hyw1 => rfl
              case hbw1 => exact u64_wrap_nonneg _
            conv => whnf
            refine bcase_intro (fun hb => ?_) (fun hb => ?_)
            ·have hb : bit0 bits (ixF (nbU (vxX k) 4) (nbV (vxY k) 4) (nbW (vxZ k) 4)) = true := hb
             conv => whnf
             refine ⟨rfl, ?_⟩
             conv => whnf
             refine ⟨o2.app (app2_le hlen2), fun c2 k2 => ?_⟩
             conv => whnf
             refine ⟨[0,5,2,3], [0,1,5,7,8,9,10,11,13,14,15], [1], fun vs3 => ?_⟩
             conv => whnf
             refine ⟨pureL_append (trsC_pure o2.l) (fun _ _=>rfl), ?_⟩
             conv => whnf
             refine ⟨_, _, ?_, ?_, ⟨(5, o2.push [a8, a9] rfl c2 k2, vs3), (by decide : 5 ≤ 6), (congrArg (· ++ [a8, a9]) ho2).trans (faces_yes (f := 4) (face_in hi hb))⟩, (by decide : 6 - 5 < 6 - 4), rfl, rfl⟩
             ·exact ⟨fun _=>rfl,fun _=>rfl,fun _=>rfl,fun _=>rfl,fun _=>rfl,fun _=>rfl,fun _=>rfl,fun ρ => OT.push_sl o2 [a8, a9] rfl c2 k2 1 ρ, stm _⟩
             ·exact ⟨⟨rfl,rfl,rfl, fun _=>rfl⟩, OT.push_blk o2 [a8, a9] rfl c2 k2 (fun _=>rfl), ⟨rfl,rfl,rfl, fun _=>rfl⟩, ⟨rfl,rfl,rfl, fun _=>rfl⟩, trivial⟩
            ·have hb : bit0 bits (ixF (nbU (vxX k) 4) (nbV (vxY k) 4) (nbW (vxZ k) 4)) = false := hb
             conv => whnf
             refine ⟨[0,1,2,3], [0,1,5,7,8,9,10,11,13,14,15], [1], fun vs3 => ?_⟩
             conv => whnf
             refine ⟨o2.new.1, ?_⟩
             conv => whnf
             refine ⟨_, _, ?_, ?_, ⟨(5, o2, vs3), (by decide : 5 ≤ 6), ho2.trans (faces_no (f := 4) (face_in hi hb))⟩, (by decide : 6 - 5 < 6 - 4), rfl, rfl⟩
             ·exact stm _
             ·exact ⟨⟨rfl,rfl,rfl, fun _=>rfl⟩, ⟨rfl,rfl,rfl, fun _=>rfl⟩, ⟨rfl,rfl,rfl, fun _=>rfl⟩, ⟨rfl,rfl,rfl, fun _=>rfl⟩, trivial⟩
          ·have h5 : decide (0 ≤ nbW (vxZ k) 4) = false := h5
           conv => whnf
           refine ⟨rfl, ?_⟩
           conv => whnf
           refine ⟨o2.app (app2_le hlen2), fun c2 k2 => ?_⟩
           conv => whnf
           refine ⟨[0,5,2,3], [0,1,5,7,8,9,10,11,13,14,15], [1], fun vs3 => ?_⟩
           conv => whnf
           refine ⟨pureL_append (trsC_pure o2.l) (fun _ _=>rfl), ?_⟩
           conv => whnf
           refine ⟨_, _, ?_, ?_, ⟨(5, o2.push [a8, a9] rfl c2 k2, vs3), (by decide : 5 ≤ 6), (congrArg (· ++ [a8, a9]) ho2).trans (faces_yes (f := 4) (face_out (ins5 h5)))⟩, (by decide : 6 - 5 < 6 - 4), rfl, rfl⟩
           ·exact ⟨fun _=>rfl,fun _=>rfl,fun _=>rfl,fun _=>rfl,fun _=>rfl,fun _=>rfl,fun _=>rfl,fun ρ => OT.push_sl o2 [a8, a9] rfl c2 k2 1 ρ, stm _⟩
           ·exact ⟨⟨rfl,rfl,rfl, fun _=>rfl⟩, OT.push_blk o2 [a8, a9] rfl c2 k2 (fun _=>rfl), ⟨rfl,rfl,rfl, fun _=>rfl⟩, ⟨rfl,rfl,rfl, fun _=>rfl⟩, trivial⟩
         ·have h4 : decide (nbV (vxY k) 4 < 3) = false := h4
          conv => whnf
          refine ⟨rfl, ?_⟩
          conv => whnf
          refine ⟨o2.app (app2_le hlen2), fun c2 k2 => ?_⟩
          conv => whnf
          refine ⟨[0,5,2,3], [0,1,5,7,8,9,10,11,13,14,15], [1], fun vs3 => ?_⟩
          conv => whnf
          refine ⟨pureL_append (trsC_pure o2.l) (fun _ _=>rfl), ?_⟩
          conv => whnf
          refine ⟨_, _, ?_, ?_, ⟨(5, o2.push [a8, a9] rfl c2 k2, vs3), (by decide : 5 ≤ 6), (congrArg (· ++ [a8, a9]) ho2).trans (faces_yes (f := 4) (face_out (ins4 h4)))⟩, (by decide : 6 - 5 < 6 - 4), rfl, rfl⟩
          ·exact ⟨fun _=>rfl,fun _=>rfl,fun _=>rfl,fun _=>rfl,fun _=>rfl,fun _=>rfl,fun _=>rfl,fun ρ => OT.push_sl o2 [a8, a9] rfl c2 k2 1 ρ, stm _⟩
          ·exact ⟨⟨rfl,rfl,rfl, fun _=>rfl⟩, OT.push_blk o2 [a8, a9] rfl c2 k2 (fun _=>rfl), ⟨rfl,rfl,rfl, fun _=>rfl⟩, ⟨rfl,rfl,rfl, fun _=>rfl⟩, trivial⟩
        ·have h3 : decide (0 ≤ nbV (vxY k) 4) = false := h3
         conv => whnf
         refine ⟨rfl, ?_⟩
         conv => whnf
         refine ⟨o2.app (app2_le hlen2), fun c2 k2 => ?_⟩
         conv => whnf
         refine ⟨[0,5,2,3], [0,1,5,7,8,9,10,11,13,14,15], [1], fun vs3 => ?_⟩
         conv => whnf
         refine ⟨pureL_append (trsC_pure o2.l) (fun _ _=>rfl), ?_⟩
         conv => whnf
         refine ⟨_, _, ?_, ?_, ⟨(5, o2.push [a8, a9] rfl c2 k2, vs3), (by decide : 5 ≤ 6), (congrArg (· ++ [a8, a9]) ho2).trans (faces_yes (f := 4) (face_out (ins3 h3)))⟩, (by decide : 6 - 5 < 6 - 4), rfl, rfl⟩
         ·exact ⟨fun _=>rfl,fun _=>rfl,fun _=>rfl,fun _=>rfl,fun _=>rfl,fun _=>rfl,fun _=>rfl,fun ρ => OT.push_sl o2 [a8, a9] rfl c2 k2 1 ρ, stm _⟩
         ·exact ⟨⟨rfl,rfl,rfl, fun _=>rfl⟩, OT.push_blk o2 [a8, a9] rfl c2 k2 (fun _=>rfl), ⟨rfl,rfl,rfl, fun _=>rfl⟩, ⟨rfl,rfl,rfl, fun _=>rfl⟩, trivial⟩
       ·have h2 : decide (nbU (vxX k) 4 < 3) = false := h2
        conv => whnf
        refine ⟨rfl, ?_⟩
        conv => whnf
        refine ⟨o2.app (app2_le hlen2), fun c2 k2 => ?_⟩
        conv => whnf
        refine ⟨[0,5,2,3], [0,1,5,7,8,9,10,11,13,14,15], [1], fun vs3 => ?_⟩
        conv => whnf
        refine ⟨pureL_append (trsC_pure o2.l) (fun _ _=>rfl), ?_⟩
        conv => whnf
        refine ⟨_, _, ?_, ?_, ⟨(5, o2.push [a8, a9] rfl c2 k2, vs3), (by decide : 5 ≤ 6), (congrArg (· ++ [a8, a9]) ho2).trans (faces_yes (f := 4) (face_out (ins2 h2)))⟩, (by decide : 6 - 5 < 6 - 4), rfl, rfl⟩
        ·exact ⟨fun _=>rfl,fun _=>rfl,fun _=>rfl,fun _=>rfl,fun _=>rfl,fun _=>rfl,fun _=>rfl,fun ρ => OT.push_sl o2 [a8, a9] rfl c2 k2 1 ρ, stm _⟩
        ·exact ⟨⟨rfl,rfl,rfl, fun _=>rfl⟩, OT.push_blk o2 [a8, a9] rfl c2 k2 (fun _=>rfl), ⟨rfl,rfl,rfl, fun _=>rfl⟩, ⟨rfl,rfl,rfl, fun _=>rfl⟩, trivial⟩
      ·have h1 : decide (0 ≤ nbU (vxX k) 4) = false := h1
       conv => whnf
       refine ⟨rfl, ?_⟩
       conv => whnf
       refine ⟨o2.app (app2_le hlen2), fun c2 k2 => ?_⟩
       conv => whnf
       refine ⟨[0,5,2,3], [0,1,5,7,8,9,10,11,13,14,15], [1], fun vs3 => ?_⟩
       conv => whnf
       refine ⟨pureL_append (trsC_pure o2.l) (fun _ _=>rfl), ?_⟩
       conv => whnf
       refine ⟨_, _, ?_, ?_, ⟨(5, o2.push [a8, a9] rfl c2 k2, vs3), (by decide : 5 ≤ 6), (congrArg (· ++ [a8, a9]) ho2).trans (faces_yes (f := 4) (face_out (ins1 h1)))⟩, (by decide : 6 - 5 < 6 - 4), rfl, rfl⟩
       ·exact ⟨fun _=>rfl,fun _=>rfl,fun _=>rfl,fun _=>rfl,fun _=>rfl,fun _=>rfl,fun _=>rfl,fun ρ => OT.push_sl o2 [a8, a9] rfl c2 k2 1 ρ, stm _⟩
       ·exact ⟨⟨rfl,rfl,rfl, fun _=>rfl⟩, OT.push_blk o2 [a8, a9] rfl c2 k2 (fun _=>rfl), ⟨rfl,rfl,rfl, fun _=>rfl⟩, ⟨rfl,rfl,rfl, fun _=>rfl⟩, trivial⟩
     ·conv => whnf
      refine bcase_intro (fun h1 => ?_) (fun h1 => ?_)
      ·have h1 : decide (0 ≤ nbU (vxX k) 5) = true := h1
       conv => whnf
       refine bcase_intro (fun h2 => ?_) (fun h2 => ?_)
       ·have h2 : decide (nbU (vxX k) 5 < 3) = true := h2
        conv => whnf
        refine bcase_intro (fun h3 => ?_) (fun h3 => ?_)
        ·have h3 : decide (0 ≤ nbV (vxY k) 5) = true := h3
         conv => whnf
         refine bcase_intro (fun h4 => ?_) (fun h4 => ?_)
         ·have h4 : decide (nbV (vxY k) 5 < 3) = true := h4
          conv => whnf
          refine bcase_intro (fun h5 => ?_) (fun h5 => ?_)
          ·have h5 : decide (0 ≤ nbW (vxZ k) 5) = true := h5
           conv => whnf
           refine bcase_intro (fun h6 => ?_) (fun h6 => ?_)
           ·have h6 : decide (nbW (vxZ k) 5 < 3) = false := nb_f h6
            conv => whnf
            refine ⟨rfl, ?_⟩
            conv => whnf
            refine ⟨o2.app (app2_le hlen2), fun c2 k2 => ?_⟩
            conv => whnf
            refine ⟨[0,5,2,3], [0,1,5,7,8,9,10,11,13,14,15], [1], fun vs3 => ?_⟩
            conv => whnf
            refine ⟨pureL_append (trsC_pure o2.l) (fun _ _=>rfl), ?_⟩
            conv => whnf
            refine ⟨_, _, ?_, ?_, ⟨(6, o2.push [a10, a11] rfl c2 k2, vs3), (by decide : 6 ≤ 6), (congrArg (· ++ [a10, a11]) ho2).trans (faces_yes (f := 5) (face_out (ins6 h6)))⟩, (by decide : 6 - 6 < 6 - 5), rfl, rfl⟩
            ·exact ⟨fun _=>rfl,fun _=>rfl,fun _=>rfl,fun _=>rfl,fun _=>rfl,fun _=>rfl,fun _=>rfl,fun ρ => OT.push_sl o2 [a10, a11] rfl c2 k2 1 ρ, stm _⟩
            ·exact ⟨⟨rfl,rfl,rfl, fun _=>rfl⟩, OT.push_blk o2 [a10, a11] rfl c2 k2 (fun _=>rfl), ⟨rfl,rfl,rfl, fun _=>rfl⟩, ⟨rfl,rfl,rfl, fun _=>rfl⟩, trivial⟩
           ·have h6 : decide (nbW (vxZ k) 5 < 3) = true := nb_t h6
            have hi := ins7 h1 h2 h3 h4 h5 h6
            conv => whnf
            conv =>
             arg 2
             tactic' =>
              apply eff_shr (ho := ?how1) (hx := ?hxw1) (hy := ?hyw1) (hb := ?hbw1)
              case how1 => rfl
              case hxw1 => rfl
              case hyw1 => rfl
              case hbw1 => exact u64_wrap_nonneg _
            conv => whnf
            refine bcase_intro (fun hb => ?_) (fun hb => ?_)
            ·have hb : bit0 bits (ixF (nbU (vxX k) 5) (nbV (vxY k) 5) (nbW (vxZ k) 5)) = true := hb
             conv => whnf
             refine ⟨rfl, ?_⟩
             conv => whnf
             refine ⟨o2.app (app2_le hlen2), fun c2 k2 => ?_⟩
             conv => whnf
             refine ⟨[0,5,2,3], [0,1,5,7,8,9,10,11,13,14,15], [1], fun vs3 => ?_⟩
             conv => whnf
             refine ⟨pureL_append (trsC_pure o2.l) (fun _ _=>rfl), ?_⟩
             conv => whnf
             refine ⟨_, _, ?_, ?_, ⟨(6, o2.push [a10, a11] rfl c2 k2, vs3), (by decide : 6 ≤ 6), (congrArg (· ++ [a10, a11]) ho2).trans (faces_yes (f := 5) (face_in hi hb))⟩, (by decide : 6 - 6 < 6 - 5), rfl, rfl⟩
             ·exact ⟨fun _=>rfl,fun _=>rfl,fun _=>rfl,fun _=>rfl,fun _=>rfl,fun _=>rfl,fun _=>rfl,fun ρ => OT.push_sl o2 [a10, a11] rfl c2 k2 1 ρ, stm _⟩
             ·exact ⟨⟨rfl,rfl,rfl, fun _=>rfl⟩, OT.push_blk o2 [a10, a11] rfl c2 k2 (fun _=>rfl), ⟨rfl,rfl,rfl, fun _=>rfl⟩, ⟨rfl,rfl,rfl, fun _=>rfl⟩, trivial⟩
            ·have hb : bit0 bits (ixF (nbU (vxX k) 5) (nbV (vxY k) 5) (nbW (vxZ k) 5)) = false := hb
             conv => whnf
             refine ⟨[0,1,2,3], [0,1,5,7,8,9,10,11,13,14,15], [1], fun vs3 => ?_⟩
             conv => whnf
             refine ⟨o2.new.1, ?_⟩
             conv => whnf
             refine ⟨_, _, ?_, ?_, ⟨(6, o2, vs3), (by decide : 6 ≤ 6), ho2.trans (faces_no (f := 5) (face_in hi hb))⟩, (by decide : 6 - 6 < 6 - 5), rfl, rfl⟩
             ·exact stm _
             ·exact ⟨⟨rfl,rfl,rfl, fun _=>rfl⟩, ⟨rfl,rfl,rfl, fun _=>rfl⟩, ⟨rfl,rfl,rfl, fun _=>rfl⟩, ⟨rfl,rfl,rfl, fun _=>rfl⟩, trivial⟩
          ·have h5 : decide (0 ≤ nbW (vxZ k) 5) = false := h5
           conv => whnf
           refine ⟨rfl, ?_⟩
           conv => whnf
           refine ⟨o2.app (app2_le hlen2), fun c2 k2 => ?_⟩
           conv => whnf
           refine ⟨[0,5,2,3], [0,1,5,7,8,9,10,11,13,14,15], [1], fun vs3 => ?_⟩
           conv => whnf
           refine ⟨pureL_append (trsC_pure o2.l) (fun _ _=>rfl), ?_⟩
           conv => whnf
           refine ⟨_, _, ?_, ?_, ⟨(6, o2.push [a10, a11] rfl c2 k2, vs3), (by decide : 6 ≤ 6), (congrArg (· ++ [a10, a11]) ho2).trans (faces_yes (f := 5) (face_out (ins5 h5)))⟩, (by decide : 6 - 6 < 6 - 5), rfl, rfl⟩
           ·exact ⟨fun _=>rfl,fun _=>rfl,fun _=>rfl,fun _=>rfl,fun _=>rfl,fun _=>rfl,fun _=>rfl,fun ρ => OT.push_sl o2 [a10, a11] rfl c2 k2 1 ρ, stm _⟩
           ·exact ⟨⟨rfl,rfl,rfl, fun _=>rfl⟩, OT.push_blk o2 [a10, a11] rfl c2 k2 (fun _=>rfl), ⟨rfl,rfl,rfl, fun _=>rfl⟩, ⟨rfl,rfl,rfl, fun _=>rfl⟩, trivial⟩
         ·have h4 : decide (nbV (vxY k) 5 < 3) = false := h4
          conv => whnf
          refine ⟨rfl, ?_⟩
          conv => whnf
          refine ⟨o2.app (app2_le hlen2), fun c2 k2 => ?_⟩
          conv => whnf
          refine ⟨[0,5,2,3], [0,1,5,7,8,9,10,11,13,14,15], [1], fun vs3 => ?_⟩
          conv => whnf
          refine ⟨pureL_append (trsC_pure o2.l) (fun _ _=>rfl), ?_⟩
          conv => whnf
          refine ⟨_, _, ?_, ?_, ⟨(6, o2.push [a10, a11] rfl c2 k2, vs3), (by decide : 6 ≤ 6), (congrArg (· ++ [a10, a11]) ho2).trans (faces_yes (f := 5) (face_out (ins4 h4)))⟩, (by decide : 6 - 6 < 6 - 5), rfl, rfl⟩
          ·exact ⟨fun _=>rfl,fun _=>rfl,fun _=>rfl,fun _=>rfl,fun _=>rfl,fun _=>rfl,fun _=>rfl,fun ρ => OT.push_sl o2 [a10, a11] rfl c2 k2 1 ρ, stm _⟩
          ·exact ⟨⟨rfl,rfl,rfl, fun _=>rfl⟩, OT.push_blk o2 [a10, a11] rfl c2 k2 (fun _=>rfl), ⟨rfl,rfl,rfl, fun _=>rfl⟩, ⟨rfl,rfl,rfl, fun _=>rfl⟩, trivial⟩
        ·have h3 : decide (0 ≤ nbV (vxY k) 5) = false := h3
         conv => whnf
         refine ⟨rfl, ?_⟩
         conv => whnf
         refine ⟨o2.app (app2_le hlen2), fun c2 k2 => ?_⟩
         conv => whnf
         refine ⟨[0,5,2,3], [0,1,5,7,8,9,10,11,13,14,15], [1], fun vs3 => ?_⟩
         conv => whnf
         refine ⟨pureL_append (trsC_pure o2.l) (fun _ _=>rfl), ?_⟩
         conv => whnf
         refine ⟨_, _, ?_, ?_, ⟨(6, o2.push [a10, a11] rfl c2 k2, vs3), (by decide : 6 ≤ 6), (congrArg (· ++ [a10, a11]) ho2).trans (faces_yes (f := 5) (face_out (ins3 h3)))⟩, (by decide : 6 - 6 < 6 - 5), rfl, rfl⟩
         ·exact ⟨fun _=>rfl,fun _=>rfl,fun _=>rfl,fun _=>rfl,fun _=>rfl,fun _=>rfl,fun _=>rfl,fun ρ => OT.push_sl o2 [a10, a11] rfl c2 k2 1 ρ, stm _⟩
         ·exact ⟨⟨rfl,rfl,rfl, fun _=>rfl⟩, OT.push_blk o2 [a10, a11] rfl c2 k2 (fun _=>rfl), ⟨rfl,rfl,rfl, fun _=>rfl⟩, ⟨rfl,rfl,rfl, fun _=>rfl⟩, trivial⟩
       ·have h2 : decide (nbU (vxX k) 5 < 3) = false := h2
        conv => whnf
        refine ⟨rfl, ?_⟩
        conv => whnf
        refine ⟨o2.app (app2_le hlen2), fun c2 k2 => ?_⟩
        conv => whnf
        refine ⟨[0,5,2,3], [0,1,5,7,8,9,10,11,13,14,15], [1], fun vs3 => ?_⟩
        conv => whnf
        refine ⟨pureL_append (trsC_pure o2.l) (fun _ _=>rfl), ?_⟩
        conv => whnf
        refine ⟨_, _, ?_, ?_, ⟨(6, o2.push [a10, a11] rfl c2 k2, vs3), (by decide : 6 ≤ 6), (congrArg (· ++ [a10, a11]) ho2).trans (faces_yes (f := 5) (face_out (ins2 h2)))⟩, (by decide : 6 - 6 < 6 - 5), rfl, rfl⟩
        ·exact ⟨fun _=>rfl,fun _=>rfl,fun _=>rfl,fun _=>rfl,fun _=>rfl,fun _=>rfl,fun _=>rfl,fun ρ => OT.push_sl o2 [a10, a11] rfl c2 k2 1 ρ, stm _⟩
        ·exact ⟨⟨rfl,rfl,rfl, fun _=>rfl⟩, OT.push_blk o2 [a10, a11] rfl c2 k2 (fun _=>rfl), ⟨rfl,rfl,rfl, fun _=>rfl⟩, ⟨rfl,rfl,rfl, fun _=>rfl⟩, trivial⟩
      ·have h1 : decide (0 ≤ nbU (vxX k) 5) = false := h1
       conv => whnf
       refine ⟨rfl, ?_⟩
       conv => whnf
       refine ⟨o2.app (app2_le hlen2), fun c2 k2 => ?_⟩
       conv => whnf
       refine ⟨[0,5,2,3], [0,1,5,7,8,9,10,11,13,14,15], [1], fun vs3 => ?_⟩
       conv => whnf
       refine ⟨pureL_append (trsC_pure o2.l) (fun _ _=>rfl), ?_⟩
       conv => whnf
       refine ⟨_, _, ?_, ?_, ⟨(6, o2.push [a10, a11] rfl c2 k2, vs3), (by decide : 6 ≤ 6), (congrArg (· ++ [a10, a11]) ho2).trans (faces_yes (f := 5) (face_out (ins1 h1)))⟩, (by decide : 6 - 6 < 6 - 5), rfl, rfl⟩
       ·exact ⟨fun _=>rfl,fun _=>rfl,fun _=>rfl,fun _=>rfl,fun _=>rfl,fun _=>rfl,fun _=>rfl,fun ρ => OT.push_sl o2 [a10, a11] rfl c2 k2 1 ρ, stm _⟩
       ·exact ⟨⟨rfl,rfl,rfl, fun _=>rfl⟩, OT.push_blk o2 [a10, a11] rfl c2 k2 (fun _=>rfl), ⟨rfl,rfl,rfl, fun _=>rfl⟩, ⟨rfl,rfl,rfl, fun _=>rfl⟩, trivial⟩
  ·have hk27 : k = 27 := Nat.le_antisymm hk (k_ge hge)
   subst hk27
   conv => whnf
   refine ⟨[1], [0], fun vs3 => ?_⟩
   conv => whnf
   refine ⟨o.new.1, ?_⟩
   conv => whnf
   exact ⟨_, [o.blk], rfl, ⟨⟨rfl,rfl,rfl, fun _=>rfl⟩, trivial⟩, ⟨o.new, trivial⟩, o.sl 0, fun _=>rfl,hc o ho⟩
end Go.Proofs.YtefgchmbdijjdaaGreatDoor

namespace Go.Proofs.YtefgchmbdijjdaaGreatDoor
open Go.RowKit
set_option maxRecDepth 100000

structure ZI where
 x : Int
 hx : IR x
def intsC : List ZI → List C
 | [] => []
 | z :: l => .int z.x z.hx :: intsC l
theorem intsC_pure : ∀ l : List ZI, PureL (intsC l)
 | [] => fun _ _=>rfl
 | z :: l => fun ρ ρ' => by
  have h := intsC_pure l ρ ρ'
  rw [intsC, List.flatMap_cons, List.flatMap_cons, h]; rfl
theorem intsC_size : ∀ l : List ZI, sizeC (intsC l) = l.length
 | [] => rfl
 | z :: l => by rw [intsC, List.length_cons, ← intsC_size l]; show 1 + _ = _; omega
theorem intsC_append : ∀ a b : List ZI, intsC (a ++ b) = intsC a ++ intsC b
 | [], _ => rfl
 | z :: l, b => by rw [List.cons_append, intsC, intsC_append l b]; rfl
theorem subC_ints (l : List ZI) {k : Nat} (hk : k < l.length) : subC (intsC l) (0 + k * 1) 1 = some [.int l[k].x l[k].hx] := by
 have e : intsC l = intsC (l.take k) ++ ([.int l[k].x l[k].hx] ++ intsC (l.drop (k + 1))) := by
  have h : l = l.take k ++ (l[k] :: l.drop (k + 1)) := by rw [← List.drop_eq_getElem_cons hk, List.take_append_drop]
  rw [show intsC l = intsC (l.take k ++ (l[k] :: l.drop (k + 1))) by rw [← h], intsC_append]
  rfl
 have s : sizeC (intsC (l.take k)) = 0 + k * 1 := by rw [intsC_size]; simp; omega
 rw [e, ← s]
 exact subC_app _ [.int l[k].x l[k].hx] _
theorem ir8 {k : Nat} (h : k ≤ 8) : IR k := by unfold IR; omega
theorem len_neg {len : Nat} (h : decide (0 < (len : Int)) = false) : ¬ 0 < len := by have := of_decide_eq_false h; omega
theorem wrap_s {k : Nat} (hk : k ≤ 7) : IntKind.i64.wrap ((k : Int) + 1) = ((k + 1 : Nat) : Int) := wrap_add1 (show k < 8 by omega) (ir8 (Nat.le_refl 8))
def hM (n : Int) : Nat := (1 + n % 6).toNat
theorem pt3 {x y z : Int} {hx : IR x} {hy : IR y} {hz : IR z} {p : PT} (e1 : x = p.x) (e2 : y = p.y) (e3 : z = p.z) : SameV (.agg [.int x hx, .int y hy, .int z hz]) (.agg (ptC p)) := by
 cases p; simp only at e1 e2 e3; subst e1 e2 e3; exact fun _=>rfl
theorem hill_ix {x y : Nat} (hx : x ≤ 8) (hy : y ≤ 8) {n : Nat} : (IntKind.i64.wrap (IntKind.i64.wrap ((y : Int) * 7) + (x : Int))).tmod (n : Int) = (((y * 7 + x) % n : Nat) : Int) := by
 rw [wrap_id (z := (y : Int) * 7) (by unfold IR; omega), wrap_id (by unfold IR; omega), show (y : Int) * 7 + x = ((y * 7 + x : Nat) : Int) by omega]
 rfl
theorem pt_mk {x y z : Int} {hx : IR x} {hy : IR y} {hz : IR z} : SameV (.agg [.int x hx, .int y hy, .int z hz]) (.agg (ptC ⟨x, y, z, hx, hy, hz⟩)) := fun _=>rfl
noncomputable def modF : FuncId → Option Func := lk [(12, Tryz.f12)]
theorem modF_ok : ∀ f fn, modF f = some fn → FnOk Tryz.prog f fn := lkF_ok fun x hx => by
 simp only [List.mem_cons, List.not_mem_nil, or_false] at hx
 subst hx
 ·exact ⟨Tryz.func12, by kernel_rfl, by kernel_rfl⟩
def hillsD : List (FuncId × NewC) := shapeD
theorem hillsD_ok : AllC Tryz.prog hillsD := shapeD_ok
theorem hM_eq (n : Int) : IntKind.i64.wrap (1 + (IntKind.i64.wrap (n.tmod 6 + 6)).tmod 6) = (hM n : Nat) ∧ hM n ≤ 6 := by
 have h1 : -6 < n.tmod 6 := Int.lt_tmod_of_pos n (by decide)
 have h2 : n.tmod 6 < 6 := Int.tmod_lt_of_pos n (by decide)
 rw [wrap_id (z := n.tmod 6 + 6) (by unfold IR; omega)]
 have h3 : 0 ≤ (n.tmod 6 + 6).tmod 6 := Int.tmod_nonneg _ (by omega)
 have h4 : (n.tmod 6 + 6).tmod 6 < 6 := Int.tmod_lt_of_pos _ (by decide)
 have h5 : (n.tmod 6 + 6).tmod 6 = n % 6 := by
  rw [Int.tmod_eq_emod_of_nonneg (by omega), Int.add_emod_right, Int.tmod_def, Int.sub_mul_emod_self_left]
 rw [wrap_id (by unfold IR; omega), h5]
 unfold hM
 omega
theorem push_eq {o : OT} {A B : List TR} {m : List TR} (h : o.l = A ++ B) : o.l ++ m = A ++ (B ++ m) := by rw [h, List.append_assoc]
theorem app2_h {y x n m : Nat} (h : n ≤ 12 * y + 2 * x) (hm : m = 2) (hy : y ≤ 8) (hx : x ≤ 8) : (n + m) * 9 ≤ 5000000000000 := by omega
end Go.Proofs.YtefgchmbdijjdaaGreatDoor

namespace Go.Proofs.YtefgchmbdijjdaaGreatDoor
open Go.RowKit
set_option maxRecDepth 100000

def makeD : List (FuncId × NewC) := [(25, cVoxD)]
theorem makeD_ok : AllC Tryz.prog makeD := .cons csVoxD <| .nil
theorem min30 (n : Nat) : minI (n : Int) 30 = ((min n 30 : Nat) : Int) := by unfold minI; split <;> omega
theorem sliOk_le {nl : Bool} {len cap k : Nat} (h : SliOk nl len cap) (hk : k ≤ len) : SliOk nl k cap := ⟨Nat.le_trans hk h.1, h.2.1, h.2.2⟩
end Go.Proofs.YtefgchmbdijjdaaGreatDoor
