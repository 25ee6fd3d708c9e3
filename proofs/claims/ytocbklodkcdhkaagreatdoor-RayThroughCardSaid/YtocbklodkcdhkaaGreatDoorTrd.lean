/- Lists of triangles that functions make: quad, cube, by the reckoner. quad and cube: which triangles they make, by the reckoner. Voxels: which triangles it makes, by the reckoner. Hills: which triangles it makes, by the reckoner. shape: which triangles it makes, by the reckoner. -/
import Derived.Test.YtocbklodkcdhkaaGreatDoorBas
namespace Go.Proofs.YtocbklodkcdhkaaGreatDoor
open Go.RowKit
set_option maxRecDepth 100000

/-- a list of triangles of the call's own -/
structure OT where
  l : List TR
  nl : Bool
  cap : Nat
  ok : SliOk nl l.length cap
def OT.sl (o : OT) (b : Nat) : SV := .c (.sli o.nl b 0 o.l.length o.cap o.ok)
def OT.blk (o : OT) : Blk := ⟨38, o.nl, trsC o.l, (o.cap - o.l.length) * 9⟩
def OT.none : OT := ⟨[], true, 0, by unfold SliOk; decide⟩
theorem OT.new (o : OT) : NewB o.blk := by
  refine ⟨trsC_pure o.l, ?_⟩
  cases h : o.nl with
  | false => exact .inl h
  | true =>
    right
    have h1 := o.ok.1; have h2 := o.ok.2.2 h
    have : o.l = [] := List.eq_nil_of_length_eq_zero (by omega)
    unfold OT.blk Blk.void
    rw [h, this]; rfl
theorem OT.app (o : OT) {m : Nat} (hm : (o.l.length + m) * 9 ≤ 5000000000000) : o.blk.ty = 38 ∧ o.blk.ro = o.nl ∧ sizeC o.blk.cs = o.l.length * 9 ∧ (o.nl = false → sizeC o.blk.cs + o.blk.tl = o.cap * 9) ∧ (o.l.length + m) * 9 ≤ 5000000000000 := by
  have h1 : sizeC o.blk.cs = o.l.length * 9 := by show sizeC (trsC o.l) = _; rw [trsC_size]; omega
  refine ⟨rfl, rfl, h1, fun _ => ?_, hm⟩
  rw [h1]
  show o.l.length * 9 + (o.cap - o.l.length) * 9 = o.cap * 9
  have := o.ok.1
  omega
def OT.push (o : OT) (m : List TR) {n : Nat} (hn : m.length = n) (cap2 : Nat) (h2 : SliOk (o.nl && decide (n = 0)) (o.l.length + n) cap2) : OT := ⟨o.l ++ m, o.nl && decide (n = 0), cap2, by rw [List.length_append, hn]; exact h2⟩
theorem OT.push_sl (o : OT) (m : List TR) {n : Nat} (hn : m.length = n) (cap2 : Nat) (h2 : SliOk (o.nl && decide (n = 0)) (o.l.length + n) cap2) (b : Nat) (ρ : Rho) : (SV.c (.sli (o.nl && decide (n = 0)) b 0 (o.l.length + n) cap2 h2)).den ρ = ((o.push m hn cap2 h2).sl b).den ρ := by
  simp only [OT.sl, OT.push, SV.den, C.den, C.cells, List.length_append, hn]
theorem OT.push_blk (o : OT) (m : List TR) {n : Nat} (hn : m.length = n) (cap2 : Nat) (h2 : SliOk (o.nl && decide (n = 0)) (o.l.length + n) cap2) {cs : List C} (hcs : ∀ ρ, cellsL ρ cs = cellsL ρ (trsC m)) :
    38 = (o.push m hn cap2 h2).blk.ty ∧ (o.nl && decide (n = 0)) = (o.push m hn cap2 h2).blk.ro ∧ (cap2 - (o.l.length + n)) * 9 = (o.push m hn cap2 h2).blk.tl ∧ ∀ ρ, cellsL ρ (trsC o.l ++ cs) = cellsL ρ (o.push m hn cap2 h2).blk.cs := by
  refine ⟨rfl, rfl, ?_, fun ρ => ?_⟩
  · simp only [OT.push, OT.blk, List.length_append, hn]
  · show _ = cellsL ρ (trsC (o.l ++ m))
    rw [trsC_append, cellsL_append, cellsL_append, hcs]
theorem subC_trs_all (l : List TR) : subC (trsC l) 0 (l.length * 9) = some (trsC l) := by
  have h := subC_app [] (trsC l) []
  rw [trsC_size, List.append_nil, List.nil_append, Nat.mul_comm] at h
  exact h
theorem OT.src (o : OT) : subC o.blk.cs 0 (o.l.length * 9) = some (trsC o.l) := subC_trs_all o.l
theorem len_cons {α : Type} {l : List α} {n : Nat} (h : l.length = n + 1) : ∃ a m, l = a :: m ∧ m.length = n := by
  cases l with
  | nil => cases h
  | cons a m => exact ⟨a, m, rfl, by simpa using h⟩
theorem len12 {l : List TR} (h : l.length = 12) : ∃ a b c d e f g i j k m n, l = [a, b, c, d, e, f, g, i, j, k, m, n] := by
  obtain ⟨a0, l0, rfl, h0⟩ := len_cons h
  obtain ⟨a1, l1, rfl, h1⟩ := len_cons h0
  obtain ⟨a2, l2, rfl, h2⟩ := len_cons h1
  obtain ⟨a3, l3, rfl, h3⟩ := len_cons h2
  obtain ⟨a4, l4, rfl, h4⟩ := len_cons h3
  obtain ⟨a5, l5, rfl, h5⟩ := len_cons h4
  obtain ⟨a6, l6, rfl, h6⟩ := len_cons h5
  obtain ⟨a7, l7, rfl, h7⟩ := len_cons h6
  obtain ⟨a8, l8, rfl, h8⟩ := len_cons h7
  obtain ⟨a9, l9, rfl, h9⟩ := len_cons h8
  obtain ⟨a10, l10, rfl, h10⟩ := len_cons h9
  obtain ⟨a11, l11, rfl, h11⟩ := len_cons h10
  have := List.eq_nil_of_length_eq_zero h11
  subst this
  exact ⟨a0, a1, a2, a3, a4, a5, a6, a7, a8, a9, a10, a11, rfl⟩
end Go.Proofs.YtocbklodkcdhkaaGreatDoor

namespace Go.Proofs.YtocbklodkcdhkaaGreatDoor
open Go.RowKit
set_option maxRecDepth 100000

def toPt : SV → Option PT
 | .agg [.int x hx, .int y hy, .int z hz] => some ⟨x, y, z, hx, hy, hz⟩
 | _ => none
theorem toPt_eq {v : SV} {p : PT} (h : toPt v = some p) : v = .agg (ptC p) := by
 unfold toPt at h
 split at h
 ·cases h; rfl
 ·cases h
structure SI where
 n : Int
 h : IR n
def toSI : SV → Option SI
 | .c (.int n h) => some ⟨n, h⟩
 | _ => none
theorem toSI_eq {v : SV} {s : SI} (h : toSI v = some s) : v = .c (.int s.n s.h) := by
 unfold toSI at h
 split at h
 ·cases h; rfl
 ·cases h
def quadL (a b c d : PT) : List TR := [⟨a, b, c⟩, ⟨a, c, d⟩]
def cQuadD : NewC := fun args ros K => ∃ a b c d p1 p2 p3 p4, args = [a, b, c, d] ∧ toPt a = some p1 ∧ toPt b = some p2 ∧ toPt c = some p3 ∧ toPt d = some p4 ∧ ros = [] ∧ ∀ o : OT, o.l = quadL p1 p2 p3 p4 → K (o.sl 0) [o.blk]
theorem csQuadD : CSp Tryz.prog 36 cQuadD := csp_of (env_ok base_ok 20) mixed (inl_ok (env_ok base_ok 20) mixed noF_ok 0) ⟨Tryz.func36, by kernel_rfl, by kernel_rfl⟩ fun args ros K hc => by
 obtain ⟨_, _, _, _, p1, p2, p3, p4, rfl, h1, h2, h3, h4, rfl, hc⟩ := hc
 obtain rfl := toPt_eq h1
 obtain rfl := toPt_eq h2
 obtain rfl := toPt_eq h3
 obtain rfl := toPt_eq h4
 refine ⟨fun _ _ _ => rfl, ?_⟩
 conv => whnf
 refine ⟨[4], [], fun vs => ?_⟩
 conv => whnf
 exact ⟨_, [(OT.mk (quadL p1 p2 p3 p4) false 2 (by unfold SliOk; simp [quadL])).blk], rfl, ⟨⟨rfl,rfl,rfl, fun _=>rfl⟩, trivial⟩, ⟨OT.new _, trivial⟩, OT.sl (OT.mk (quadL p1 p2 p3 p4) false 2 (by unfold SliOk; simp [quadL])) 0, fun _=>rfl,hc _ rfl⟩
def crn (p : PT) (s : Int) (n : Nat) : PT := ⟨IntKind.i64.wrap (p.x + IntKind.i64.wrap (((n % 2 : Nat) : Int) * s)), IntKind.i64.wrap (p.y + IntKind.i64.wrap (((n / 2 % 2 : Nat) : Int) * s)), IntKind.i64.wrap (p.z + IntKind.i64.wrap (((n / 4 : Nat) : Int) * s)), IR.wrap _, IR.wrap _, IR.wrap _⟩
def cubeL (p : PT) (s : Int) : List TR := quadL (crn p s 0) (crn p s 2) (crn p s 3) (crn p s 1) ++ quadL (crn p s 4) (crn p s 5) (crn p s 7) (crn p s 6) ++ quadL (crn p s 0) (crn p s 1) (crn p s 5) (crn p s 4) ++ quadL (crn p s 2) (crn p s 6) (crn p s 7) (crn p s 3) ++ quadL (crn p s 0) (crn p s 4) (crn p s 6) (crn p s 2) ++ quadL (crn p s 1) (crn p s 3) (crn p s 7) (crn p s 5)
def cCubeD : NewC := fun args ros K => ∃ a b p s, args = [a, b] ∧ toPt a = some p ∧ toSI b = some s ∧ ros = [] ∧ ∀ o : OT, o.l = cubeL p s.n → K (o.sl 0) [o.blk]
def shapeD : List (FuncId × NewC) := [(36, cQuadD)]
theorem shapeD_ok : AllC Tryz.prog shapeD := .cons csQuadD .nil
set_option maxHeartbeats 8000000 in
theorem csCubeD : CSp Tryz.prog 37 cCubeD := csp_of (env_ok base_ok 20) mixed (hnew_ok shapeD_ok (inl_ok (env_ok base_ok 20) mixed noF_ok 0)) ⟨Tryz.func37, by kernel_rfl, by kernel_rfl⟩ fun args ros K hc => by
 obtain ⟨_, _, p, ⟨s, hs⟩, rfl, h1, h2, rfl, hc⟩ := hc
 obtain rfl := toPt_eq h1
 obtain rfl := toSI_eq h2
 refine ⟨fun _ _ _ => rfl, ?_⟩
 conv => whnf
 refine ⟨fun _ _=>rfl,?_⟩
 conv => whnf
 refine ⟨fun _ _=>rfl,?_⟩
 conv => whnf
 refine ⟨fun _ _=>rfl,?_⟩
 conv => whnf
 refine ⟨fun _ _=>rfl,?_⟩
 conv => whnf
 refine ⟨trivial, ⟨_, _, _, _, _, _, _, _, rfl,rfl,rfl,rfl,rfl,rfl,?_⟩⟩
 intro o1 e1
 have l1 : o1.l.length = 2 := by rw [e1]; rfl
 conv => whnf
 refine ⟨fun _ _=>rfl,?_⟩
 conv => whnf
 refine ⟨fun _ _=>rfl,?_⟩
 conv => whnf
 refine ⟨fun _ _=>rfl,?_⟩
 conv => whnf
 refine ⟨fun _ _=>rfl,?_⟩
 conv => whnf
 refine ⟨trivial, ⟨_, _, _, _, _, _, _, _, rfl,rfl,rfl,rfl,rfl,rfl,?_⟩⟩
 intro o2 e2
 have l2 : o2.l.length = 2 := by rw [e2]; rfl
 conv => whnf
 rw [o2.src]
 conv => whnf
 refine ⟨allOne_trs _, ?_⟩
 conv => whnf
 refine ⟨o1.app (by omega), fun c2 k2 => ?_⟩
 conv => whnf
 refine ⟨fun _ _=>rfl,?_⟩
 conv => whnf
 refine ⟨fun _ _=>rfl,?_⟩
 conv => whnf
 refine ⟨fun _ _=>rfl,?_⟩
 conv => whnf
 refine ⟨fun _ _=>rfl,?_⟩
 conv => whnf
 refine ⟨trivial, ⟨_, _, _, _, _, _, _, _, rfl,rfl,rfl,rfl,rfl,rfl,?_⟩⟩
 intro o3 e3
 have l3 : o3.l.length = 2 := by rw [e3]; rfl
 conv => whnf
 rw [o3.src]
 conv => whnf
 refine ⟨allOne_trs _, ?_⟩
 conv => whnf
 refine ⟨⟨rfl,rfl,by simp only [sizeC_append, trsC_size]; omega, fun _ => by have := k2.1; simp only [sizeC_append, trsC_size]; omega, by omega⟩, fun c3 k3 => ?_⟩
 conv => whnf
 refine ⟨fun _ _=>rfl,?_⟩
 conv => whnf
 refine ⟨fun _ _=>rfl,?_⟩
 conv => whnf
 refine ⟨fun _ _=>rfl,?_⟩
 conv => whnf
 refine ⟨fun _ _=>rfl,?_⟩
 conv => whnf
 refine ⟨trivial, ⟨_, _, _, _, _, _, _, _, rfl,rfl,rfl,rfl,rfl,rfl,?_⟩⟩
 intro o4 e4
 have l4 : o4.l.length = 2 := by rw [e4]; rfl
 conv => whnf
 rw [o4.src]
 conv => whnf
 refine ⟨allOne_trs _, ?_⟩
 conv => whnf
 refine ⟨⟨rfl,rfl,by simp only [sizeC_append, trsC_size]; omega, fun _ => by have := k3.1; simp only [sizeC_append, trsC_size]; omega, by omega⟩, fun c4 k4 => ?_⟩
 conv => whnf
 refine ⟨fun _ _=>rfl,?_⟩
 conv => whnf
 refine ⟨fun _ _=>rfl,?_⟩
 conv => whnf
 refine ⟨fun _ _=>rfl,?_⟩
 conv => whnf
 refine ⟨fun _ _=>rfl,?_⟩
 conv => whnf
 refine ⟨trivial, ⟨_, _, _, _, _, _, _, _, rfl,rfl,rfl,rfl,rfl,rfl,?_⟩⟩
 intro o5 e5
 have l5 : o5.l.length = 2 := by rw [e5]; rfl
 conv => whnf
 rw [o5.src]
 conv => whnf
 refine ⟨allOne_trs _, ?_⟩
 conv => whnf
 refine ⟨⟨rfl,rfl,by simp only [sizeC_append, trsC_size]; omega, fun _ => by have := k4.1; simp only [sizeC_append, trsC_size]; omega, by omega⟩, fun c5 k5 => ?_⟩
 conv => whnf
 refine ⟨fun _ _=>rfl,?_⟩
 conv => whnf
 refine ⟨fun _ _=>rfl,?_⟩
 conv => whnf
 refine ⟨fun _ _=>rfl,?_⟩
 conv => whnf
 refine ⟨fun _ _=>rfl,?_⟩
 conv => whnf
 refine ⟨trivial, ⟨_, _, _, _, _, _, _, _, rfl,rfl,rfl,rfl,rfl,rfl,?_⟩⟩
 intro o6 e6
 have l6 : o6.l.length = 2 := by rw [e6]; rfl
 conv => whnf
 rw [o6.src]
 conv => whnf
 refine ⟨allOne_trs _, ?_⟩
 conv => whnf
 refine ⟨⟨rfl,rfl,by simp only [sizeC_append, trsC_size]; omega, fun _ => by have := k5.1; simp only [sizeC_append, trsC_size]; omega, by omega⟩, fun c6 k6 => ?_⟩
 conv => whnf
 refine ⟨[12], [0], fun vs => ?_⟩
 conv => whnf
 refine ⟨pureL_append (pureL_append (pureL_append (pureL_append (pureL_append (trsC_pure _) (trsC_pure _)) (trsC_pure _)) (trsC_pure _)) (trsC_pure _)) (trsC_pure _), ?_⟩
 conv => whnf
 have h6 : SliOk (o1.nl && decide (o2.l.length = 0) && decide (o3.l.length = 0) && decide (o4.l.length = 0) && decide (o5.l.length = 0) && decide (o6.l.length = 0)) (o1.l ++ o2.l ++ o3.l ++ o4.l ++ o5.l ++ o6.l).length c6 := by
  simp only [List.length_append]; exact k6
 refine ⟨_, [(OT.mk _ _ c6 h6).blk], rfl, ⟨⟨rfl,rfl,?_, fun ρ => ?_⟩, trivial⟩, ⟨OT.new _, trivial⟩, (OT.mk _ _ c6 h6).sl 0, fun ρ => ?_, hc _ ?_⟩
 ·simp only [OT.blk, List.length_append]
 ·simp only [OT.blk, trsC_append]
 ·simp only [OT.sl, SV.den, C.den, C.cells, List.length_append]
 ·show o1.l ++ o2.l ++ o3.l ++ o4.l ++ o5.l ++ o6.l = _
  rw [e1, e2, e3, e4, e5, e6]
  rfl
end Go.Proofs.YtocbklodkcdhkaaGreatDoor

namespace Go.Proofs.YtocbklodkcdhkaaGreatDoor
open Go.RowKit
set_option maxRecDepth 100000

theorem eff_shr {T : TypeId → Option TI} {op : Op} {ev : Operand → SV} {hp : Nat → Option Blk} {t yt : TypeId} {x y : Operand} (ho : op = .binOp .shr t x y yt) {a : Int} {ha : IR a} (hx : ev x = .c (.int a ha)) {k : IntKind} {b : Int} (hy : ev y = .c (.val (.int k b))) (hb : 0 ≤ b) :
  eff T op ev hp = some (.val (.c (.int (a.fdiv (2 ^ (min b.toNat 64))) (ha.fdiv _)))) := by
 subst ho
 simp only [eff, hx, hy, binS]
 rw [if_neg (by omega)]
theorem u64_wrap_nonneg (z : Int) : 0 ≤ IntKind.u64.wrap z := by
 simp [IntKind.wrap, IntKind.bits, IntKind.signed]; omega
def bit0 (b i : Int) : Bool := decide (IntKind.i64.wrap (((BitVec.ofInt 64 (b.fdiv (2 ^ (min (IntKind.u64.wrap i).toNat 64))) &&& BitVec.ofInt 64 1).toNat : Nat) : Int) = 0)
def dirF : Nat → Int × Int × Int
 | 0 => (0, 0, -1)
 | 1 => (0, 0, 1)
 | 2 => (0, -1, 0)
 | 3 => (0, 1, 0)
 | 4 => (-1, 0, 0)
 | _ => (1, 0, 0)
def insB (u v w : Int) : Bool := decide (0 ≤ u) && (decide (u < 3) && (decide (0 ≤ v) && (decide (v < 3) && (decide (0 ≤ w) && decide (w < 3)))))
def ixF (u v w : Int) : Int := IntKind.i64.wrap (IntKind.i64.wrap (IntKind.i64.wrap (IntKind.i64.wrap (w * 3) + v) * 3) + u)
def nbU (x : Int) (f : Nat) : Int := IntKind.i64.wrap (x + (dirF f).1)
def nbV (y : Int) (f : Nat) : Int := IntKind.i64.wrap (y + (dirF f).2.1)
def nbW (z : Int) (f : Nat) : Int := IntKind.i64.wrap (z + (dirF f).2.2)
def faceB (b x y z : Int) (f : Nat) : Bool := !insB (nbU x f) (nbV y f) (nbW z f) || bit0 b (ixF (nbU x f) (nbV y f) (nbW z f))
def triD (l : List TR) (i : Nat) : TR := (l[i]?).getD ⟨⟨0, 0, 0, by decide, by decide, by decide⟩, ⟨0, 0, 0, by decide, by decide, by decide⟩, ⟨0, 0, 0, by decide, by decide, by decide⟩⟩
def facesL (b : Int) (C : List TR) (x y z : Int) : Nat → List TR
 | 0 => []
 | f + 1 => facesL b C x y z f ++ (if faceB b x y z f = true then [triD C (2 * f), triD C (2 * f + 1)] else [])
def vxX (k : Nat) : Int := (k : Int).tmod 3
def vxY (k : Nat) : Int := (IntKind.i64.wrap ((k : Int).tdiv 3)).tmod 3
def vxZ (k : Nat) : Int := IntKind.i64.wrap ((k : Int).tdiv 9)
def voxP (p : PT) (s : Int) (k : Nat) : PT := ⟨IntKind.i64.wrap (p.x + IntKind.i64.wrap (vxX k * s)), IntKind.i64.wrap (p.y + IntKind.i64.wrap (vxY k * s)), IntKind.i64.wrap (p.z + IntKind.i64.wrap (vxZ k * s)), IR.wrap _, IR.wrap _, IR.wrap _⟩
def voxL (b s : Int) (p : PT) : Nat → List TR
 | 0 => []
 | k + 1 => voxL b s p k ++ (if bit0 b k = true then [] else facesL b (cubeL (voxP p s k) s) (vxX k) (vxY k) (vxZ k) 6)
theorem facesL_len (b : Int) (C : List TR) (x y z : Int) : ∀ f, (facesL b C x y z f).length ≤ 2 * f
 | 0 => Nat.le_refl _
 | f + 1 => by
  have := facesL_len b C x y z f
  unfold facesL; rw [List.length_append]; split <;> simp <;> omega
theorem voxL_len (b s : Int) (p : PT) : ∀ k, (voxL b s p k).length ≤ 12 * k
 | 0 => Nat.le_refl _
 | k + 1 => by
  have := voxL_len b s p k
  have h := facesL_len b (cubeL (voxP p s k) s) (vxX k) (vxY k) (vxZ k) 6
  unfold voxL; rw [List.length_append]; split
  ·simp; omega
  ·omega
theorem voxL_skip {b s : Int} {p : PT} {k : Nat} (h : bit0 b k = true) : voxL b s p k = voxL b s p (k + 1) := by
 conv => rhs; unfold voxL
 rw [if_pos h, List.append_nil]
theorem voxL_take {b s : Int} {p : PT} {k : Nat} (h : bit0 b k = false) : voxL b s p k ++ facesL b (cubeL (voxP p s k) s) (vxX k) (vxY k) (vxZ k) 6 = voxL b s p (k + 1) := by
 conv => rhs; unfold voxL
 rw [if_neg (by rw [h]; decide)]
theorem faces_yes {b x y z : Int} {C : List TR} {f : Nat} {V : List TR} (h : faceB b x y z f = true) : V ++ facesL b C x y z f ++ [triD C (2 * f), triD C (2 * f + 1)] = V ++ facesL b C x y z (f + 1) := by
 conv => rhs; unfold facesL
 rw [if_pos h, List.append_assoc]
theorem faces_no {b x y z : Int} {C : List TR} {f : Nat} {V : List TR} (h : faceB b x y z f = false) : V ++ facesL b C x y z f = V ++ facesL b C x y z (f + 1) := by
 conv => rhs; unfold facesL
 rw [if_neg (by rw [h]; decide), List.append_nil]
theorem face_out {b x y z : Int} {f : Nat} (h : insB (nbU x f) (nbV y f) (nbW z f) = false) : faceB b x y z f = true := by unfold faceB; rw [h]; rfl
theorem face_in {b x y z : Int} {f : Nat} (h : insB (nbU x f) (nbV y f) (nbW z f) = true) {c : Bool} (hb : bit0 b (ixF (nbU x f) (nbV y f) (nbW z f)) = c) : faceB b x y z f = c := by unfold faceB; rw [h, hb]; rfl
section
variable {u v w : Int}
theorem ins1 (h : decide (0 ≤ u) = false) : insB u v w = false := by unfold insB; rw [h]; rfl
theorem ins2 (h : decide (u < 3) = false) : insB u v w = false := by unfold insB; rw [h]; simp
theorem ins3 (h : decide (0 ≤ v) = false) : insB u v w = false := by unfold insB; rw [h]; simp
theorem ins4 (h : decide (v < 3) = false) : insB u v w = false := by unfold insB; rw [h]; simp
theorem ins5 (h : decide (0 ≤ w) = false) : insB u v w = false := by unfold insB; rw [h]; simp
theorem ins6 (h : decide (w < 3) = false) : insB u v w = false := by unfold insB; rw [h]; simp
theorem ins7 (h1 : decide (0 ≤ u) = true) (h2 : decide (u < 3) = true) (h3 : decide (0 ≤ v) = true) (h4 : decide (v < 3) = true) (h5 : decide (0 ≤ w) = true) (h6 : decide (w < 3) = true) : insB u v w = true := by unfold insB; rw [h1, h2, h3, h4, h5, h6]; rfl
end
theorem ir_le {k : Nat} (h : k ≤ 27) : IR k := by unfold IR; omega
theorem k_lt {k : Nat} (h : decide ((k : Int) < 27) = true) : k < 27 := by have := of_decide_eq_true h; omega
theorem k_ge {k : Nat} (h : decide ((k : Int) < 27) = false) : 27 ≤ k := by have := of_decide_eq_false h; omega
theorem ir_6 {k : Nat} (h : k ≤ 6) : IR k := by unfold IR; omega
theorem app2_le {n : Nat} (h : n ≤ 400) : (n + 2) * 9 ≤ 5000000000000 := by omega
theorem nb_f {b : Bool} (h : (!(bif true then b else false)) = true) : b = false := by simpa using h
theorem nb_t {b : Bool} (h : (!(bif true then b else false)) = false) : b = true := by simpa using h
def cubeD2 : List (FuncId × NewC) := (37, cCubeD) :: shapeD
theorem cubeD2_ok : AllC Tryz.prog cubeD2 := .cons csCubeD shapeD_ok
def cVoxD : NewC := fun args ros K => ∃ a b c bi s p, args = [a, b, c] ∧ toSI a = some bi ∧ toSI b = some s ∧ toPt c = some p ∧ ros = [] ∧ ∀ o : OT, o.l = voxL bi.n s.n p 27 → K (o.sl 0) [o.blk]
set_option maxHeartbeats 40000000 in
theorem csVoxD : CSp Tryz.prog 15 cVoxD := csp_of (env_ok base_ok 0) mixed (hnew_ok cubeD2_ok (inl_ok (env_ok base_ok 20) mixed noF_ok 0)) ⟨Tryz.func15, by kernel_rfl, by kernel_rfl⟩ fun args ros K hc => by
 obtain ⟨_, _, _, ⟨bits, hb⟩, ⟨step, hs⟩, p, rfl, h1, h2, h3, rfl, hc⟩ := hc
 obtain rfl := toSI_eq h1
 obtain rfl := toSI_eq h2
 obtain rfl := toPt_eq h3
 refine ⟨fun _ _ _ => rfl, ?_⟩
 conv => whnf
 refine loop_st (G := {g : Nat × OT × (Nat → Value) // g.1 ≤ 27 ∧ g.2.1.l = voxL bits step p g.1}) (fun g => (.c (.int bits hb) :: .c (.int step hs) :: .c (.val (g.1.2.2 2)) :: .c (.val (g.1.2.2 3)) :: .c (.val (g.1.2.2 4)) :: .c (.ptr 0 0) :: .c (.val (g.1.2.2 6)) :: g.1.2.1.sl 1 :: .c (.int (g.1.1 : Nat) (ir_le g.2.1)) :: .c (.val (g.1.2.2 9)) :: .c (.val (g.1.2.2 10)) :: .c (.val (g.1.2.2 11)) :: .c (.val (g.1.2.2 12)) :: .c (.val (g.1.2.2 13)) :: .c (.val (g.1.2.2 14)) :: .c (.val (g.1.2.2 15)) :: .c (.val (g.1.2.2 16)) :: .c (.val (g.1.2.2 17)) :: .c (.val (g.1.2.2 18)) :: .c (.val (g.1.2.2 19)) :: .c (.val (g.1.2.2 20)) :: .c (.val (g.1.2.2 21)) :: .c (.val (g.1.2.2 22)) :: .c (.val (g.1.2.2 23)) :: .c (.val (g.1.2.2 24)) :: .c (.val (g.1.2.2 25)) :: .c (.val (g.1.2.2 26)) :: .c (.val (g.1.2.2 27)) :: .c (.val (g.1.2.2 28)) :: .c (.val (g.1.2.2 29)) :: .c (.val (g.1.2.2 30)) :: .c (.val (g.1.2.2 31)) :: .c (.val (g.1.2.2 32)) :: .c (.val (g.1.2.2 33)) :: .c (.val (g.1.2.2 34)) :: .c (.val (g.1.2.2 35)) :: .c (.val (g.1.2.2 36)) :: .c (.val (g.1.2.2 37)) :: .c (.val (g.1.2.2 38)) :: .c (.val (g.1.2.2 39)) :: .c (.val (g.1.2.2 40)) :: .c (.val (g.1.2.2 41)) :: .c (.val (g.1.2.2 42)) :: .c (.val (g.1.2.2 43)) :: .c (.val (g.1.2.2 44)) :: .c (.val (g.1.2.2 45)) :: .c (.val (g.1.2.2 46)) :: .c (.val (g.1.2.2 47)) :: .c (.val (g.1.2.2 48)) :: .c (.val (g.1.2.2 49)) :: .c (.val (g.1.2.2 50)) :: .c (.val (g.1.2.2 51)) :: .c (.val (g.1.2.2 52)) :: .c (.val (g.1.2.2 53)) :: .c (.val (g.1.2.2 54)) :: .c (.val (g.1.2.2 55)) :: .c (.val (g.1.2.2 56)) :: .c (.val (g.1.2.2 57)) :: .c (.val (g.1.2.2 58)) :: .c (.val (g.1.2.2 59)) :: .c (.val (g.1.2.2 60)) :: .c (.val (g.1.2.2 61)) :: .c (.val (g.1.2.2 62)) :: .c (.val (g.1.2.2 63)) :: .c (.val (g.1.2.2 64)) :: .c (.val (g.1.2.2 65)) :: .c (.val (g.1.2.2 66)) :: .c (.val (g.1.2.2 67)) :: .c (.val (g.1.2.2 68)) :: .c (.val (g.1.2.2 69)) :: .c (.val (g.1.2.2 70)) :: .c (.val (g.1.2.2 71)) :: .c (.val (g.1.2.2 72)) :: .c (.val (g.1.2.2 73)) :: .c (.val (g.1.2.2 74)) :: .c (.val (g.1.2.2 75)) :: .c (.val (g.1.2.2 76)) :: .c (.val (g.1.2.2 77)) :: .c (.val (g.1.2.2 78)) :: .c (.val (g.1.2.2 79)) :: .c (.val (g.1.2.2 80)) :: .c (.val (g.1.2.2 81)) :: .c (.val (g.1.2.2 82)) :: .c (.val (g.1.2.2 83)) :: .c (.val (g.1.2.2 84)) :: .c (.val (g.1.2.2 85)) :: .c (.val (g.1.2.2 86)) :: .c (.val (g.1.2.2 87)) :: .c (.val (g.1.2.2 88)) :: .c (.val (g.1.2.2 89)) :: .c (.val (g.1.2.2 90)) :: .c (.val (g.1.2.2 91)) :: .c (.val (g.1.2.2 92)) :: .c (.val (g.1.2.2 93)) :: .c (.val (g.1.2.2 94)) :: .c (.val (g.1.2.2 95)) :: .c (.val (g.1.2.2 96)) :: .c (.val (g.1.2.2 97)) :: .c (.val (g.1.2.2 98)) :: .c (.val (g.1.2.2 99)) :: .c (.val (g.1.2.2 100)) :: .c (.val (g.1.2.2 101)) :: .c (.val (g.1.2.2 102)) :: .c (.val (g.1.2.2 103)) :: .c (.val (g.1.2.2 104)) :: .c (.val (g.1.2.2 105)) :: .c (.val (g.1.2.2 106)) :: .c (.val (g.1.2.2 107)) :: .c (.val (g.1.2.2 108)) :: .c (.val (g.1.2.2 109)) :: .c (.val (g.1.2.2 110)) :: .c (.val (g.1.2.2 111)) :: .c (.val (g.1.2.2 112)) :: .c (.val (g.1.2.2 113)) :: .c (.val (g.1.2.2 114)) :: .c (.val (g.1.2.2 115)) :: .c (.val (g.1.2.2 116)) :: .c (.val (g.1.2.2 117)) :: .c (.val (g.1.2.2 118)) :: .c (.val (g.1.2.2 119)) :: .c (.val (g.1.2.2 120)) :: .c (.val (g.1.2.2 121)) :: .c (.val (g.1.2.2 122)) :: .c (.val (g.1.2.2 123)) :: .c (.val (g.1.2.2 124)) :: .c (.val (g.1.2.2 125)) :: .c (.val (g.1.2.2 126)) :: .c (.val (g.1.2.2 127)) :: .c (.val (g.1.2.2 128)) :: .c (.val (g.1.2.2 129)) :: .c (.val (g.1.2.2 130)) :: .c (.val (g.1.2.2 131)) :: .c (.val (g.1.2.2 132)) :: .c (.val (g.1.2.2 133)) :: .c (.val (g.1.2.2 134)) :: .c (.val (g.1.2.2 135)) :: .c (.val (g.1.2.2 136)) :: .c (.val (g.1.2.2 137)) :: .c (.val (g.1.2.2 138)) :: .c (.val (g.1.2.2 139)) :: .c (.val (g.1.2.2 140)) :: [])) (fun g => [⟨35, false, ptC p, 0⟩, g.1.2.1.blk]) (fun g => 27 - g.1.1) ?_ ?_
 ·refine ⟨[0, 1000 + 38], [0,1,5,7,8], [], fun vs => ?_⟩
  conv => whnf
  refine ⟨_, _, ?_, ?_, ⟨(0, OT.none, vs), Nat.zero_le _, rfl⟩, rfl, rfl⟩
  ·exact ⟨fun _=>rfl,fun _=>rfl,fun _=>rfl,fun _=>rfl,fun _=>rfl,fun _=>rfl,fun _=>rfl,fun _=>rfl,fun _=>rfl,fun _=>rfl,stm _⟩
  ·exact ⟨⟨rfl,rfl,rfl, fun _=>rfl⟩, ⟨rfl,rfl,rfl, fun _=>rfl⟩, trivial⟩
 ·rintro ⟨⟨k, o, vs⟩, hk, ho⟩
  have hk : k ≤ 27 := hk
  have ho : o.l = voxL bits step p k := ho
  have hlen : o.l.length ≤ 12 * k := by rw [ho]; exact voxL_len _ _ _ _
  conv => whnf
  refine bcase_intro (fun hlt => ?_) (fun hge => ?_)
  ·have hk27 : k < 27 := k_lt hlt
   conv => whnf
   refine bcase_intro (fun hb0 => ?_) (fun hb0 => ?_)
   ·have hb0 : bit0 bits k = true := hb0
    conv => whnf
    refine ⟨[0,1], [0,1,5,7,8], [1], fun vs3 => ?_⟩
    conv => whnf
    refine ⟨o.new.1, ?_⟩
    conv => whnf
    refine ⟨_, _, ?_, ?_, ⟨(k + 1, o, vs3), hk27, ho.trans (voxL_skip hb0)⟩, by show 27 - (k + 1) < 27 - k; omega, rfl, rfl⟩
    ·exact ⟨fun _=>rfl,fun _=>rfl,fun _=>rfl,fun _=>rfl,fun _=>rfl,fun _=>rfl,fun _=>rfl,fun _=>rfl,sint_eq (wrap_add1 hk27 (ir_le (Nat.le_refl 27))) _ _, stm _⟩
    ·exact ⟨⟨rfl,rfl,rfl, fun _=>rfl⟩, ⟨rfl,rfl,rfl, fun _=>rfl⟩, trivial⟩
   ·have hb0 : bit0 bits k = false := hb0
    conv => whnf
    refine ⟨fun _ _=>rfl,?_⟩
    conv => whnf
    refine ⟨trivial, ⟨_, _, _, _, rfl,rfl,rfl,rfl,?_⟩⟩
    rintro ⟨lc, nlc, capc, okc⟩ hc12
    have hcL : lc = cubeL (voxP p step k) step := hc12
    have hc : lc.length = 12 := by rw [hcL]; rfl
    obtain ⟨a0, a1, a2, a3, a4, a5, a6, a7, a8, a9, a10, a11, rfl⟩ := len12 hc
    conv => whnf
    refine loop_st (G := {g : Nat × OT × (Nat → Value) // g.1 ≤ 6 ∧ g.2.1.l = voxL bits step p k ++ facesL bits [a0, a1, a2, a3, a4, a5, a6, a7, a8, a9, a10, a11] (vxX k) (vxY k) (vxZ k) g.1}) (fun g => (.c (.int bits hb) :: .c (.int step hs) :: .c (.val (g.1.2.2 2)) :: .c (.val (g.1.2.2 3)) :: .c (.val (g.1.2.2 4)) :: .c (.ptr 0 0) :: .c (.val (g.1.2.2 6)) :: g.1.2.1.sl 1 :: .c (.int (k : Nat) (ir_le hk)) :: .c (.int ((k : Int).tmod 3) ((ir_le hk).tmod _)) :: .c (.int ((IntKind.i64.wrap ((k : Int).tdiv 3)).tmod 3) ((IR.wrap _).tmod _)) :: .c (.int (IntKind.i64.wrap ((k : Int).tdiv 9)) (IR.wrap _)) :: .c (.val (g.1.2.2 12)) :: .c (.sli nlc 2 0 12 capc okc) :: .c (.ptr 3 0) :: .c (.int (g.1.1 : Nat) (ir_6 g.2.1)) :: .c (.val (g.1.2.2 16)) :: .c (.val (g.1.2.2 17)) :: .c (.val (g.1.2.2 18)) :: .c (.val (g.1.2.2 19)) :: .c (.val (g.1.2.2 20)) :: .c (.val (g.1.2.2 21)) :: .c (.val (g.1.2.2 22)) :: .c (.val (g.1.2.2 23)) :: .c (.val (g.1.2.2 24)) :: .c (.val (g.1.2.2 25)) :: .c (.val (g.1.2.2 26)) :: .c (.val (g.1.2.2 27)) :: .c (.val (g.1.2.2 28)) :: .c (.val (g.1.2.2 29)) :: .c (.val (g.1.2.2 30)) :: .c (.val (g.1.2.2 31)) :: .c (.val (g.1.2.2 32)) :: .c (.val (g.1.2.2 33)) :: .c (.val (g.1.2.2 34)) :: .c (.val (g.1.2.2 35)) :: .c (.val (g.1.2.2 36)) :: .c (.val (g.1.2.2 37)) :: .c (.val (g.1.2.2 38)) :: .c (.val (g.1.2.2 39)) :: .c (.val (g.1.2.2 40)) :: .c (.val (g.1.2.2 41)) :: .c (.val (g.1.2.2 42)) :: .c (.val (g.1.2.2 43)) :: .c (.val (g.1.2.2 44)) :: .c (.val (g.1.2.2 45)) :: .c (.val (g.1.2.2 46)) :: .c (.val (g.1.2.2 47)) :: .c (.val (g.1.2.2 48)) :: .c (.val (g.1.2.2 49)) :: .c (.val (g.1.2.2 50)) :: .c (.val (g.1.2.2 51)) :: .c (.val (g.1.2.2 52)) :: .c (.val (g.1.2.2 53)) :: .c (.val (g.1.2.2 54)) :: .c (.val (g.1.2.2 55)) :: .c (.val (g.1.2.2 56)) :: .c (.val (g.1.2.2 57)) :: .c (.val (g.1.2.2 58)) :: .c (.val (g.1.2.2 59)) :: .c (.val (g.1.2.2 60)) :: .c (.val (g.1.2.2 61)) :: .c (.val (g.1.2.2 62)) :: .c (.val (g.1.2.2 63)) :: .c (.val (g.1.2.2 64)) :: .c (.val (g.1.2.2 65)) :: .c (.val (g.1.2.2 66)) :: .c (.val (g.1.2.2 67)) :: .c (.val (g.1.2.2 68)) :: .c (.val (g.1.2.2 69)) :: .c (.val (g.1.2.2 70)) :: .c (.val (g.1.2.2 71)) :: .c (.val (g.1.2.2 72)) :: .c (.val (g.1.2.2 73)) :: .c (.val (g.1.2.2 74)) :: .c (.val (g.1.2.2 75)) :: .c (.val (g.1.2.2 76)) :: .c (.val (g.1.2.2 77)) :: .c (.val (g.1.2.2 78)) :: .c (.val (g.1.2.2 79)) :: .c (.val (g.1.2.2 80)) :: .c (.val (g.1.2.2 81)) :: .c (.val (g.1.2.2 82)) :: .c (.val (g.1.2.2 83)) :: .c (.val (g.1.2.2 84)) :: .c (.val (g.1.2.2 85)) :: .c (.val (g.1.2.2 86)) :: .c (.val (g.1.2.2 87)) :: .c (.val (g.1.2.2 88)) :: .c (.val (g.1.2.2 89)) :: .c (.val (g.1.2.2 90)) :: .c (.val (g.1.2.2 91)) :: .c (.val (g.1.2.2 92)) :: .c (.val (g.1.2.2 93)) :: .c (.val (g.1.2.2 94)) :: .c (.val (g.1.2.2 95)) :: .c (.val (g.1.2.2 96)) :: .c (.val (g.1.2.2 97)) :: .c (.val (g.1.2.2 98)) :: .c (.val (g.1.2.2 99)) :: .c (.val (g.1.2.2 100)) :: .c (.val (g.1.2.2 101)) :: .c (.val (g.1.2.2 102)) :: .c (.val (g.1.2.2 103)) :: .c (.val (g.1.2.2 104)) :: .c (.val (g.1.2.2 105)) :: .c (.val (g.1.2.2 106)) :: .c (.val (g.1.2.2 107)) :: .c (.val (g.1.2.2 108)) :: .c (.val (g.1.2.2 109)) :: .c (.val (g.1.2.2 110)) :: .c (.val (g.1.2.2 111)) :: .c (.val (g.1.2.2 112)) :: .c (.val (g.1.2.2 113)) :: .c (.val (g.1.2.2 114)) :: .c (.val (g.1.2.2 115)) :: .c (.val (g.1.2.2 116)) :: .c (.val (g.1.2.2 117)) :: .c (.val (g.1.2.2 118)) :: .c (.val (g.1.2.2 119)) :: .c (.val (g.1.2.2 120)) :: .c (.val (g.1.2.2 121)) :: .c (.val (g.1.2.2 122)) :: .c (.val (g.1.2.2 123)) :: .c (.val (g.1.2.2 124)) :: .c (.val (g.1.2.2 125)) :: .c (.val (g.1.2.2 126)) :: .c (.val (g.1.2.2 127)) :: .c (.val (g.1.2.2 128)) :: .c (.val (g.1.2.2 129)) :: .c (.val (g.1.2.2 130)) :: .c (.val (g.1.2.2 131)) :: .c (.val (g.1.2.2 132)) :: .c (.val (g.1.2.2 133)) :: .c (.val (g.1.2.2 134)) :: .c (.val (g.1.2.2 135)) :: .c (.val (g.1.2.2 136)) :: .c (.val (g.1.2.2 137)) :: .c (.val (g.1.2.2 138)) :: .c (.val (g.1.2.2 139)) :: .c (.val (g.1.2.2 140)) :: [])) (fun g => [⟨35, false, ptC p, 0⟩, g.1.2.1.blk, ⟨38, nlc, trsC [a0, a1, a2, a3, a4, a5, a6, a7, a8, a9, a10, a11], (capc - 12) * 9⟩, ⟨77, false, [.int (0) (by decide), .int (0) (by decide), .int (-1) (by decide), .int (0) (by decide), .int (0) (by decide), .int (1) (by decide), .int (0) (by decide), .int (-1) (by decide), .int (0) (by decide), .int (0) (by decide), .int (1) (by decide), .int (0) (by decide), .int (-1) (by decide), .int (0) (by decide), .int (0) (by decide), .int (1) (by decide), .int (0) (by decide), .int (0) (by decide)], 0⟩]) (fun g => 6 - g.1.1) ?_ ?_
    ·refine ⟨[0,1,3,4], [0,1,5,7,8,9,10,11,13,14,15], [1], fun vs2 => ?_⟩
     conv => whnf
     refine ⟨o.new.1, ?_⟩
     conv => whnf
     refine ⟨_, _, ?_, ?_, ⟨(0, o, vs2), Nat.zero_le _, ho.trans (List.append_nil _).symm⟩, rfl, rfl⟩
     ·exact ⟨fun _=>rfl,fun _=>rfl,fun _=>rfl,fun _=>rfl,fun _=>rfl,fun _=>rfl,fun _=>rfl,fun _=>rfl,fun _=>rfl,fun _=>rfl,fun _=>rfl,fun _=>rfl,fun _=>rfl,fun _=>rfl,fun _=>rfl,fun _=>rfl,fun _=>rfl,fun _=>rfl,fun _=>rfl,fun _=>rfl,stm _⟩
     ·exact ⟨⟨rfl,rfl,rfl, fun _=>rfl⟩, ⟨rfl,rfl,rfl, fun _=>rfl⟩, ⟨rfl,rfl,rfl, fun _=>rfl⟩, ⟨rfl,rfl,rfl, fun _=>rfl⟩, trivial⟩
    ·rintro ⟨⟨f, o2, vs2⟩, hf, ho2⟩
     have hf : f ≤ 6 := hf
     have ho2 : o2.l = voxL bits step p k ++ facesL bits [a0, a1, a2, a3, a4, a5, a6, a7, a8, a9, a10, a11] (vxX k) (vxY k) (vxZ k) f := ho2
     have hlen2 : o2.l.length ≤ 400 := by
      rw [ho2, List.length_append]
      have h1 := voxL_len bits step p k
      have h2 := facesL_len bits [a0, a1, a2, a3, a4, a5, a6, a7, a8, a9, a10, a11] (vxX k) (vxY k) (vxZ k) f
      omega
     have hcase : f = 6 ∨ f = 0 ∨ f = 1 ∨ f = 2 ∨ f = 3 ∨ f = 4 ∨ f = 5 := by omega
     rcases hcase with rfl | rfl | rfl | rfl | rfl | rfl | rfl
     ·conv => whnf
      refine ⟨[0,1], [0,1,5,7,8], [1], fun vs3 => ?_⟩
      conv => whnf
      refine ⟨o2.new.1, ?_⟩
      conv => whnf
      refine ⟨_, _, ?_, ?_, ⟨(k + 1, o2, vs3), hk27, ho2.trans (by rw [hcL]; exact voxL_take hb0)⟩, by show 27 - (k + 1) < 27 - k; omega, rfl, rfl⟩
      ·exact ⟨fun _=>rfl,fun _=>rfl,fun _=>rfl,fun _=>rfl,fun _=>rfl,fun _=>rfl,fun _=>rfl,fun _=>rfl,sint_eq (wrap_add1 hk27 (ir_le (Nat.le_refl 27))) _ _, stm _⟩
      ·exact ⟨⟨rfl,rfl,rfl, fun _=>rfl⟩, ⟨rfl,rfl,rfl, fun _=>rfl⟩, trivial⟩
     ·conv => whnf
      refine bcase_intro (fun h1 => ?_) (fun h1 => ?_)
      ·have h1 : decide (0 ≤ nbU (vxX k) 0) = true := h1
       conv => whnf
       refine bcase_intro (fun h2 => ?_) (fun h2 => ?_)
       ·have h2 : decide (nbU (vxX k) 0 < 3) = true := h2
        conv => whnf
        refine bcase_intro (fun h3 => ?_) (fun h3 => ?_)
        ·have h3 : decide (0 ≤ nbV (vxY k) 0) = true := h3
         conv => whnf
         refine bcase_intro (fun h4 => ?_) (fun h4 => ?_)
         ·have h4 : decide (nbV (vxY k) 0 < 3) = true := h4
          conv => whnf
          refine bcase_intro (fun h5 => ?_) (fun h5 => ?_)
          ·have h5 : decide (0 ≤ nbW (vxZ k) 0) = true := h5
           conv => whnf
           refine bcase_intro (fun h6 => ?_) (fun h6 => ?_)
           ·have h6 : decide (nbW (vxZ k) 0 < 3) = false := nb_f h6
            conv => whnf
            refine ⟨rfl, ?_⟩
            conv => whnf
            refine ⟨o2.app (app2_le hlen2), fun c2 k2 => ?_⟩
            conv => whnf
            refine ⟨[0,5,2,3], [0,1,5,7,8,9,10,11,13,14,15], [1], fun vs3 => ?_⟩
            conv => whnf
            refine ⟨pureL_append (trsC_pure o2.l) (fun _ _=>rfl), ?_⟩
            conv => whnf
            refine ⟨_, _, ?_, ?_, ⟨(1, o2.push [a0, a1] rfl c2 k2, vs3), (by decide : 1 ≤ 6), (congrArg (· ++ [a0, a1]) ho2).trans (faces_yes (f := 0) (face_out (ins6 h6)))⟩, (by decide : 6 - 1 < 6 - 0), rfl, rfl⟩
            ·exact ⟨fun _=>rfl,fun _=>rfl,fun _=>rfl,fun _=>rfl,fun _=>rfl,fun _=>rfl,fun _=>rfl,fun ρ => OT.push_sl o2 [a0, a1] rfl c2 k2 1 ρ, stm _⟩
            ·exact ⟨⟨rfl,rfl,rfl, fun _=>rfl⟩, OT.push_blk o2 [a0, a1] rfl c2 k2 (fun _=>rfl), ⟨rfl,rfl,rfl, fun _=>rfl⟩, ⟨rfl,rfl,rfl, fun _=>rfl⟩, trivial⟩
           ·have h6 : decide (nbW (vxZ k) 0 < 3) = true := nb_t h6
            have hi := ins7 h1 h2 h3 h4 h5 h6
            conv => whnf
            conv =>
             arg 2
             tactic' =>
              apply eff_shr (ho := ?how1) (hx := ?hxw1) (hy := ?hyw1) (hb := ?hbw1)
              case how1 => rfl
              case hxw1 => rfl
              case hyw1 => rfl
              case hbw1 => exact u64_wrap_nonneg _
            conv => whnf
            refine bcase_intro (fun hb => ?_) (fun hb => ?_)
            ·have hb : bit0 bits (ixF (nbU (vxX k) 0) (nbV (vxY k) 0) (nbW (vxZ k) 0)) = true := hb
             conv => whnf
             refine ⟨rfl, ?_⟩
             conv => whnf
             refine ⟨o2.app (app2_le hlen2), fun c2 k2 => ?_⟩
             conv => whnf
             refine ⟨[0,5,2,3], [0,1,5,7,8,9,10,11,13,14,15], [1], fun vs3 => ?_⟩
             conv => whnf
             refine ⟨pureL_append (trsC_pure o2.l) (fun _ _=>rfl), ?_⟩
             conv => whnf
             refine ⟨_, _, ?_, ?_, ⟨(1, o2.push [a0, a1] rfl c2 k2, vs3), (by decide : 1 ≤ 6), (congrArg (· ++ [a0, a1]) ho2).trans (faces_yes (f := 0) (face_in hi hb))⟩, (by decide : 6 - 1 < 6 - 0), rfl, rfl⟩
             ·exact ⟨fun _=>rfl,fun _=>rfl,fun _=>rfl,fun _=>rfl,fun _=>rfl,fun _=>rfl,fun _=>rfl,fun ρ => OT.push_sl o2 [a0, a1] rfl c2 k2 1 ρ, stm _⟩
             ·exact ⟨⟨rfl,rfl,rfl, fun _=>rfl⟩, OT.push_blk o2 [a0, a1] rfl c2 k2 (fun _=>rfl), ⟨rfl,rfl,rfl, fun _=>rfl⟩, ⟨rfl,rfl,rfl, fun _=>rfl⟩, trivial⟩
            ·have hb : bit0 bits (ixF (nbU (vxX k) 0) (nbV (vxY k) 0) (nbW (vxZ k) 0)) = false := hb
             conv => whnf
             refine ⟨[0,1,2,3], [0,1,5,7,8,9,10,11,13,14,15], [1], fun vs3 => ?_⟩
             conv => whnf
             refine ⟨o2.new.1, ?_⟩
             conv => whnf
             refine ⟨_, _, ?_, ?_, ⟨(1, o2, vs3), (by decide : 1 ≤ 6), ho2.trans (faces_no (f := 0) (face_in hi hb))⟩, (by decide : 6 - 1 < 6 - 0), rfl, rfl⟩
             ·exact stm _
             ·exact ⟨⟨rfl,rfl,rfl, fun _=>rfl⟩, ⟨rfl,rfl,rfl, fun _=>rfl⟩, ⟨rfl,rfl,rfl, fun _=>rfl⟩, ⟨rfl,rfl,rfl, fun _=>rfl⟩, trivial⟩
          ·have h5 : decide (0 ≤ nbW (vxZ k) 0) = false := h5
           conv => whnf
           refine ⟨rfl, ?_⟩
           conv => whnf
           refine ⟨o2.app (app2_le hlen2), fun c2 k2 => ?_⟩
           conv => whnf
           refine ⟨[0,5,2,3], [0,1,5,7,8,9,10,11,13,14,15], [1], fun vs3 => ?_⟩
           conv => whnf
           refine ⟨pureL_append (trsC_pure o2.l) (fun _ _=>rfl), ?_⟩
           conv => whnf
           refine ⟨_, _, ?_, ?_, ⟨(1, o2.push [a0, a1] rfl c2 k2, vs3), (by decide : 1 ≤ 6), (congrArg (· ++ [a0, a1]) ho2).trans (faces_yes (f := 0) (face_out (ins5 h5)))⟩, (by decide : 6 - 1 < 6 - 0), rfl, rfl⟩
           ·exact ⟨fun _=>rfl,fun _=>rfl,fun _=>rfl,fun _=>rfl,fun _=>rfl,fun _=>rfl,fun _=>rfl,fun ρ => OT.push_sl o2 [a0, a1] rfl c2 k2 1 ρ, stm _⟩
           ·exact ⟨⟨rfl,rfl,rfl, fun _=>rfl⟩, OT.push_blk o2 [a0, a1] rfl c2 k2 (fun _=>rfl), ⟨rfl,rfl,rfl, fun _=>rfl⟩, ⟨rfl,rfl,rfl, fun _=>rfl⟩, trivial⟩
         ·have h4 : decide (nbV (vxY k) 0 < 3) = false := h4
          conv => whnf
          refine ⟨rfl, ?_⟩
          conv => whnf
          refine ⟨o2.app (app2_le hlen2), fun c2 k2 => ?_⟩
          conv => whnf
          refine ⟨[0,5,2,3], [0,1,5,7,8,9,10,11,13,14,15], [1], fun vs3 => ?_⟩
          conv => whnf
          refine ⟨pureL_append (trsC_pure o2.l) (fun _ _=>rfl), ?_⟩
          conv => whnf
          refine ⟨_, _, ?_, ?_, ⟨(1, o2.push [a0, a1] rfl c2 k2, vs3), (by decide : 1 ≤ 6), (congrArg (· ++ [a0, a1]) ho2).trans (faces_yes (f := 0) (face_out (ins4 h4)))⟩, (by decide : 6 - 1 < 6 - 0), rfl, rfl⟩
          ·exact ⟨fun _=>rfl,fun _=>rfl,fun _=>rfl,fun _=>rfl,fun _=>rfl,fun _=>rfl,fun _=>rfl,fun ρ => OT.push_sl o2 [a0, a1] rfl c2 k2 1 ρ, stm _⟩
          ·exact ⟨⟨rfl,rfl,rfl, fun _=>rfl⟩, OT.push_blk o2 [a0, a1] rfl c2 k2 (fun _=>rfl), ⟨rfl,rfl,rfl, fun _=>rfl⟩, ⟨rfl,rfl,rfl, fun _=>rfl⟩, trivial⟩
        ·have h3 : decide (0 ≤ nbV (vxY k) 0) = false := h3
         conv => whnf
         refine ⟨rfl, ?_⟩
         conv => whnf
         refine ⟨o2.app (app2_le hlen2), fun c2 k2 => ?_⟩
         conv => whnf
         refine ⟨[0,5,2,3], [0,1,5,7,8,9,10,11,13,14,15], [1], fun vs3 => ?_⟩
         conv => whnf
         refine ⟨pureL_append (trsC_pure o2.l) (fun _ _=>rfl), ?_⟩
         conv => whnf
         refine ⟨_, _, ?_, ?_, ⟨(1, o2.push [a0, a1] rfl c2 k2, vs3), (by decide : 1 ≤ 6), (congrArg (· ++ [a0, a1]) ho2).trans (faces_yes (f := 0) (face_out (ins3 h3)))⟩, (by decide : 6 - 1 < 6 - 0), rfl, rfl⟩
         ·exact ⟨fun _=>rfl,fun _=>rfl,fun _=>rfl,fun _=>rfl,fun _=>rfl,fun _=>rfl,fun _=>rfl,fun ρ => OT.push_sl o2 [a0, a1] rfl c2 k2 1 ρ, stm _⟩
         ·exact ⟨⟨rfl,rfl,rfl, fun _=>rfl⟩, OT.push_blk o2 [a0, a1] rfl c2 k2 (fun _=>rfl), ⟨rfl,rfl,rfl, fun _=>rfl⟩, ⟨rfl,rfl,rfl, fun _=>rfl⟩, trivial⟩
       ·have h2 : decide (nbU (vxX k) 0 < 3) = false := h2
        conv => whnf
        refine ⟨rfl, ?_⟩
        conv => whnf
        refine ⟨o2.app (app2_le hlen2), fun c2 k2 => ?_⟩
        conv => whnf
        refine ⟨[0,5,2,3], [0,1,5,7,8,9,10,11,13,14,15], [1], fun vs3 => ?_⟩
        conv => whnf
        refine ⟨pureL_append (trsC_pure o2.l) (fun _ _=>rfl), ?_⟩
        conv => whnf
        refine ⟨_, _, ?_, ?_, ⟨(1, o2.push [a0, a1] rfl c2 k2, vs3), (by decide : 1 ≤ 6), (congrArg (· ++ [a0, a1]) ho2).trans (faces_yes (f := 0) (face_out (ins2 h2)))⟩, (by decide : 6 - 1 < 6 - 0), rfl, rfl⟩
        ·exact ⟨fun _=>rfl,fun _=>rfl,fun _=>rfl,fun _=>rfl,fun _=>rfl,fun _=>rfl,fun _=>rfl,fun ρ => OT.push_sl o2 [a0, a1] rfl c2 k2 1 ρ, stm _⟩
        ·exact ⟨⟨rfl,rfl,rfl, fun _=>rfl⟩, OT.push_blk o2 [a0, a1] rfl c2 k2 (fun _=>rfl), ⟨rfl,rfl,rfl, fun _=>rfl⟩, ⟨rfl,rfl,rfl, fun _=>rfl⟩, trivial⟩
      ·have h1 : decide (0 ≤ nbU (vxX k) 0) = false := h1
       conv => whnf
       refine ⟨rfl, ?_⟩
       conv => whnf
       refine ⟨o2.app (app2_le hlen2), fun c2 k2 => ?_⟩
       conv => whnf
       refine ⟨[0,5,2,3], [0,1,5,7,8,9,10,11,13,14,15], [1], fun vs3 => ?_⟩
       conv => whnf
       refine ⟨pureL_append (trsC_pure o2.l) (fun _ _=>rfl), ?_⟩
       conv => whnf
       refine ⟨_, _, ?_, ?_, ⟨(1, o2.push [a0, a1] rfl c2 k2, vs3), (by decide : 1 ≤ 6), (congrArg (· ++ [a0, a1]) ho2).trans (faces_yes (f := 0) (face_out (ins1 h1)))⟩, (by decide : 6 - 1 < 6 - 0), rfl, rfl⟩
       ·exact ⟨fun _=>rfl,fun _=>rfl,fun _=>rfl,fun _=>rfl,fun _=>rfl,fun _=>rfl,fun _=>rfl,fun ρ => OT.push_sl o2 [a0, a1] rfl c2 k2 1 ρ, stm _⟩
       ·exact ⟨⟨rfl,rfl,rfl, fun _=>rfl⟩, OT.push_blk o2 [a0, a1] rfl c2 k2 (fun _=>rfl), ⟨rfl,rfl,rfl, fun _=>rfl⟩, ⟨rfl,rfl,rfl, fun _=>rfl⟩, trivial⟩
     ·conv => whnf
      refine bcase_intro (fun h1 => ?_) (fun h1 => ?_)
      ·have h1 : decide (0 ≤ nbU (vxX k) 1) = true := h1
       conv => whnf
       refine bcase_intro (fun h2 => ?_) (fun h2 => ?_)
       ·have h2 : decide (nbU (vxX k) 1 < 3) = true := h2
        conv => whnf
        refine bcase_intro (fun h3 => ?_) (fun h3 => ?_)
        ·have h3 : decide (0 ≤ nbV (vxY k) 1) = true := h3
         conv => whnf
         refine bcase_intro (fun h4 => ?_) (fun h4 => ?_)
         ·have h4 : decide (nbV (vxY k) 1 < 3) = true := h4
          conv => whnf
          refine bcase_intro (fun h5 => ?_) (fun h5 => ?_)
          ·have h5 : decide (0 ≤ nbW (vxZ k) 1) = true := h5
           conv => whnf
           refine bcase_intro (fun h6 => ?_) (fun h6 => ?_)
           ·have h6 : decide (nbW (vxZ k) 1 < 3) = false := nb_f h6
            conv => whnf
            refine ⟨rfl, ?_⟩
            conv => whnf
            refine ⟨o2.app (app2_le hlen2), fun c2 k2 => ?_⟩
            conv => whnf
            refine ⟨[0,5,2,3], [0,1,5,7,8,9,10,11,13,14,15], [1], fun vs3 => ?_⟩
            conv => whnf
            refine ⟨pureL_append (trsC_pure o2.l) (fun _ _=>rfl), ?_⟩
            conv => whnf
            refine ⟨_, _, ?_, ?_, ⟨(2, o2.push [a2, a3] rfl c2 k2, vs3), (by decide : 2 ≤ 6), (congrArg (· ++ [a2, a3]) ho2).trans (faces_yes (f := 1) (face_out (ins6 h6)))⟩, (by decide : 6 - 2 < 6 - 1), rfl, rfl⟩
            ·exact ⟨fun _=>rfl,fun _=>rfl,fun _=>rfl,fun _=>rfl,fun _=>rfl,fun _=>rfl,fun _=>rfl,fun ρ => OT.push_sl o2 [a2, a3] rfl c2 k2 1 ρ, stm _⟩
            ·exact ⟨⟨rfl,rfl,rfl, fun _=>rfl⟩, OT.push_blk o2 [a2, a3] rfl c2 k2 (fun _=>rfl), ⟨rfl,rfl,rfl, fun _=>rfl⟩, ⟨rfl,rfl,rfl, fun _=>rfl⟩, trivial⟩
           ·have h6 : decide (nbW (vxZ k) 1 < 3) = true := nb_t h6
            have hi := ins7 h1 h2 h3 h4 h5 h6
            conv => whnf
            conv =>
             arg 2
             tactic' =>
              apply eff_shr (ho := ?how1) (hx := ?hxw1) (hy := ?hyw1) (hb := ?hbw1)
              case how1 => rfl
              case hxw1 => rfl
              case hyw1 => rfl
              case hbw1 => exact u64_wrap_nonneg _
            conv => whnf
            refine bcase_intro (fun hb => ?_) (fun hb => ?_)
            ·have hb : bit0 bits (ixF (nbU (vxX k) 1) (nbV (vxY k) 1) (nbW (vxZ k) 1)) = true := hb
             conv => whnf
             refine ⟨rfl, ?_⟩
             conv => whnf
             refine ⟨o2.app (app2_le hlen2), fun c2 k2 => ?_⟩
             conv => whnf
             refine ⟨[0,5,2,3], [0,1,5,7,8,9,10,11,13,14,15], [1], fun vs3 => ?_⟩
             conv => whnf
             refine ⟨pureL_append (trsC_pure o2.l) (fun _ _=>rfl), ?_⟩
             conv => whnf
             refine ⟨_, _, ?_, ?_, ⟨(2, o2.push [a2, a3] rfl c2 k2, vs3), (by decide : 2 ≤ 6), (congrArg (· ++ [a2, a3]) ho2).trans (faces_yes (f := 1) (face_in hi hb))⟩, (by decide : 6 - 2 < 6 - 1), rfl, rfl⟩
             ·exact ⟨fun _=>rfl,fun _=>rfl,fun _=>rfl,fun _=>rfl,fun _=>rfl,fun _=>rfl,fun _=>rfl,fun ρ => OT.push_sl o2 [a2, a3] rfl c2 k2 1 ρ, stm _⟩
             ·exact ⟨⟨rfl,rfl,rfl, fun _=>rfl⟩, OT.push_blk o2 [a2, a3] rfl c2 k2 (fun _=>rfl), ⟨rfl,rfl,rfl, fun _=>rfl⟩, ⟨rfl,rfl,rfl, fun _=>rfl⟩, trivial⟩
            ·have hb : bit0 bits (ixF (nbU (vxX k) 1) (nbV (vxY k) 1) (nbW (vxZ k) 1)) = false := hb
             conv => whnf
             refine ⟨[0,1,2,3], [0,1,5,7,8,9,10,11,13,14,15], [1], fun vs3 => ?_⟩
             conv => whnf
             refine ⟨o2.new.1, ?_⟩
             conv => whnf
             refine ⟨_, _, ?_, ?_, ⟨(2, o2, vs3), (by decide : 2 ≤ 6), ho2.trans (faces_no (f := 1) (face_in hi hb))⟩, (by decide : 6 - 2 < 6 - 1), rfl, rfl⟩
             ·exact stm _
             ·exact ⟨⟨rfl,rfl,rfl, fun _=>rfl⟩, ⟨rfl,rfl,rfl, fun _=>rfl⟩, ⟨rfl,rfl,rfl, fun _=>rfl⟩, ⟨rfl,rfl,rfl, fun _=>rfl⟩, trivial⟩
          ·have h5 : decide (0 ≤ nbW (vxZ k) 1) = false := h5
           conv => whnf
           refine ⟨rfl, ?_⟩
           conv => whnf
           refine ⟨o2.app (app2_le hlen2), fun c2 k2 => ?_⟩
           conv => whnf
           refine ⟨[0,5,2,3], [0,1,5,7,8,9,10,11,13,14,15], [1], fun vs3 => ?_⟩
           conv => whnf
           refine ⟨pureL_append (trsC_pure o2.l) (fun _ _=>rfl), ?_⟩
           conv => whnf
           refine ⟨_, _, ?_, ?_, ⟨(2, o2.push [a2, a3] rfl c2 k2, vs3), (by decide : 2 ≤ 6), (congrArg (· ++ [a2, a3]) ho2).trans (faces_yes (f := 1) (face_out (ins5 h5)))⟩, (by decide : 6 - 2 < 6 - 1), rfl, rfl⟩
           ·exact ⟨fun _=>rfl,fun _=>rfl,fun _=>rfl,fun _=>rfl,fun _=>rfl,fun _=>rfl,fun _=>rfl,fun ρ => OT.push_sl o2 [a2, a3] rfl c2 k2 1 ρ, stm _⟩
           ·exact ⟨⟨rfl,rfl,rfl, fun _=>rfl⟩, OT.push_blk o2 [a2, a3] rfl c2 k2 (fun _=>rfl), ⟨rfl,rfl,rfl, fun _=>rfl⟩, ⟨rfl,rfl,rfl, fun _=>rfl⟩, trivial⟩
         ·have h4 : decide (nbV (vxY k) 1 < 3) = false := h4
          conv => whnf
          refine ⟨rfl, ?_⟩
          conv => whnf
          refine ⟨o2.app (app2_le hlen2), fun c2 k2 => ?_⟩
          conv => whnf
          refine ⟨[0,5,2,3], [0,1,5,7,8,9,10,11,13,14,15], [1], fun vs3 => ?_⟩
          conv => whnf
          refine ⟨pureL_append (trsC_pure o2.l) (fun _ _=>rfl), ?_⟩
          conv => whnf
          refine ⟨_, _, ?_, ?_, ⟨(2, o2.push [a2, a3] rfl c2 k2, vs3), (by decide : 2 ≤ 6), (congrArg (· ++ [a2, a3]) ho2).trans (faces_yes (f := 1) (face_out (ins4 h4)))⟩, (by decide : 6 - 2 < 6 - 1), rfl, rfl⟩
          ·exact ⟨fun _=>rfl,fun _=>rfl,fun _=>rfl,fun _=>rfl,fun _=>rfl,fun _=>rfl,fun _=>rfl,fun ρ => OT.push_sl o2 [a2, a3] rfl c2 k2 1 ρ, stm _⟩
          ·exact ⟨⟨rfl,rfl,rfl, fun _=>rfl⟩, OT.push_blk o2 [a2, a3] rfl c2 k2 (fun _=>rfl), ⟨rfl,rfl,rfl, fun _=>rfl⟩, ⟨rfl,rfl,rfl, fun _=>rfl⟩, trivial⟩
        ·have h3 : decide (0 ≤ nbV (vxY k) 1) = false := h3
         conv => whnf
         refine ⟨rfl, ?_⟩
         conv => whnf
         refine ⟨o2.app (app2_le hlen2), fun c2 k2 => ?_⟩
         conv => whnf
         refine ⟨[0,5,2,3], [0,1,5,7,8,9,10,11,13,14,15], [1], fun vs3 => ?_⟩
         conv => whnf
         refine ⟨pureL_append (trsC_pure o2.l) (fun _ _=>rfl), ?_⟩
         conv => whnf
         refine ⟨_, _, ?_, ?_, ⟨(2, o2.push [a2, a3] rfl c2 k2, vs3), (by decide : 2 ≤ 6), (congrArg (· ++ [a2, a3]) ho2).trans (faces_yes (f := 1) (face_out (ins3 h3)))⟩, (by decide : 6 - 2 < 6 - 1), rfl, rfl⟩
         ·exact ⟨fun _=>rfl,fun _=>rfl,fun _=>rfl,fun _=>rfl,fun _=>rfl,fun _=>rfl,fun _=>rfl,fun ρ => OT.push_sl o2 [a2, a3] rfl c2 k2 1 ρ, stm _⟩
         ·exact ⟨⟨rfl,rfl,rfl, fun _=>rfl⟩, OT.push_blk o2 [a2, a3] rfl c2 k2 (fun _=>rfl), ⟨rfl,rfl,rfl, fun _=>rfl⟩, ⟨rfl,rfl,rfl, fun _=>rfl⟩, trivial⟩
       ·have h2 : decide (nbU (vxX k) 1 < 3) = false := h2
        conv => whnf
        refine ⟨rfl, ?_⟩
        conv => whnf
        refine ⟨o2.app (app2_le hlen2), fun c2 k2 => ?_⟩
        conv => whnf
        refine ⟨[0,5,2,3], [0,1,5,7,8,9,10,11,13,14,15], [1], fun vs3 => ?_⟩
        conv => whnf
        refine ⟨pureL_append (trsC_pure o2.l) (fun _ _=>rfl), ?_⟩
        conv => whnf
        refine ⟨_, _, ?_, ?_, ⟨(2, o2.push [a2, a3] rfl c2 k2, vs3), (by decide : 2 ≤ 6), (congrArg (· ++ [a2, a3]) ho2).trans (faces_yes (f := 1) (face_out (ins2 h2)))⟩, (by decide : 6 - 2 < 6 - 1), rfl, rfl⟩
        ·exact ⟨fun _=>rfl,fun _=>rfl,fun _=>rfl,fun _=>rfl,fun _=>rfl,fun _=>rfl,fun _=>rfl,fun ρ => OT.push_sl o2 [a2, a3] rfl c2 k2 1 ρ, stm _⟩
        ·exact ⟨⟨rfl,rfl,rfl, fun _=>rfl⟩, OT.push_blk o2 [a2, a3] rfl c2 k2 (fun _=>rfl), ⟨rfl,rfl,rfl, fun _=>rfl⟩, ⟨rfl,rfl,rfl, fun _=>rfl⟩, trivial⟩
      ·have h1 : decide (0 ≤ nbU (vxX k) 1) = false := h1
       conv => whnf
       refine ⟨rfl, ?_⟩
       conv => whnf
       refine ⟨o2.app (app2_le hlen2), fun c2 k2 => ?_⟩
       conv => whnf
       refine ⟨[0,5,2,3], [0,1,5,7,8,9,10,11,13,14,15], [1], fun vs3 => ?_⟩
       conv => whnf
       refine ⟨pureL_append (trsC_pure o2.l) (fun _ _=>rfl), ?_⟩
       conv => whnf
       refine ⟨_, _, ?_, ?_, ⟨(2, o2.push [a2, a3] rfl c2 k2, vs3), (by decide : 2 ≤ 6), (congrArg (· ++ [a2, a3]) ho2).trans (faces_yes (f := 1) (face_out (ins1 h1)))⟩, (by decide : 6 - 2 < 6 - 1), rfl, rfl⟩
       ·exact ⟨fun _=>rfl,fun _=>rfl,fun _=>rfl,fun _=>rfl,fun _=>rfl,fun _=>rfl,fun _=>rfl,fun ρ => OT.push_sl o2 [a2, a3] rfl c2 k2 1 ρ, stm _⟩
       ·exact ⟨⟨rfl,rfl,rfl, fun _=>rfl⟩, OT.push_blk o2 [a2, a3] rfl c2 k2 (fun _=>rfl), ⟨rfl,rfl,rfl, fun _=>rfl⟩, ⟨rfl,rfl,rfl, fun _=>rfl⟩, trivial⟩
     ·conv => whnf
      refine bcase_intro (fun h1 => ?_) (fun h1 => ?_)
      ·have h1 : decide (0 ≤ nbU (vxX k) 2) = true := h1
       conv => whnf
       refine bcase_intro (fun h2 => ?_) (fun h2 => ?_)
       ·have h2 : decide (nbU (vxX k) 2 < 3) = true := h2
        conv => whnf
        refine bcase_intro (fun h3 => ?_) (fun h3 => ?_)
        ·have h3 : decide (0 ≤ nbV (vxY k) 2) = true := h3
         conv => whnf
         refine bcase_intro (fun h4 => ?_) (fun h4 => ?_)
         ·have h4 : decide (nbV (vxY k) 2 < 3) = true := h4
          conv => whnf
          refine bcase_intro (fun h5 => ?_) (fun h5 => ?_)
          ·have h5 : decide (0 ≤ nbW (vxZ k) 2) = true := h5
           conv => whnf
           refine bcase_intro (fun h6 => ?_) (fun h6 => ?_)
           ·have h6 : decide (nbW (vxZ k) 2 < 3) = false := nb_f h6
            conv => whnf
            refine ⟨rfl, ?_⟩
            conv => whnf
            refine ⟨o2.app (app2_le hlen2), fun c2 k2 => ?_⟩
            conv => whnf
            refine ⟨[0,5,2,3], [0,1,5,7,8,9,10,11,13,14,15], [1], fun vs3 => ?_⟩
            conv => whnf
            refine ⟨pureL_append (trsC_pure o2.l) (fun _ _=>rfl), ?_⟩
            conv => whnf
            refine ⟨_, _, ?_, ?_, ⟨(3, o2.push [a4, a5] rfl c2 k2, vs3), (by decide : 3 ≤ 6), (congrArg (· ++ [a4, a5]) ho2).trans (faces_yes (f := 2) (face_out (ins6 h6)))⟩, (by decide : 6 - 3 < 6 - 2), rfl, rfl⟩
            ·exact ⟨fun _=>rfl,fun _=>rfl,fun _=>rfl,fun _=>rfl,fun _=>rfl,fun _=>rfl,fun _=>rfl,fun ρ => OT.push_sl o2 [a4, a5] rfl c2 k2 1 ρ, stm _⟩
            ·exact ⟨⟨rfl,rfl,rfl, fun _=>rfl⟩, OT.push_blk o2 [a4, a5] rfl c2 k2 (fun _=>rfl), ⟨rfl,rfl,rfl, fun _=>rfl⟩, ⟨rfl,rfl,rfl, fun _=>rfl⟩, trivial⟩
           ·have h6 : decide (nbW (vxZ k) 2 < 3) = true := nb_t h6
            have hi := ins7 h1 h2 h3 h4 h5 h6
            conv => whnf
            conv =>
             arg 2
             tactic' =>
              apply eff_shr (ho := ?how1) (hx := ?hxw1) (hy := ?hyw1) (hb := ?hbw1)
              case how1 => rfl
              case hxw1 => rfl
              case hyw1 => rfl
              case hbw1 => exact u64_wrap_nonneg _
            conv => whnf
            refine bcase_intro (fun hb => ?_) (fun hb => ?_)
            ·have hb : bit0 bits (ixF (nbU (vxX k) 2) (nbV (vxY k) 2) (nbW (vxZ k) 2)) = true := hb
             conv => whnf
             refine ⟨rfl, ?_⟩
             conv => whnf
             refine ⟨o2.app (app2_le hlen2), fun c2 k2 => ?_⟩
             conv => whnf
             refine ⟨[0,5,2,3], [0,1,5,7,8,9,10,11,13,14,15], [1], fun vs3 => ?_⟩
             conv => whnf
             refine ⟨pureL_append (trsC_pure o2.l) (fun _ _=>rfl), ?_⟩
             conv => whnf
             refine ⟨_, _, ?_, ?_, ⟨(3, o2.push [a4, a5] rfl c2 k2, vs3), (by decide : 3 ≤ 6), (congrArg (· ++ [a4, a5]) ho2).trans (faces_yes (f := 2) (face_in hi hb))⟩, (by decide : 6 - 3 < 6 - 2), rfl, rfl⟩
             ·exact ⟨fun _=>rfl,fun _=>rfl,fun _=>rfl,fun _=>rfl,fun _=>rfl,fun _=>rfl,fun _=>rfl,fun ρ => OT.push_sl o2 [a4, a5] rfl c2 k2 1 ρ, stm _⟩
             ·exact ⟨⟨rfl,rfl,rfl, fun _=>rfl⟩, OT.push_blk o2 [a4, a5] rfl c2 k2 (fun _=>rfl), ⟨rfl,rfl,rfl, fun _=>rfl⟩, ⟨rfl,rfl,rfl, fun _=>rfl⟩, trivial⟩
            ·have hb : bit0 bits (ixF (nbU (vxX k) 2) (nbV (vxY k) 2) (nbW (vxZ k) 2)) = false := hb
             conv => whnf
             refine ⟨[0,1,2,3], [0,1,5,7,8,9,10,11,13,14,15], [1], fun vs3 => ?_⟩
             conv => whnf
             refine ⟨o2.new.1, ?_⟩
             conv => whnf
             refine ⟨_, _, ?_, ?_, ⟨(3, o2, vs3), (by decide : 3 ≤ 6), ho2.trans (faces_no (f := 2) (face_in hi hb))⟩, (by decide : 6 - 3 < 6 - 2), rfl, rfl⟩
             ·exact stm _
             ·exact ⟨⟨rfl,rfl,rfl, fun _=>rfl⟩, ⟨rfl,rfl,rfl, fun _=>rfl⟩, ⟨rfl,rfl,rfl, fun _=>rfl⟩, ⟨rfl,rfl,rfl, fun _=>rfl⟩, trivial⟩
          ·have h5 : decide (0 ≤ nbW (vxZ k) 2) = false := h5
           conv => whnf
           refine ⟨rfl, ?_⟩
           conv => whnf
           refine ⟨o2.app (app2_le hlen2), fun c2 k2 => ?_⟩
           conv => whnf
           refine ⟨[0,5,2,3], [0,1,5,7,8,9,10,11,13,14,15], [1], fun vs3 => ?_⟩
           conv => whnf
           refine ⟨pureL_append (trsC_pure o2.l) (fun _ _=>rfl), ?_⟩
           conv => whnf
           refine ⟨_, _, ?_, ?_, ⟨(3, o2.push [a4, a5] rfl c2 k2, vs3), (by decide : 3 ≤ 6), (congrArg (· ++ [a4, a5]) ho2).trans (faces_yes (f := 2) (face_out (ins5 h5)))⟩, (by decide : 6 - 3 < 6 - 2), rfl, rfl⟩
           ·exact ⟨fun _=>rfl,fun _=>rfl,fun _=>rfl,fun _=>rfl,fun _=>rfl,fun _=>rfl,fun _=>rfl,fun ρ => OT.push_sl o2 [a4, a5] rfl c2 k2 1 ρ, stm _⟩
           ·exact ⟨⟨rfl,rfl,rfl, fun _=>rfl⟩, OT.push_blk o2 [a4, a5] rfl c2 k2 (fun _=>rfl), ⟨rfl,rfl,rfl, fun _=>rfl⟩, ⟨rfl,rfl,rfl, fun _=>rfl⟩, trivial⟩
         ·have h4 : decide (nbV (vxY k) 2 < 3) = false := h4
          conv => whnf
          refine ⟨rfl, ?_⟩
          conv => whnf
          refine ⟨o2.app (app2_le hlen2), fun c2 k2 => ?_⟩
          conv => whnf
          refine ⟨[0,5,2,3], [0,1,5,7,8,9,10,11,13,14,15], [1], fun vs3 => ?_⟩
          conv => whnf
          refine ⟨pureL_append (trsC_pure o2.l) (fun _ _=>rfl), ?_⟩
          conv => whnf
          refine ⟨_, _, ?_, ?_, ⟨(3, o2.push [a4, a5] rfl c2 k2, vs3), (by decide : 3 ≤ 6), (congrArg (· ++ [a4, a5]) ho2).trans (faces_yes (f := 2) (face_out (ins4 h4)))⟩, (by decide : 6 - 3 < 6 - 2), rfl, rfl⟩
          ·exact ⟨fun _=>rfl,fun _=>rfl,fun _=>rfl,fun _=>rfl,fun _=>rfl,fun _=>rfl,fun _=>rfl,fun ρ => OT.push_sl o2 [a4, a5] rfl c2 k2 1 ρ, stm _⟩
          ·exact ⟨⟨rfl,rfl,rfl, fun _=>rfl⟩, OT.push_blk o2 [a4, a5] rfl c2 k2 (fun _=>rfl), ⟨rfl,rfl,rfl, fun _=>rfl⟩, ⟨rfl,rfl,rfl, fun _=>rfl⟩, trivial⟩
        ·have h3 : decide (0 ≤ nbV (vxY k) 2) = false := h3
         conv => whnf
         refine ⟨rfl, ?_⟩
         conv => whnf
         refine ⟨o2.app (app2_le hlen2), fun c2 k2 => ?_⟩
         conv => whnf
         refine ⟨[0,5,2,3], [0,1,5,7,8,9,10,11,13,14,15], [1], fun vs3 => ?_⟩
         conv => whnf
         refine ⟨pureL_append (trsC_pure o2.l) (fun _ _=>rfl), ?_⟩
         conv => whnf
         refine ⟨_, _, ?_, ?_, ⟨(3, o2.push [a4, a5] rfl c2 k2, vs3), (by decide : 3 ≤ 6), (congrArg (· ++ [a4, a5]) ho2).trans (faces_yes (f := 2) (face_out (ins3 h3)))⟩, (by decide : 6 - 3 < 6 - 2), rfl, rfl⟩
         ·exact ⟨fun _=>rfl,fun _=>rfl,fun _=>rfl,fun _=>rfl,fun _=>rfl,fun _=>rfl,fun _=>rfl,fun ρ => OT.push_sl o2 [a4, a5] rfl c2 k2 1 ρ, stm _⟩
         ·exact ⟨⟨rfl,rfl,rfl, fun _=>rfl⟩, OT.push_blk o2 [a4, a5] rfl c2 k2 (fun _=>rfl), ⟨rfl,rfl,rfl, fun _=>rfl⟩, ⟨rfl,rfl,rfl, fun _=>rfl⟩, trivial⟩
       ·have h2 : decide (nbU (vxX k) 2 < 3) = false := h2
        conv => whnf
        refine ⟨rfl, ?_⟩
        conv => whnf
        refine ⟨o2.app (app2_le hlen2), fun c2 k2 => ?_⟩
        conv => whnf
        refine ⟨[0,5,2,3], [0,1,5,7,8,9,10,11,13,14,15], [1], fun vs3 => ?_⟩
        conv => whnf
        refine ⟨pureL_append (trsC_pure o2.l) (fun _ _=>rfl), ?_⟩
        conv => whnf
        refine ⟨_, _, ?_, ?_, ⟨(3, o2.push [a4, a5] rfl c2 k2, vs3), (by decide : 3 ≤ 6), (congrArg (· ++ [a4, a5]) ho2).trans (faces_yes (f := 2) (face_out (ins2 h2)))⟩, (by decide : 6 - 3 < 6 - 2), rfl, rfl⟩
        ·exact ⟨fun _=>rfl,fun _=>rfl,fun _=>rfl,fun _=>rfl,fun _=>rfl,fun _=>rfl,fun _=>rfl,fun ρ => OT.push_sl o2 [a4, a5] rfl c2 k2 1 ρ, stm _⟩
        ·exact ⟨⟨rfl,rfl,rfl, fun _=>rfl⟩, OT.push_blk o2 [a4, a5] rfl c2 k2 (fun _=>rfl), ⟨rfl,rfl,rfl, fun _=>rfl⟩, ⟨rfl,rfl,rfl, fun _=>rfl⟩, trivial⟩
      ·have h1 : decide (0 ≤ nbU (vxX k) 2) = false := h1
       conv => whnf
       refine ⟨rfl, ?_⟩
       conv => whnf
       refine ⟨o2.app (app2_le hlen2), fun c2 k2 => ?_⟩
       conv => whnf
       refine ⟨[0,5,2,3], [0,1,5,7,8,9,10,11,13,14,15], [1], fun vs3 => ?_⟩
       conv => whnf
       refine ⟨pureL_append (trsC_pure o2.l) (fun _ _=>rfl), ?_⟩
       conv => whnf
       refine ⟨_, _, ?_, ?_, ⟨(3, o2.push [a4, a5] rfl c2 k2, vs3), (by decide : 3 ≤ 6), (congrArg (· ++ [a4, a5]) ho2).trans (faces_yes (f := 2) (face_out (ins1 h1)))⟩, (by decide : 6 - 3 < 6 - 2), rfl, rfl⟩
       ·exact ⟨fun _=>rfl,fun _=>rfl,fun _=>rfl,fun _=>rfl,fun _=>rfl,fun _=>rfl,fun _=>rfl,fun ρ => OT.push_sl o2 [a4, a5] rfl c2 k2 1 ρ, stm _⟩
       ·exact ⟨⟨rfl,rfl,rfl, fun _=>rfl⟩, OT.push_blk o2 [a4, a5] rfl c2 k2 (fun _=>rfl), ⟨rfl,rfl,rfl, fun _=>rfl⟩, ⟨rfl,rfl,rfl, fun _=>rfl⟩, trivial⟩
     ·conv => whnf
      refine bcase_intro (fun h1 => ?_) (fun h1 => ?_)
      ·have h1 : decide (0 ≤ nbU (vxX k) 3) = true := h1
       conv => whnf
       refine bcase_intro (fun h2 => ?_) (fun h2 => ?_)
       ·have h2 : decide (nbU (vxX k) 3 < 3) = true := h2
        conv => whnf
        refine bcase_intro (fun h3 => ?_) (fun h3 => ?_)
        ·have h3 : decide (0 ≤ nbV (vxY k) 3) = true := h3
         conv => whnf
         refine bcase_intro (fun h4 => ?_) (fun h4 => ?_)
         ·have h4 : decide (nbV (vxY k) 3 < 3) = true := h4
          conv => whnf
          refine bcase_intro (fun h5 => ?_) (fun h5 => ?_)
          ·have h5 : decide (0 ≤ nbW (vxZ k) 3) = true := h5
           conv => whnf
           refine bcase_intro (fun h6 => ?_) (fun h6 => ?_)
           ·have h6 : decide (nbW (vxZ k) 3 < 3) = false := nb_f h6
            conv => whnf
            refine ⟨rfl, ?_⟩
            conv => whnf
            refine ⟨o2.app (app2_le hlen2), fun c2 k2 => ?_⟩
            conv => whnf
            refine ⟨[0,5,2,3], [0,1,5,7,8,9,10,11,13,14,15], [1], fun vs3 => ?_⟩
            conv => whnf
            refine ⟨pureL_append (trsC_pure o2.l) (fun _ _=>rfl), ?_⟩
            conv => whnf
            refine ⟨_, _, ?_, ?_, ⟨(4, o2.push [a6, a7] rfl c2 k2, vs3), (by decide : 4 ≤ 6), (congrArg (· ++ [a6, a7]) ho2).trans (faces_yes (f := 3) (face_out (ins6 h6)))⟩, (by decide : 6 - 4 < 6 - 3), rfl, rfl⟩
            ·exact ⟨fun _=>rfl,fun _=>rfl,fun _=>rfl,fun _=>rfl,fun _=>rfl,fun _=>rfl,fun _=>rfl,fun ρ => OT.push_sl o2 [a6, a7] rfl c2 k2 1 ρ, stm _⟩
            ·exact ⟨⟨rfl,rfl,rfl, fun _=>rfl⟩, OT.push_blk o2 [a6, a7] rfl c2 k2 (fun _=>rfl), ⟨rfl,rfl,rfl, fun _=>rfl⟩, ⟨rfl,rfl,rfl, fun _=>rfl⟩, trivial⟩
           ·have h6 : decide (nbW (vxZ k) 3 < 3) = true := nb_t h6
            have hi := ins7 h1 h2 h3 h4 h5 h6
            conv => whnf
            conv =>
             arg 2
             tactic' =>
              apply eff_shr (ho := ?how1) (hx := ?hxw1) (hy := ?hyw1) (hb := ?hbw1)
              case how1 => rfl
              case hxw1 => rfl
              case hyw1 => rfl
              case hbw1 => exact u64_wrap_nonneg _
            conv => whnf
            refine bcase_intro (fun hb => ?_) (fun hb => ?_)
            ·have hb : bit0 bits (ixF (nbU (vxX k) 3) (nbV (vxY k) 3) (nbW (vxZ k) 3)) = true := hb
             conv => whnf
             refine ⟨rfl, ?_⟩
             conv => whnf
             refine ⟨o2.app (app2_le hlen2), fun c2 k2 => ?_⟩
             conv => whnf
             refine ⟨[0,5,2,3], [0,1,5,7,8,9,10,11,13,14,15], [1], fun vs3 => ?_⟩
             conv => whnf
             refine ⟨pureL_append (trsC_pure o2.l) (fun _ _=>rfl), ?_⟩
             conv => whnf
             refine ⟨_, _, ?_, ?_, ⟨(4, o2.push [a6, a7] rfl c2 k2, vs3), (by decide : 4 ≤ 6), (congrArg (· ++ [a6, a7]) ho2).trans (faces_yes (f := 3) (face_in hi hb))⟩, (by decide : 6 - 4 < 6 - 3), rfl, rfl⟩
             ·exact ⟨fun _=>rfl,fun _=>rfl,fun _=>rfl,fun _=>rfl,fun _=>rfl,fun _=>rfl,fun _=>rfl,fun ρ => OT.push_sl o2 [a6, a7] rfl c2 k2 1 ρ, stm _⟩
             ·exact ⟨⟨rfl,rfl,rfl, fun _=>rfl⟩, OT.push_blk o2 [a6, a7] rfl c2 k2 (fun _=>rfl), ⟨rfl,rfl,rfl, fun _=>rfl⟩, ⟨rfl,rfl,rfl, fun _=>rfl⟩, trivial⟩
            ·have hb : bit0 bits (ixF (nbU (vxX k) 3) (nbV (vxY k) 3) (nbW (vxZ k) 3)) = false := hb
             conv => whnf
             refine ⟨[0,1,2,3], [0,1,5,7,8,9,10,11,13,14,15], [1], fun vs3 => ?_⟩
             conv => whnf
             refine ⟨o2.new.1, ?_⟩
             conv => whnf
             refine ⟨_, _, ?_, ?_, ⟨(4, o2, vs3), (by decide : 4 ≤ 6), ho2.trans (faces_no (f := 3) (face_in hi hb))⟩, (by decide : 6 - 4 < 6 - 3), rfl, rfl⟩
             ·exact stm _
             ·exact ⟨⟨rfl,rfl,rfl, fun _=>rfl⟩, ⟨rfl,rfl,rfl, fun _=>rfl⟩, ⟨rfl,rfl,rfl, fun _=>rfl⟩, ⟨rfl,rfl,rfl, fun _=>rfl⟩, trivial⟩
          ·have h5 : decide (0 ≤ nbW (vxZ k) 3) = false := h5
           conv => whnf
           refine ⟨rfl, ?_⟩
           conv => whnf
           refine ⟨o2.app (app2_le hlen2), fun c2 k2 => ?_⟩
           conv => whnf
           refine ⟨[0,5,2,3], [0,1,5,7,8,9,10,11,13,14,15], [1], fun vs3 => ?_⟩
           conv => whnf
           refine ⟨pureL_append (trsC_pure o2.l) (fun _ _=>rfl), ?_⟩
           conv => whnf
           refine ⟨_, _, ?_, ?_, ⟨(4, o2.push [a6, a7] rfl c2 k2, vs3), (by decide : 4 ≤ 6), (congrArg (· ++ [a6, a7]) ho2).trans (faces_yes (f := 3) (face_out (ins5 h5)))⟩, (by decide : 6 - 4 < 6 - 3), rfl, rfl⟩
           ·exact ⟨fun _=>rfl,fun _=>rfl,fun _=>rfl,fun _=>rfl,fun _=>rfl,fun _=>rfl,fun _=>rfl,fun ρ => OT.push_sl o2 [a6, a7] rfl c2 k2 1 ρ, stm _⟩
           ·exact ⟨⟨rfl,rfl,rfl, fun _=>rfl⟩, OT.push_blk o2 [a6, a7] rfl c2 k2 (fun _=>rfl), ⟨rfl,rfl,rfl, fun _=>rfl⟩, ⟨rfl,rfl,rfl, fun _=>rfl⟩, trivial⟩
         ·have h4 : decide (nbV (vxY k) 3 < 3) = false := h4
          conv => whnf
          refine ⟨rfl, ?_⟩
          conv => whnf
          refine ⟨o2.app (app2_le hlen2), fun c2 k2 => ?_⟩
          conv => whnf
          refine ⟨[0,5,2,3], [0,1,5,7,8,9,10,11,13,14,15], [1], fun vs3 => ?_⟩
          conv => whnf
          refine ⟨pureL_append (trsC_pure o2.l) (fun _ _=>rfl), ?_⟩
          conv => whnf
          refine ⟨_, _, ?_, ?_, ⟨(4, o2.push [a6, a7] rfl c2 k2, vs3), (by decide : 4 ≤ 6), (congrArg (· ++ [a6, a7]) ho2).trans (faces_yes (f := 3) (face_out (ins4 h4)))⟩, (by decide : 6 - 4 < 6 - 3), rfl, rfl⟩
          ·exact ⟨fun _=>rfl,fun _=>rfl,fun _=>rfl,fun _=>rfl,fun _=>rfl,fun _=>rfl,fun _=>rfl,fun ρ => OT.push_sl o2 [a6, a7] rfl c2 k2 1 ρ, stm _⟩
          ·exact ⟨⟨rfl,rfl,rfl, fun _=>rfl⟩, OT.push_blk o2 [a6, a7] rfl c2 k2 (fun _=>rfl), ⟨rfl,rfl,rfl, fun _=>rfl⟩, ⟨rfl,rfl,rfl, fun _=>rfl⟩, trivial⟩
        ·have h3 : decide (0 ≤ nbV (vxY k) 3) = false := h3
         conv => whnf
         refine ⟨rfl, ?_⟩
         conv => whnf
         refine ⟨o2.app (app2_le hlen2), fun c2 k2 => ?_⟩
         conv => whnf
         refine ⟨[0,5,2,3], [0,1,5,7,8,9,10,11,13,14,15], [1], fun vs3 => ?_⟩
         conv => whnf
         refine ⟨pureL_append (trsC_pure o2.l) (fun _ _=>rfl), ?_⟩
         conv => whnf
         refine ⟨_, _, ?_, ?_, ⟨(4, o2.push [a6, a7] rfl c2 k2, vs3), (by decide : 4 ≤ 6), (congrArg (· ++ [a6, a7]) ho2).trans (faces_yes (f := 3) (face_out (ins3 h3)))⟩, (by decide : 6 - 4 < 6 - 3), rfl, rfl⟩
         ·exact ⟨fun _=>rfl,fun _=>rfl,fun _=>rfl,fun _=>rfl,fun _=>rfl,fun _=>rfl,fun _=>rfl,fun ρ => OT.push_sl o2 [a6, a7] rfl c2 k2 1 ρ, stm _⟩
         ·exact ⟨⟨rfl,rfl,rfl, fun _=>rfl⟩, OT.push_blk o2 [a6, a7] rfl c2 k2 (fun _=>rfl), ⟨rfl,rfl,rfl, fun _=>rfl⟩, ⟨rfl,rfl,rfl, fun _=>rfl⟩, trivial⟩
       ·have h2 : decide (nbU (vxX k) 3 < 3) = false := h2
        conv => whnf
        refine ⟨rfl, ?_⟩
        conv => whnf
        refine ⟨o2.app (app2_le hlen2), fun c2 k2 => ?_⟩
        conv => whnf
        refine ⟨[0,5,2,3], [0,1,5,7,8,9,10,11,13,14,15], [1], fun vs3 => ?_⟩
        conv => whnf
        refine ⟨pureL_append (trsC_pure o2.l) (fun _ _=>rfl), ?_⟩
        conv => whnf
        refine ⟨_, _, ?_, ?_, ⟨(4, o2.push [a6, a7] rfl c2 k2, vs3), (by decide : 4 ≤ 6), (congrArg (· ++ [a6, a7]) ho2).trans (faces_yes (f := 3) (face_out (ins2 h2)))⟩, (by decide : 6 - 4 < 6 - 3), rfl, rfl⟩
        ·exact ⟨fun _=>rfl,fun _=>rfl,fun _=>rfl,fun _=>rfl,fun _=>rfl,fun _=>rfl,fun _=>rfl,fun ρ => OT.push_sl o2 [a6, a7] rfl c2 k2 1 ρ, stm _⟩
        ·exact ⟨⟨rfl,rfl,rfl, fun _=>rfl⟩, OT.push_blk o2 [a6, a7] rfl c2 k2 (fun _=>rfl), ⟨rfl,rfl,rfl, fun _=>rfl⟩, ⟨rfl,rfl,rfl, fun _=>rfl⟩, trivial⟩
      ·have h1 : decide (0 ≤ nbU (vxX k) 3) = false := h1
       conv => whnf
       refine ⟨rfl, ?_⟩
       conv => whnf
       refine ⟨o2.app (app2_le hlen2), fun c2 k2 => ?_⟩
       conv => whnf
       refine ⟨[0,5,2,3], [0,1,5,7,8,9,10,11,13,14,15], [1], fun vs3 => ?_⟩
       conv => whnf
       refine ⟨pureL_append (trsC_pure o2.l) (fun _ _=>rfl), ?_⟩
       conv => whnf
       refine ⟨_, _, ?_, ?_, ⟨(4, o2.push [a6, a7] rfl c2 k2, vs3), (by decide : 4 ≤ 6), (congrArg (· ++ [a6, a7]) ho2).trans (faces_yes (f := 3) (face_out (ins1 h1)))⟩, (by decide : 6 - 4 < 6 - 3), rfl, rfl⟩
       ·exact ⟨fun _=>rfl,fun _=>rfl,fun _=>rfl,fun _=>rfl,fun _=>rfl,fun _=>rfl,fun _=>rfl,fun ρ => OT.push_sl o2 [a6, a7] rfl c2 k2 1 ρ, stm _⟩
       ·exact ⟨⟨rfl,rfl,rfl, fun _=>rfl⟩, OT.push_blk o2 [a6, a7] rfl c2 k2 (fun _=>rfl), ⟨rfl,rfl,rfl, fun _=>rfl⟩, ⟨rfl,rfl,rfl, fun _=>rfl⟩, trivial⟩
     ·conv => whnf
      refine bcase_intro (fun h1 => ?_) (fun h1 => ?_)
      ·have h1 : decide (0 ≤ nbU (vxX k) 4) = true := h1
       conv => whnf
       refine bcase_intro (fun h2 => ?_) (fun h2 => ?_)
       ·have h2 : decide (nbU (vxX k) 4 < 3) = true := h2
        conv => whnf
        refine bcase_intro (fun h3 => ?_) (fun h3 => ?_)
        ·have h3 : decide (0 ≤ nbV (vxY k) 4) = true := h3
         conv => whnf
         refine bcase_intro (fun h4 => ?_) (fun h4 => ?_)
         ·have h4 : decide (nbV (vxY k) 4 < 3) = true := h4
          conv => whnf
          refine bcase_intro (fun h5 => ?_) (fun h5 => ?_)
          ·have h5 : decide (0 ≤ nbW (vxZ k) 4) = true := h5
           conv => whnf
           refine bcase_intro (fun h6 => ?_) (fun h6 => ?_)
           ·have h6 : decide (nbW (vxZ k) 4 < 3) = false := nb_f h6
            conv => whnf
            refine ⟨rfl, ?_⟩
            conv => whnf
            refine ⟨o2.app (app2_le hlen2), fun c2 k2 => ?_⟩
            conv => whnf
            refine ⟨[0,5,2,3], [0,1,5,7,8,9,10,11,13,14,15], [1], fun vs3 => ?_⟩
            conv => whnf
            refine ⟨pureL_append (trsC_pure o2.l) (fun _ _=>rfl), ?_⟩
            conv => whnf
            refine ⟨_, _, ?_, ?_, ⟨(5, o2.push [a8, a9] rfl c2 k2, vs3), (by decide : 5 ≤ 6), (congrArg (· ++ [a8, a9]) ho2).trans (faces_yes (f := 4) (face_out (ins6 h6)))⟩, (by decide : 6 - 5 < 6 - 4), rfl, rfl⟩
            ·exact ⟨fun _=>rfl,fun _=>rfl,fun _=>rfl,fun _=>rfl,fun _=>rfl,fun _=>rfl,fun _=>rfl,fun ρ => OT.push_sl o2 [a8, a9] rfl c2 k2 1 ρ, stm _⟩
            ·exact ⟨⟨rfl,rfl,rfl, fun _=>rfl⟩, OT.push_blk o2 [a8, a9] rfl c2 k2 (fun _=>rfl), ⟨rfl,rfl,rfl, fun _=>rfl⟩, ⟨rfl,rfl,rfl, fun _=>rfl⟩, trivial⟩
           ·have h6 : decide (nbW (vxZ k) 4 < 3) = true := nb_t h6
            have hi := ins7 h1 h2 h3 h4 h5 h6
            conv => whnf
            conv =>
             arg 2
             tactic' =>
              apply eff_shr (ho := ?how1) (hx := ?hxw1) (hy := ?hyw1) (hb := ?hbw1)
              case how1 => rfl
              case hxw1 => rfl
              case hyw1 => rfl
              case hbw1 => exact u64_wrap_nonneg _
            conv => whnf
            refine bcase_intro (fun hb => ?_) (fun hb => ?_)
            ·have hb : bit0 bits (ixF (nbU (vxX k) 4) (nbV (vxY k) 4) (nbW (vxZ k) 4)) = true := hb
             conv => whnf
             refine ⟨rfl, ?_⟩
             conv => whnf
             refine ⟨o2.app (app2_le hlen2), fun c2 k2 => ?_⟩
             conv => whnf
             refine ⟨[0,5,2,3], [0,1,5,7,8,9,10,11,13,14,15], [1], fun vs3 => ?_⟩
             conv => whnf
             refine ⟨pureL_append (trsC_pure o2.l) (fun _ _=>rfl), ?_⟩
             conv => whnf
             refine ⟨_, _, ?_, ?_, ⟨(5, o2.push [a8, a9] rfl c2 k2, vs3), (by decide : 5 ≤ 6), (congrArg (· ++ [a8, a9]) ho2).trans (faces_yes (f := 4) (face_in hi hb))⟩, (by decide : 6 - 5 < 6 - 4), rfl, rfl⟩
             ·exact ⟨fun _=>rfl,fun _=>rfl,fun _=>rfl,fun _=>rfl,fun _=>rfl,fun _=>rfl,fun _=>rfl,fun ρ => OT.push_sl o2 [a8, a9] rfl c2 k2 1 ρ, stm _⟩
             ·exact ⟨⟨rfl,rfl,rfl, fun _=>rfl⟩, OT.push_blk o2 [a8, a9] rfl c2 k2 (fun _=>rfl), ⟨rfl,rfl,rfl, fun _=>rfl⟩, ⟨rfl,rfl,rfl, fun _=>rfl⟩, trivial⟩
            ·have hb : bit0 bits (ixF (nbU (vxX k) 4) (nbV (vxY k) 4) (nbW (vxZ k) 4)) = false := hb
             conv => whnf
             refine ⟨[0,1,2,3], [0,1,5,7,8,9,10,11,13,14,15], [1], fun vs3 => ?_⟩
             conv => whnf
             refine ⟨o2.new.1, ?_⟩
             conv => whnf
             refine ⟨_, _, ?_, ?_, ⟨(5, o2, vs3), (by decide : 5 ≤ 6), ho2.trans (faces_no (f := 4) (face_in hi hb))⟩, (by decide : 6 - 5 < 6 - 4), rfl, rfl⟩
             ·exact stm _
             ·exact ⟨⟨rfl,rfl,rfl, fun _=>rfl⟩, ⟨rfl,rfl,rfl, fun _=>rfl⟩, ⟨rfl,rfl,rfl, fun _=>rfl⟩, ⟨rfl,rfl,rfl, fun _=>rfl⟩, trivial⟩
          ·have h5 : decide (0 ≤ nbW (vxZ k) 4) = false := h5
           conv => whnf
           refine ⟨rfl, ?_⟩
           conv => whnf
           refine ⟨o2.app (app2_le hlen2), fun c2 k2 => ?_⟩
           conv => whnf
           refine ⟨[0,5,2,3], [0,1,5,7,8,9,10,11,13,14,15], [1], fun vs3 => ?_⟩
           conv => whnf
           refine ⟨pureL_append (trsC_pure o2.l) (fun _ _=>rfl), ?_⟩
           conv => whnf
           refine ⟨_, _, ?_, ?_, ⟨(5, o2.push [a8, a9] rfl c2 k2, vs3), (by decide : 5 ≤ 6), (congrArg (· ++ [a8, a9]) ho2).trans (faces_yes (f := 4) (face_out (ins5 h5)))⟩, (by decide : 6 - 5 < 6 - 4), rfl, rfl⟩
           ·exact ⟨fun _=>rfl,fun _=>rfl,fun _=>rfl,fun _=>rfl,fun _=>rfl,fun _=>rfl,fun _=>rfl,fun ρ => OT.push_sl o2 [a8, a9] rfl c2 k2 1 ρ, stm _⟩
           ·exact ⟨⟨rfl,rfl,rfl, fun _=>rfl⟩, OT.push_blk o2 [a8, a9] rfl c2 k2 (fun _=>rfl), ⟨rfl,rfl,rfl, fun _=>rfl⟩, ⟨rfl,rfl,rfl, fun _=>rfl⟩, trivial⟩
         ·have h4 : decide (nbV (vxY k) 4 < 3) = false := h4
          conv => whnf
          refine ⟨rfl, ?_⟩
          conv => whnf
          refine ⟨o2.app (app2_le hlen2), fun c2 k2 => ?_⟩
          conv => whnf
          refine ⟨[0,5,2,3], [0,1,5,7,8,9,10,11,13,14,15], [1], fun vs3 => ?_⟩
          conv => whnf
          refine ⟨pureL_append (trsC_pure o2.l) (fun _ _=>rfl), ?_⟩
          conv => whnf
          refine ⟨_, _, ?_, ?_, ⟨(5, o2.push [a8, a9] rfl c2 k2, vs3), (by decide : 5 ≤ 6), (congrArg (· ++ [a8, a9]) ho2).trans (faces_yes (f := 4) (face_out (ins4 h4)))⟩, (by decide : 6 - 5 < 6 - 4), rfl, rfl⟩
          ·exact ⟨fun _=>rfl,fun _=>rfl,fun _=>rfl,fun _=>rfl,fun _=>rfl,fun _=>rfl,fun _=>rfl,fun ρ => OT.push_sl o2 [a8, a9] rfl c2 k2 1 ρ, stm _⟩
          ·exact ⟨⟨rfl,rfl,rfl, fun _=>rfl⟩, OT.push_blk o2 [a8, a9] rfl c2 k2 (fun _=>rfl), ⟨rfl,rfl,rfl, fun _=>rfl⟩, ⟨rfl,rfl,rfl, fun _=>rfl⟩, trivial⟩
        ·have h3 : decide (0 ≤ nbV (vxY k) 4) = false := h3
         conv => whnf
         refine ⟨rfl, ?_⟩
         conv => whnf
         refine ⟨o2.app (app2_le hlen2), fun c2 k2 => ?_⟩
         conv => whnf
         refine ⟨[0,5,2,3], [0,1,5,7,8,9,10,11,13,14,15], [1], fun vs3 => ?_⟩
         conv => whnf
         refine ⟨pureL_append (trsC_pure o2.l) (fun _ _=>rfl), ?_⟩
         conv => whnf
         refine ⟨_, _, ?_, ?_, ⟨(5, o2.push [a8, a9] rfl c2 k2, vs3), (by decide : 5 ≤ 6), (congrArg (· ++ [a8, a9]) ho2).trans (faces_yes (f := 4) (face_out (ins3 h3)))⟩, (by decide : 6 - 5 < 6 - 4), rfl, rfl⟩
         ·exact ⟨fun _=>rfl,fun _=>rfl,fun _=>rfl,fun _=>rfl,fun _=>rfl,fun _=>rfl,fun _=>rfl,fun ρ => OT.push_sl o2 [a8, a9] rfl c2 k2 1 ρ, stm _⟩
         ·exact ⟨⟨rfl,rfl,rfl, fun _=>rfl⟩, OT.push_blk o2 [a8, a9] rfl c2 k2 (fun _=>rfl), ⟨rfl,rfl,rfl, fun _=>rfl⟩, ⟨rfl,rfl,rfl, fun _=>rfl⟩, trivial⟩
       ·have h2 : decide (nbU (vxX k) 4 < 3) = false := h2
        conv => whnf
        refine ⟨rfl, ?_⟩
        conv => whnf
        refine ⟨o2.app (app2_le hlen2), fun c2 k2 => ?_⟩
        conv => whnf
        refine ⟨[0,5,2,3], [0,1,5,7,8,9,10,11,13,14,15], [1], fun vs3 => ?_⟩
        conv => whnf
        refine ⟨pureL_append (trsC_pure o2.l) (fun _ _=>rfl), ?_⟩
        conv => whnf
        refine ⟨_, _, ?_, ?_, ⟨(5, o2.push [a8, a9] rfl c2 k2, vs3), (by decide : 5 ≤ 6), (congrArg (· ++ [a8, a9]) ho2).trans (faces_yes (f := 4) (face_out (ins2 h2)))⟩, (by decide : 6 - 5 < 6 - 4), rfl, rfl⟩
        ·exact ⟨fun _=>rfl,fun _=>rfl,fun _=>rfl,fun _=>rfl,fun _=>rfl,fun _=>rfl,fun _=>rfl,fun ρ => OT.push_sl o2 [a8, a9] rfl c2 k2 1 ρ, stm _⟩
        ·exact ⟨⟨rfl,rfl,rfl, fun _=>rfl⟩, OT.push_blk o2 [a8, a9] rfl c2 k2 (fun _=>rfl), ⟨rfl,rfl,rfl, fun _=>rfl⟩, ⟨rfl,rfl,rfl, fun _=>rfl⟩, trivial⟩
      ·have h1 : decide (0 ≤ nbU (vxX k) 4) = false := h1
       conv => whnf
       refine ⟨rfl, ?_⟩
       conv => whnf
       refine ⟨o2.app (app2_le hlen2), fun c2 k2 => ?_⟩
       conv => whnf
       refine ⟨[0,5,2,3], [0,1,5,7,8,9,10,11,13,14,15], [1], fun vs3 => ?_⟩
       conv => whnf
       refine ⟨pureL_append (trsC_pure o2.l) (fun _ _=>rfl), ?_⟩
       conv => whnf
       refine ⟨_, _, ?_, ?_, ⟨(5, o2.push [a8, a9] rfl c2 k2, vs3), (by decide : 5 ≤ 6), (congrArg (· ++ [a8, a9]) ho2).trans (faces_yes (f := 4) (face_out (ins1 h1)))⟩, (by decide : 6 - 5 < 6 - 4), rfl, rfl⟩
       ·exact ⟨fun _=>rfl,fun _=>rfl,fun _=>rfl,fun _=>rfl,fun _=>rfl,fun _=>rfl,fun _=>rfl,fun ρ => OT.push_sl o2 [a8, a9] rfl c2 k2 1 ρ, stm _⟩
       ·exact ⟨⟨rfl,rfl,rfl, fun _=>rfl⟩, OT.push_blk o2 [a8, a9] rfl c2 k2 (fun _=>rfl), ⟨rfl,rfl,rfl, fun _=>rfl⟩, ⟨rfl,rfl,rfl, fun _=>rfl⟩, trivial⟩
     ·conv => whnf
      refine bcase_intro (fun h1 => ?_) (fun h1 => ?_)
      ·have h1 : decide (0 ≤ nbU (vxX k) 5) = true := h1
       conv => whnf
       refine bcase_intro (fun h2 => ?_) (fun h2 => ?_)
       ·have h2 : decide (nbU (vxX k) 5 < 3) = true := h2
        conv => whnf
        refine bcase_intro (fun h3 => ?_) (fun h3 => ?_)
        ·have h3 : decide (0 ≤ nbV (vxY k) 5) = true := h3
         conv => whnf
         refine bcase_intro (fun h4 => ?_) (fun h4 => ?_)
         ·have h4 : decide (nbV (vxY k) 5 < 3) = true := h4
          conv => whnf
          refine bcase_intro (fun h5 => ?_) (fun h5 => ?_)
          ·have h5 : decide (0 ≤ nbW (vxZ k) 5) = true := h5
           conv => whnf
           refine bcase_intro (fun h6 => ?_) (fun h6 => ?_)
           ·have h6 : decide (nbW (vxZ k) 5 < 3) = false := nb_f h6
            conv => whnf
            refine ⟨rfl, ?_⟩
            conv => whnf
            refine ⟨o2.app (app2_le hlen2), fun c2 k2 => ?_⟩
            conv => whnf
            refine ⟨[0,5,2,3], [0,1,5,7,8,9,10,11,13,14,15], [1], fun vs3 => ?_⟩
            conv => whnf
            refine ⟨pureL_append (trsC_pure o2.l) (fun _ _=>rfl), ?_⟩
            conv => whnf
            refine ⟨_, _, ?_, ?_, ⟨(6, o2.push [a10, a11] rfl c2 k2, vs3), (by decide : 6 ≤ 6), (congrArg (· ++ [a10, a11]) ho2).trans (faces_yes (f := 5) (face_out (ins6 h6)))⟩, (by decide : 6 - 6 < 6 - 5), rfl, rfl⟩
            ·exact ⟨fun _=>rfl,fun _=>rfl,fun _=>rfl,fun _=>rfl,fun _=>rfl,fun _=>rfl,fun _=>rfl,fun ρ => OT.push_sl o2 [a10, a11] rfl c2 k2 1 ρ, stm _⟩
            ·exact ⟨⟨rfl,rfl,rfl, fun _=>rfl⟩, OT.push_blk o2 [a10, a11] rfl c2 k2 (fun _=>rfl), ⟨rfl,rfl,rfl, fun _=>rfl⟩, ⟨rfl,rfl,rfl, fun _=>rfl⟩, trivial⟩
           ·have h6 : decide (nbW (vxZ k) 5 < 3) = true := nb_t h6
            have hi := ins7 h1 h2 h3 h4 h5 h6
            conv => whnf
            conv =>
             arg 2
             tactic' =>
              apply eff_shr (ho := ?how1) (hx := ?hxw1) (hy := ?hyw1) (hb := ?hbw1)
              case how1 => rfl
              case hxw1 => rfl
              case hyw1 => rfl
              case hbw1 => exact u64_wrap_nonneg _
            conv => whnf
            refine bcase_intro (fun hb => ?_) (fun hb => ?_)
            ·have hb : bit0 bits (ixF (nbU (vxX k) 5) (nbV (vxY k) 5) (nbW (vxZ k) 5)) = true := hb
             conv => whnf
             refine ⟨rfl, ?_⟩
             conv => whnf
             refine ⟨o2.app (app2_le hlen2), fun c2 k2 => ?_⟩
             conv => whnf
             refine ⟨[0,5,2,3], [0,1,5,7,8,9,10,11,13,14,15], [1], fun vs3 => ?_⟩
             conv => whnf
             refine ⟨pureL_append (trsC_pure o2.l) (fun _ _=>rfl), ?_⟩
             conv => whnf
             refine ⟨_, _, ?_, ?_, ⟨(6, o2.push [a10, a11] rfl c2 k2, vs3), (by decide : 6 ≤ 6), (congrArg (· ++ [a10, a11]) ho2).trans (faces_yes (f := 5) (face_in hi hb))⟩, (by decide : 6 - 6 < 6 - 5), rfl, rfl⟩
             ·exact ⟨fun _=>rfl,fun _=>rfl,fun _=>rfl,fun _=>rfl,fun _=>rfl,fun _=>rfl,fun _=>rfl,fun ρ => OT.push_sl o2 [a10, a11] rfl c2 k2 1 ρ, stm _⟩
             ·exact ⟨⟨rfl,rfl,rfl, fun _=>rfl⟩, OT.push_blk o2 [a10, a11] rfl c2 k2 (fun _=>rfl), ⟨rfl,rfl,rfl, fun _=>rfl⟩, ⟨rfl,rfl,rfl, fun _=>rfl⟩, trivial⟩
            ·have hb : bit0 bits (ixF (nbU (vxX k) 5) (nbV (vxY k) 5) (nbW (vxZ k) 5)) = false := hb
             conv => whnf
             refine ⟨[0,1,2,3], [0,1,5,7,8,9,10,11,13,14,15], [1], fun vs3 => ?_⟩
             conv => whnf
             refine ⟨o2.new.1, ?_⟩
             conv => whnf
             refine ⟨_, _, ?_, ?_, ⟨(6, o2, vs3), (by decide : 6 ≤ 6), ho2.trans (faces_no (f := 5) (face_in hi hb))⟩, (by decide : 6 - 6 < 6 - 5), rfl, rfl⟩
             ·exact stm _
             ·exact ⟨⟨rfl,rfl,rfl, fun _=>rfl⟩, ⟨rfl,rfl,rfl, fun _=>rfl⟩, ⟨rfl,rfl,rfl, fun _=>rfl⟩, ⟨rfl,rfl,rfl, fun _=>rfl⟩, trivial⟩
          ·have h5 : decide (0 ≤ nbW (vxZ k) 5) = false := h5
           conv => whnf
           refine ⟨rfl, ?_⟩
           conv => whnf
           refine ⟨o2.app (app2_le hlen2), fun c2 k2 => ?_⟩
           conv => whnf
           refine ⟨[0,5,2,3], [0,1,5,7,8,9,10,11,13,14,15], [1], fun vs3 => ?_⟩
           conv => whnf
           refine ⟨pureL_append (trsC_pure o2.l) (fun _ _=>rfl), ?_⟩
           conv => whnf
           refine ⟨_, _, ?_, ?_, ⟨(6, o2.push [a10, a11] rfl c2 k2, vs3), (by decide : 6 ≤ 6), (congrArg (· ++ [a10, a11]) ho2).trans (faces_yes (f := 5) (face_out (ins5 h5)))⟩, (by decide : 6 - 6 < 6 - 5), rfl, rfl⟩
           ·exact ⟨fun _=>rfl,fun _=>rfl,fun _=>rfl,fun _=>rfl,fun _=>rfl,fun _=>rfl,fun _=>rfl,fun ρ => OT.push_sl o2 [a10, a11] rfl c2 k2 1 ρ, stm _⟩
           ·exact ⟨⟨rfl,rfl,rfl, fun _=>rfl⟩, OT.push_blk o2 [a10, a11] rfl c2 k2 (fun _=>rfl), ⟨rfl,rfl,rfl, fun _=>rfl⟩, ⟨rfl,rfl,rfl, fun _=>rfl⟩, trivial⟩
         ·have h4 : decide (nbV (vxY k) 5 < 3) = false := h4
          conv => whnf
          refine ⟨rfl, ?_⟩
          conv => whnf
          refine ⟨o2.app (app2_le hlen2), fun c2 k2 => ?_⟩
          conv => whnf
          refine ⟨[0,5,2,3], [0,1,5,7,8,9,10,11,13,14,15], [1], fun vs3 => ?_⟩
          conv => whnf
          refine ⟨pureL_append (trsC_pure o2.l) (fun _ _=>rfl), ?_⟩
          conv => whnf
          refine ⟨_, _, ?_, ?_, ⟨(6, o2.push [a10, a11] rfl c2 k2, vs3), (by decide : 6 ≤ 6), (congrArg (· ++ [a10, a11]) ho2).trans (faces_yes (f := 5) (face_out (ins4 h4)))⟩, (by decide : 6 - 6 < 6 - 5), rfl, rfl⟩
          ·exact ⟨fun _=>rfl,fun _=>rfl,fun _=>rfl,fun _=>rfl,fun _=>rfl,fun _=>rfl,fun _=>rfl,fun ρ => OT.push_sl o2 [a10, a11] rfl c2 k2 1 ρ, stm _⟩
          ·exact ⟨⟨rfl,rfl,rfl, fun _=>rfl⟩, OT.push_blk o2 [a10, a11] rfl c2 k2 (fun _=>rfl), ⟨rfl,rfl,rfl, fun _=>rfl⟩, ⟨rfl,rfl,rfl, fun _=>rfl⟩, trivial⟩
        ·have h3 : decide (0 ≤ nbV (vxY k) 5) = false := h3
         conv => whnf
         refine ⟨rfl, ?_⟩
         conv => whnf
         refine ⟨o2.app (app2_le hlen2), fun c2 k2 => ?_⟩
         conv => whnf
         refine ⟨[0,5,2,3], [0,1,5,7,8,9,10,11,13,14,15], [1], fun vs3 => ?_⟩
         conv => whnf
         refine ⟨pureL_append (trsC_pure o2.l) (fun _ _=>rfl), ?_⟩
         conv => whnf
         refine ⟨_, _, ?_, ?_, ⟨(6, o2.push [a10, a11] rfl c2 k2, vs3), (by decide : 6 ≤ 6), (congrArg (· ++ [a10, a11]) ho2).trans (faces_yes (f := 5) (face_out (ins3 h3)))⟩, (by decide : 6 - 6 < 6 - 5), rfl, rfl⟩
         ·exact ⟨fun _=>rfl,fun _=>rfl,fun _=>rfl,fun _=>rfl,fun _=>rfl,fun _=>rfl,fun _=>rfl,fun ρ => OT.push_sl o2 [a10, a11] rfl c2 k2 1 ρ, stm _⟩
         ·exact ⟨⟨rfl,rfl,rfl, fun _=>rfl⟩, OT.push_blk o2 [a10, a11] rfl c2 k2 (fun _=>rfl), ⟨rfl,rfl,rfl, fun _=>rfl⟩, ⟨rfl,rfl,rfl, fun _=>rfl⟩, trivial⟩
       ·have h2 : decide (nbU (vxX k) 5 < 3) = false := h2
        conv => whnf
        refine ⟨rfl, ?_⟩
        conv => whnf
        refine ⟨o2.app (app2_le hlen2), fun c2 k2 => ?_⟩
        conv => whnf
        refine ⟨[0,5,2,3], [0,1,5,7,8,9,10,11,13,14,15], [1], fun vs3 => ?_⟩
        conv => whnf
        refine ⟨pureL_append (trsC_pure o2.l) (fun _ _=>rfl), ?_⟩
        conv => whnf
        refine ⟨_, _, ?_, ?_, ⟨(6, o2.push [a10, a11] rfl c2 k2, vs3), (by decide : 6 ≤ 6), (congrArg (· ++ [a10, a11]) ho2).trans (faces_yes (f := 5) (face_out (ins2 h2)))⟩, (by decide : 6 - 6 < 6 - 5), rfl, rfl⟩
        ·exact ⟨fun _=>rfl,fun _=>rfl,fun _=>rfl,fun _=>rfl,fun _=>rfl,fun _=>rfl,fun _=>rfl,fun ρ => OT.push_sl o2 [a10, a11] rfl c2 k2 1 ρ, stm _⟩
        ·exact ⟨⟨rfl,rfl,rfl, fun _=>rfl⟩, OT.push_blk o2 [a10, a11] rfl c2 k2 (fun _=>rfl), ⟨rfl,rfl,rfl, fun _=>rfl⟩, ⟨rfl,rfl,rfl, fun _=>rfl⟩, trivial⟩
      ·have h1 : decide (0 ≤ nbU (vxX k) 5) = false := h1
       conv => whnf
       refine ⟨rfl, ?_⟩
       conv => whnf
       refine ⟨o2.app (app2_le hlen2), fun c2 k2 => ?_⟩
       conv => whnf
       refine ⟨[0,5,2,3], [0,1,5,7,8,9,10,11,13,14,15], [1], fun vs3 => ?_⟩
       conv => whnf
       refine ⟨pureL_append (trsC_pure o2.l) (fun _ _=>rfl), ?_⟩
       conv => whnf
       refine ⟨_, _, ?_, ?_, ⟨(6, o2.push [a10, a11] rfl c2 k2, vs3), (by decide : 6 ≤ 6), (congrArg (· ++ [a10, a11]) ho2).trans (faces_yes (f := 5) (face_out (ins1 h1)))⟩, (by decide : 6 - 6 < 6 - 5), rfl, rfl⟩
       ·exact ⟨fun _=>rfl,fun _=>rfl,fun _=>rfl,fun _=>rfl,fun _=>rfl,fun _=>rfl,fun _=>rfl,fun ρ => OT.push_sl o2 [a10, a11] rfl c2 k2 1 ρ, stm _⟩
       ·exact ⟨⟨rfl,rfl,rfl, fun _=>rfl⟩, OT.push_blk o2 [a10, a11] rfl c2 k2 (fun _=>rfl), ⟨rfl,rfl,rfl, fun _=>rfl⟩, ⟨rfl,rfl,rfl, fun _=>rfl⟩, trivial⟩
  ·have hk27 : k = 27 := Nat.le_antisymm hk (k_ge hge)
   subst hk27
   conv => whnf
   refine ⟨[1], [0], fun vs3 => ?_⟩
   conv => whnf
   refine ⟨o.new.1, ?_⟩
   conv => whnf
   exact ⟨_, [o.blk], rfl, ⟨⟨rfl,rfl,rfl, fun _=>rfl⟩, trivial⟩, ⟨o.new, trivial⟩, o.sl 0, fun _=>rfl,hc o ho⟩
end Go.Proofs.YtocbklodkcdhkaaGreatDoor

namespace Go.Proofs.YtocbklodkcdhkaaGreatDoor
open Go.RowKit
set_option maxRecDepth 100000

structure ZI where
 x : Int
 hx : IR x
def intsC : List ZI → List C
 | [] => []
 | z :: l => .int z.x z.hx :: intsC l
theorem intsC_pure : ∀ l : List ZI, PureL (intsC l)
 | [] => fun _ _=>rfl
 | z :: l => fun ρ ρ' => by
  have h := intsC_pure l ρ ρ'
  rw [intsC, List.flatMap_cons, List.flatMap_cons, h]; rfl
theorem intsC_size : ∀ l : List ZI, sizeC (intsC l) = l.length
 | [] => rfl
 | z :: l => by rw [intsC, List.length_cons, ← intsC_size l]; show 1 + _ = _; omega
theorem intsC_append : ∀ a b : List ZI, intsC (a ++ b) = intsC a ++ intsC b
 | [], _ => rfl
 | z :: l, b => by rw [List.cons_append, intsC, intsC_append l b]; rfl
theorem subC_ints (l : List ZI) {k : Nat} (hk : k < l.length) : subC (intsC l) (0 + k * 1) 1 = some [.int l[k].x l[k].hx] := by
 have e : intsC l = intsC (l.take k) ++ ([.int l[k].x l[k].hx] ++ intsC (l.drop (k + 1))) := by
  have h : l = l.take k ++ (l[k] :: l.drop (k + 1)) := by rw [← List.drop_eq_getElem_cons hk, List.take_append_drop]
  rw [show intsC l = intsC (l.take k ++ (l[k] :: l.drop (k + 1))) by rw [← h], intsC_append]
  rfl
 have s : sizeC (intsC (l.take k)) = 0 + k * 1 := by rw [intsC_size]; simp; omega
 rw [e, ← s]
 exact subC_app _ [.int l[k].x l[k].hx] _
theorem ir8 {k : Nat} (h : k ≤ 8) : IR k := by unfold IR; omega
theorem len_neg {len : Nat} (h : decide (0 < (len : Int)) = false) : ¬ 0 < len := by have := of_decide_eq_false h; omega
theorem wrap_s {k : Nat} (hk : k ≤ 7) : IntKind.i64.wrap ((k : Int) + 1) = ((k + 1 : Nat) : Int) := wrap_add1 (show k < 8 by omega) (ir8 (Nat.le_refl 8))
def hgt (L : List ZI) (len x y : Nat) : Int := if 0 < len then (IntKind.i64.wrap ((((L[(y * 7 + x) % len]?).map ZI.x).getD 0).tmod 64 + 64)).tmod 64 else 0
theorem hgt_pos {L : List ZI} {len x y : Nat} (h : 0 < len) (hl : (y * 7 + x) % len < L.length) : (IntKind.i64.wrap ((L[(y * 7 + x) % len].x).tmod 64 + 64)).tmod 64 = hgt L len x y := by
 unfold hgt; rw [if_pos h, List.getElem?_eq_getElem hl]; rfl
theorem hgt_zero {L : List ZI} {len x y : Nat} (h : ¬ 0 < len) : 0 = hgt L len x y := by unfold hgt; rw [if_neg h]
def hillP (s : Int) (L : List ZI) (len x y : Nat) : PT := ⟨IntKind.i64.wrap ((x : Int) * s), IntKind.i64.wrap ((y : Int) * s), IntKind.i64.wrap (100 + hgt L len x y), IR.wrap _, IR.wrap _, IR.wrap _⟩
def hrow (s : Int) (L : List ZI) (len y : Nat) : Nat → List TR
 | 0 => []
 | x + 1 => hrow s L len y x ++ quadL (hillP s L len x y) (hillP s L len (x + 1) y) (hillP s L len (x + 1) (y + 1)) (hillP s L len x (y + 1))
def hillsL (s : Int) (L : List ZI) (len M : Nat) : Nat → List TR
 | 0 => []
 | y + 1 => hillsL s L len M y ++ hrow s L len y M
theorem hrow_len (s : Int) (L : List ZI) (len y : Nat) : ∀ x, (hrow s L len y x).length = 2 * x
 | 0 => rfl
 | x + 1 => by rw [hrow, List.length_append, hrow_len s L len y x]; simp [quadL]; omega
theorem hillsL_len (s : Int) (L : List ZI) (len M : Nat) : ∀ y, (hillsL s L len M y).length = 2 * M * y
 | 0 => rfl
 | y + 1 => by rw [hillsL, List.length_append, hillsL_len s L len M y, hrow_len, Nat.mul_succ]
def hM (n : Int) : Nat := (1 + n % 6).toNat
def cHillD : NewC := fun args ros K => ∃ x y s nl len cap h ty L sx sy si xn yn, args = [x, y, s, .c (.sli nl 0 0 len cap h)] ∧ toSI x = some sx ∧ sx.n = (xn : Nat) ∧ xn ≤ 8 ∧ toSI y = some sy ∧ sy.n = (yn : Nat) ∧ yn ≤ 8 ∧ toSI s = some si ∧ ros = [⟨ty, true, intsC L, 0⟩] ∧ len ≤ L.length ∧ K (.agg (ptC (hillP si.n L len xn yn))) []
def cHillsD : NewC := fun args ros K => ∃ n s nl len cap h ty L ni si, args = [n, s, .c (.sli nl 0 0 len cap h)] ∧ toSI n = some ni ∧ toSI s = some si ∧ ros = [⟨ty, true, intsC L, 0⟩] ∧ len ≤ L.length ∧ ∀ o : OT, o.l = hillsL si.n L len (hM ni.n) (hM ni.n) → K (o.sl 1) [o.blk]
theorem pt3 {x y z : Int} {hx : IR x} {hy : IR y} {hz : IR z} {p : PT} (e1 : x = p.x) (e2 : y = p.y) (e3 : z = p.z) : SameV (.agg [.int x hx, .int y hy, .int z hz]) (.agg (ptC p)) := by
 cases p; simp only at e1 e2 e3; subst e1 e2 e3; exact fun _=>rfl
theorem hill_ix {x y : Nat} (hx : x ≤ 8) (hy : y ≤ 8) {n : Nat} : (IntKind.i64.wrap (IntKind.i64.wrap ((y : Int) * 7) + (x : Int))).tmod (n : Int) = (((y * 7 + x) % n : Nat) : Int) := by
 rw [wrap_id (z := (y : Int) * 7) (by unfold IR; omega), wrap_id (by unfold IR; omega), show (y : Int) * 7 + x = ((y * 7 + x : Nat) : Int) by omega]
 rfl
noncomputable def modF : FuncId → Option Func := lk [(8, Tryz.f8)]
theorem modF_ok : ∀ f fn, modF f = some fn → FnOk Tryz.prog f fn := lkF_ok fun x hx => by
 simp only [List.mem_cons, List.not_mem_nil, or_false] at hx
 subst hx
 ·exact ⟨Tryz.func8, by kernel_rfl, by kernel_rfl⟩
set_option maxHeartbeats 4000000 in
theorem csHillD : CSp Tryz.prog 35 cHillD := csp_of (env_ok base_ok 20) mixed (inl_ok (env_ok base_ok 20) mixed modF_ok 1) ⟨Tryz.func35, by kernel_rfl, by kernel_rfl⟩ fun args ros K hc => by
 obtain ⟨_, _, _, nl, len, cap, hl, ty, L, ⟨nx, hxi⟩, ⟨ny, hyi⟩, ⟨s, hs⟩, x, y, rfl, t1, e1, hx, t2, e2, hy, t3, rfl, hL, hc⟩ := hc
 obtain rfl := toSI_eq t1
 obtain rfl := toSI_eq t2
 obtain rfl := toSI_eq t3
 obtain rfl : nx = (x : Nat) := e1
 obtain rfl : ny = (y : Nat) := e2
 refine ⟨fun ρ ρ' e => ?_, ?_⟩
 ·have := e 0 (Nat.zero_lt_one)
  simp only [List.map, SV.den, C.den, C.cells, this]
 conv => whnf
 refine bcase_intro (fun hpos => ?_) (fun hneg => ?_)
 ·have hpos : 0 < len := len_pos hl hpos
  have hir : IR (((y * 7 + x) % len : Nat) : Int) := by have := Nat.mod_lt (y * 7 + x) hpos; have := hl.ir; unfold IR at *; omega
  conv => whnf
  rw [eff_rem (hi := hir) (ho := ?hor) (hx := ?hxr) (hy := ?hyr) (hb0 := ?hb0r) (hc := ?hcr)]
  case hor => rfl
  case hxr => rfl
  case hyr => rfl
  case hb0r => omega
  case hcr => exact hill_ix hx hy
  conv => whnf
  rw [eff_index_sli (ho := ?hoi) (hT := ?hTi) (hx := ?hxi) (hk := ?hki) (hlt := ?hlti)]
  case hoi => rfl
  case hTi => rfl
  case hxi => rfl
  case hki => rfl
  case hlti => exact Nat.mod_lt _ hpos
  conv => whnf
  rw [eff_load_sub (ho := ?hol) (hT := ?hTl) (hx := ?hxl) (hb := ?hbl) (hm := ?hml) (hv := ?hvl)]
  case hol => rfl
  case hTl => rfl
  case hxl => rfl
  case hbl => rfl
  case hml => exact subC_ints L (Nat.lt_of_lt_of_le (Nat.mod_lt _ hpos) hL)
  case hvl => rfl
  conv => whnf
  refine ⟨[0], [0], fun vs => ?_⟩
  conv => whnf
  refine ⟨intsC_pure L, ?_⟩
  conv => whnf
  exact ⟨_, [], rfl, ⟨⟨rfl,rfl,rfl, fun _=>rfl⟩, trivial⟩, trivial, _, pt3 rfl rfl (congrArg (fun t => IntKind.i64.wrap (100 + t)) (hgt_pos hpos (Nat.lt_of_lt_of_le (Nat.mod_lt _ hpos) hL))), hc⟩
 ·have hneg : ¬ 0 < len := len_neg hneg
  conv => whnf
  refine ⟨[0], [0], fun vs => ?_⟩
  conv => whnf
  refine ⟨intsC_pure L, ?_⟩
  conv => whnf
  exact ⟨_, [], rfl, ⟨⟨rfl,rfl,rfl, fun _=>rfl⟩, trivial⟩, trivial, _, pt3 rfl rfl (congrArg (fun t => IntKind.i64.wrap (100 + t)) (hgt_zero hneg)), hc⟩
def hillsD : List (FuncId × NewC) := (35, cHillD) :: shapeD
theorem hillsD_ok : AllC Tryz.prog hillsD := .cons csHillD shapeD_ok
theorem hM_eq (n : Int) : IntKind.i64.wrap (1 + (IntKind.i64.wrap (n.tmod 6 + 6)).tmod 6) = (hM n : Nat) ∧ hM n ≤ 6 := by
 have h1 : -6 < n.tmod 6 := Int.lt_tmod_of_pos n (by decide)
 have h2 : n.tmod 6 < 6 := Int.tmod_lt_of_pos n (by decide)
 rw [wrap_id (z := n.tmod 6 + 6) (by unfold IR; omega)]
 have h3 : 0 ≤ (n.tmod 6 + 6).tmod 6 := Int.tmod_nonneg _ (by omega)
 have h4 : (n.tmod 6 + 6).tmod 6 < 6 := Int.tmod_lt_of_pos _ (by decide)
 have h5 : (n.tmod 6 + 6).tmod 6 = n % 6 := by
  rw [Int.tmod_eq_emod_of_nonneg (by omega), Int.add_emod_right, Int.tmod_def, Int.sub_mul_emod_self_left]
 rw [wrap_id (by unfold IR; omega), h5]
 unfold hM
 omega
theorem push_eq {o : OT} {A B : List TR} {m : List TR} (h : o.l = A ++ B) : o.l ++ m = A ++ (B ++ m) := by rw [h, List.append_assoc]
theorem app2_h {y x n m : Nat} (h : n ≤ 12 * y + 2 * x) (hm : m = 2) (hy : y ≤ 8) (hx : x ≤ 8) : (n + m) * 9 ≤ 5000000000000 := by omega
set_option maxHeartbeats 40000000 in
theorem csHillsD : CSp Tryz.prog 14 cHillsD := csp_of (env_ok base_ok 0) mixed (hnew_ok hillsD_ok (inl_ok (env_ok base_ok 20) mixed modF_ok 1)) ⟨Tryz.func14, by kernel_rfl, by kernel_rfl⟩ fun args ros K hc => by
 obtain ⟨_, _, nl, len, cap, hl, ty, L, ⟨n, hn⟩, ⟨s, hs⟩, rfl, t1, t2, rfl, hL, hc⟩ := hc
 obtain rfl := toSI_eq t1
 obtain rfl := toSI_eq t2
 obtain ⟨hM, hM6⟩ := hM_eq n
 have hc : ∀ o : OT, o.l = hillsL s L len (Proofs.YtocbklodkcdhkaaGreatDoor.hM n) (Proofs.YtocbklodkcdhkaaGreatDoor.hM n) → K (o.sl 1) [o.blk] := hc
 generalize Proofs.YtocbklodkcdhkaaGreatDoor.hM n = M at hM hM6 hc
 have hM8 : M ≤ 8 := by omega
 refine ⟨fun ρ ρ' e => ?_, ?_⟩
 ·have := e 0 (Nat.zero_lt_one)
  simp only [List.map, SV.den, C.den, C.cells, this]
 conv => whnf
 refine loop_st (G := {g : Nat × OT × (Nat → Value) // g.1 ≤ M ∧ g.2.1.l = hillsL s L len M g.1}) (fun g => (.c (.int (M : Nat) (ir8 hM8)) :: .c (.int s hs) :: .c (.sli nl 0 0 len cap hl) :: .c (.val (g.1.2.2 3)) :: .c (.val (g.1.2.2 4)) :: .c (.val (g.1.2.2 5)) :: .c (.val (g.1.2.2 6)) :: g.1.2.1.sl 1 :: .c (.int (g.1.1 : Nat) (ir8 (Nat.le_trans g.2.1 hM8))) :: .c (.val (g.1.2.2 9)) :: .c (.val (g.1.2.2 10)) :: .c (.val (g.1.2.2 11)) :: .c (.val (g.1.2.2 12)) :: .c (.val (g.1.2.2 13)) :: .c (.val (g.1.2.2 14)) :: .c (.val (g.1.2.2 15)) :: .c (.val (g.1.2.2 16)) :: .c (.val (g.1.2.2 17)) :: .c (.val (g.1.2.2 18)) :: .c (.val (g.1.2.2 19)) :: .c (.val (g.1.2.2 20)) :: .c (.val (g.1.2.2 21)) :: .c (.val (g.1.2.2 22)) :: .c (.val (g.1.2.2 23)) :: .c (.val (g.1.2.2 24)) :: .c (.val (g.1.2.2 25)) :: .c (.val (g.1.2.2 26)) :: .c (.val (g.1.2.2 27)) :: .c (.val (g.1.2.2 28)) :: .c (.val (g.1.2.2 29)) :: .c (.val (g.1.2.2 30)) :: .c (.val (g.1.2.2 31)) :: .c (.val (g.1.2.2 32)) :: .c (.val (g.1.2.2 33)) :: .c (.val (g.1.2.2 34)) :: .c (.val (g.1.2.2 35)) :: .c (.val (g.1.2.2 36)) :: .c (.val (g.1.2.2 37)) :: .c (.val (g.1.2.2 38)) :: .c (.val (g.1.2.2 39)) :: .c (.val (g.1.2.2 40)) :: .c (.val (g.1.2.2 41)) :: .c (.val (g.1.2.2 42)) :: .c (.val (g.1.2.2 43)) :: .c (.val (g.1.2.2 44)) :: .c (.val (g.1.2.2 45)) :: .c (.val (g.1.2.2 46)) :: .c (.val (g.1.2.2 47)) :: .c (.val (g.1.2.2 48)) :: .c (.val (g.1.2.2 49)) :: .c (.val (g.1.2.2 50)) :: .c (.val (g.1.2.2 51)) :: .c (.val (g.1.2.2 52)) :: .c (.val (g.1.2.2 53)) :: .c (.val (g.1.2.2 54)) :: .c (.val (g.1.2.2 55)) :: .c (.val (g.1.2.2 56)) :: .c (.val (g.1.2.2 57)) :: .c (.val (g.1.2.2 58)) :: [])) (fun g => [⟨ty, true, intsC L, 0⟩, g.1.2.1.blk]) (fun g => M - g.1.1) ?_ ?_
 ·refine ⟨[0, 1000 + 38], [0,1,2,7,8], [0], fun vs => ?_⟩
  conv => whnf
  refine ⟨intsC_pure L, ?_⟩
  conv => whnf
  refine ⟨_, _, ?_, ?_, ⟨(0, OT.none, vs), Nat.zero_le _, rfl⟩, rfl, rfl⟩
  ·exact ⟨sint_eq hM _ _, fun _=>rfl,fun _=>rfl,fun _=>rfl,fun _=>rfl,fun _=>rfl,fun _=>rfl,fun _=>rfl,fun _=>rfl,fun _=>rfl,fun _=>rfl,fun _=>rfl,fun _=>rfl,fun _=>rfl,fun _=>rfl,fun _=>rfl,fun _=>rfl,fun _=>rfl,fun _=>rfl,fun _=>rfl,fun _=>rfl,fun _=>rfl,fun _=>rfl,fun _=>rfl,fun _=>rfl,fun _=>rfl,fun _=>rfl,fun _=>rfl,fun _=>rfl,fun _=>rfl,fun _=>rfl,fun _=>rfl,fun _=>rfl,fun _=>rfl,fun _=>rfl,fun _=>rfl,fun _=>rfl,fun _=>rfl,fun _=>rfl,fun _=>rfl,fun _=>rfl,fun _=>rfl,fun _=>rfl,fun _=>rfl,fun _=>rfl,fun _=>rfl,fun _=>rfl,fun _=>rfl,fun _=>rfl,fun _=>rfl,fun _=>rfl,fun _=>rfl,fun _=>rfl,fun _=>rfl,fun _=>rfl,fun _=>rfl,fun _=>rfl,fun _=>rfl,fun _=>rfl,trivial⟩
  ·exact ⟨⟨rfl,rfl,rfl, fun _=>rfl⟩, ⟨rfl,rfl,rfl, fun _=>rfl⟩, trivial⟩
 ·rintro ⟨⟨y, o, vs⟩, hy, ho⟩
  have hy : y ≤ M := hy
  have ho : o.l = hillsL s L len M y := ho
  conv => whnf
  refine bcase_intro (fun hlt => ?_) (fun hge => ?_)
  ·have hyM : y < M := n_lt hlt
   have hy8 : y ≤ 8 := by omega
   have hy7 : y ≤ 7 := by omega
   conv => whnf
   refine loop_st (G := {g : Nat × OT × (Nat → Value) // g.1 ≤ M ∧ g.2.1.l = hillsL s L len M y ++ hrow s L len y g.1}) (fun g => (.c (.int (M : Nat) (ir8 hM8)) :: .c (.int s hs) :: .c (.sli nl 0 0 len cap hl) :: .c (.val (g.1.2.2 3)) :: .c (.val (g.1.2.2 4)) :: .c (.val (g.1.2.2 5)) :: .c (.val (g.1.2.2 6)) :: g.1.2.1.sl 1 :: .c (.int (y : Nat) (ir8 (Nat.le_trans hy hM8))) :: .c (.int (g.1.1 : Nat) (ir8 (Nat.le_trans g.2.1 hM8))) :: .c (.val (g.1.2.2 10)) :: .c (.val (g.1.2.2 11)) :: .c (.val (g.1.2.2 12)) :: .c (.val (g.1.2.2 13)) :: .c (.val (g.1.2.2 14)) :: .c (.val (g.1.2.2 15)) :: .c (.val (g.1.2.2 16)) :: .c (.val (g.1.2.2 17)) :: .c (.val (g.1.2.2 18)) :: .c (.val (g.1.2.2 19)) :: .c (.val (g.1.2.2 20)) :: .c (.val (g.1.2.2 21)) :: .c (.val (g.1.2.2 22)) :: .c (.val (g.1.2.2 23)) :: .c (.val (g.1.2.2 24)) :: .c (.val (g.1.2.2 25)) :: .c (.val (g.1.2.2 26)) :: .c (.val (g.1.2.2 27)) :: .c (.val (g.1.2.2 28)) :: .c (.val (g.1.2.2 29)) :: .c (.val (g.1.2.2 30)) :: .c (.val (g.1.2.2 31)) :: .c (.val (g.1.2.2 32)) :: .c (.val (g.1.2.2 33)) :: .c (.val (g.1.2.2 34)) :: .c (.val (g.1.2.2 35)) :: .c (.val (g.1.2.2 36)) :: .c (.val (g.1.2.2 37)) :: .c (.val (g.1.2.2 38)) :: .c (.val (g.1.2.2 39)) :: .c (.val (g.1.2.2 40)) :: .c (.val (g.1.2.2 41)) :: .c (.val (g.1.2.2 42)) :: .c (.val (g.1.2.2 43)) :: .c (.val (g.1.2.2 44)) :: .c (.val (g.1.2.2 45)) :: .c (.val (g.1.2.2 46)) :: .c (.val (g.1.2.2 47)) :: .c (.val (g.1.2.2 48)) :: .c (.val (g.1.2.2 49)) :: .c (.val (g.1.2.2 50)) :: .c (.val (g.1.2.2 51)) :: .c (.val (g.1.2.2 52)) :: .c (.val (g.1.2.2 53)) :: .c (.val (g.1.2.2 54)) :: .c (.val (g.1.2.2 55)) :: .c (.val (g.1.2.2 56)) :: .c (.val (g.1.2.2 57)) :: .c (.val (g.1.2.2 58)) :: [])) (fun g => [⟨ty, true, intsC L, 0⟩, g.1.2.1.blk]) (fun g => M - g.1.1) ?_ ?_
   ·refine ⟨[0,1], [0,1,2,7,8,9], [0,1], fun vs2 => ?_⟩
    conv => whnf
    refine ⟨intsC_pure L, o.new.1, ?_⟩
    conv => whnf
    refine ⟨_, _, ?_, ?_, ⟨(0, o, vs2), Nat.zero_le _, ho.trans (List.append_nil _).symm⟩, rfl, rfl⟩
    ·exact ⟨fun _=>rfl,fun _=>rfl,fun _=>rfl,fun _=>rfl,fun _=>rfl,fun _=>rfl,fun _=>rfl,fun _=>rfl,fun _=>rfl,fun _=>rfl,fun _=>rfl,fun _=>rfl,fun _=>rfl,fun _=>rfl,fun _=>rfl,fun _=>rfl,fun _=>rfl,fun _=>rfl,fun _=>rfl,fun _=>rfl,fun _=>rfl,fun _=>rfl,fun _=>rfl,fun _=>rfl,fun _=>rfl,fun _=>rfl,fun _=>rfl,fun _=>rfl,fun _=>rfl,fun _=>rfl,fun _=>rfl,fun _=>rfl,fun _=>rfl,fun _=>rfl,fun _=>rfl,fun _=>rfl,fun _=>rfl,fun _=>rfl,fun _=>rfl,fun _=>rfl,fun _=>rfl,fun _=>rfl,fun _=>rfl,fun _=>rfl,fun _=>rfl,fun _=>rfl,fun _=>rfl,fun _=>rfl,fun _=>rfl,fun _=>rfl,fun _=>rfl,fun _=>rfl,fun _=>rfl,fun _=>rfl,fun _=>rfl,fun _=>rfl,fun _=>rfl,fun _=>rfl,fun _=>rfl,trivial⟩
    ·exact ⟨⟨rfl,rfl,rfl, fun _=>rfl⟩, ⟨rfl,rfl,rfl, fun _=>rfl⟩, trivial⟩
   ·rintro ⟨⟨x, o2, vs2⟩, hx, ho2⟩
    have hx : x ≤ M := hx
    have ho2 : o2.l = hillsL s L len M y ++ hrow s L len y x := ho2
    have hlen2 : o2.l.length ≤ 12 * y + 2 * x := by
     rw [ho2, List.length_append, hillsL_len, hrow_len]
     have : 2 * M * y ≤ 12 * y := Nat.mul_le_mul_right y (by omega)
     omega
    conv => whnf
    refine bcase_intro (fun hlt => ?_) (fun hge2 => ?_)
    ·have hxM : x < M := n_lt hlt
     have hx8 : x ≤ 8 := by omega
     have hx7 : x ≤ 7 := by omega
     conv => whnf
     refine ⟨⟨intsC_pure L, trivial⟩, ⟨_, _, _, _, _, _, _, _, L, _, _, _, _, _, rfl,rfl,rfl, hx8, rfl,rfl,hy8, rfl,rfl,hL, ?_⟩⟩
     conv => whnf
     refine ⟨⟨intsC_pure L, trivial⟩, ⟨_, _, _, _, _, _, _, _, L, _, _, _, _, _, rfl,rfl,wrap_s hx7, Nat.succ_le_succ hx7, rfl,rfl,hy8, rfl,rfl,hL, ?_⟩⟩
     conv => whnf
     refine ⟨⟨intsC_pure L, trivial⟩, ⟨_, _, _, _, _, _, _, _, L, _, _, _, _, _, rfl,rfl,wrap_s hx7, Nat.succ_le_succ hx7, rfl, wrap_s hy7, Nat.succ_le_succ hy7, rfl,rfl,hL, ?_⟩⟩
     conv => whnf
     refine ⟨⟨intsC_pure L, trivial⟩, ⟨_, _, _, _, _, _, _, _, L, _, _, _, _, _, rfl,rfl,rfl, hx8, rfl, wrap_s hy7, Nat.succ_le_succ hy7, rfl,rfl,hL, ?_⟩⟩
     conv => whnf
     refine ⟨fun _ _=>rfl,?_⟩
     conv => whnf
     refine ⟨fun _ _=>rfl,?_⟩
     conv => whnf
     refine ⟨fun _ _=>rfl,?_⟩
     conv => whnf
     refine ⟨fun _ _=>rfl,?_⟩
     conv => whnf
     refine ⟨trivial, ⟨_, _, _, _, _, _, _, _, rfl,rfl,rfl,rfl,rfl,rfl,?_⟩⟩
     intro q eq
     have hq : q.l.length = 2 := by rw [eq]; rfl
     conv => whnf
     rw [q.src]
     conv => whnf
     refine ⟨allOne_trs _, ?_⟩
     conv => whnf
     refine ⟨o2.app (app2_h hlen2 hq hy8 hx8), fun c2 k2 => ?_⟩
     conv => whnf
     refine ⟨[0,7], [0,1,2,7,8,9], [0,1], fun vs3 => ?_⟩
     conv => whnf
     refine ⟨intsC_pure L, pureL_append (trsC_pure o2.l) (trsC_pure q.l), ?_⟩
     conv => whnf
     refine ⟨_, _, ?_, ?_, ⟨(x + 1, o2.push q.l rfl c2 k2, vs3), hxM, (push_eq ho2).trans (congrArg (fun t => hillsL s L len M y ++ (hrow s L len y x ++ t)) eq)⟩, (by omega : M - (x + 1) < M - x), rfl, rfl⟩
     ·exact ⟨fun _=>rfl,fun _=>rfl,fun _=>rfl,fun _=>rfl,fun _=>rfl,fun _=>rfl,fun _=>rfl,fun ρ => OT.push_sl o2 q.l rfl c2 k2 1 ρ, fun _=>rfl,sint_eq (wrap_add1 hxM (ir8 hM8)) _ _, fun _=>rfl,fun _=>rfl,fun _=>rfl,fun _=>rfl,fun _=>rfl,fun _=>rfl,fun _=>rfl,fun _=>rfl,fun _=>rfl,fun _=>rfl,fun _=>rfl,fun _=>rfl,fun _=>rfl,fun _=>rfl,fun _=>rfl,fun _=>rfl,fun _=>rfl,fun _=>rfl,fun _=>rfl,fun _=>rfl,fun _=>rfl,fun _=>rfl,fun _=>rfl,fun _=>rfl,fun _=>rfl,fun _=>rfl,fun _=>rfl,fun _=>rfl,fun _=>rfl,fun _=>rfl,fun _=>rfl,fun _=>rfl,fun _=>rfl,fun _=>rfl,fun _=>rfl,fun _=>rfl,fun _=>rfl,fun _=>rfl,fun _=>rfl,fun _=>rfl,fun _=>rfl,fun _=>rfl,fun _=>rfl,fun _=>rfl,fun _=>rfl,fun _=>rfl,fun _=>rfl,fun _=>rfl,fun _=>rfl,trivial⟩
     ·exact ⟨⟨rfl,rfl,rfl, fun _=>rfl⟩, OT.push_blk o2 q.l rfl c2 k2 (fun _=>rfl), trivial⟩
    ·have hx6 : x ≤ 6 := by omega
     conv => whnf
     refine ⟨[0,1], [0,1,2,7,8], [0,1], fun vs3 => ?_⟩
     conv => whnf
     refine ⟨intsC_pure L, o2.new.1, ?_⟩
     conv => whnf
     refine ⟨_, _, ?_, ?_, ⟨(y + 1, o2, vs3), hyM, (by obtain rfl : x = M := Nat.le_antisymm hx (n_ge hge2); exact ho2)⟩, (by omega : M - (y + 1) < M - y), rfl, rfl⟩
     ·exact ⟨fun _=>rfl,fun _=>rfl,fun _=>rfl,fun _=>rfl,fun _=>rfl,fun _=>rfl,fun _=>rfl,fun _=>rfl,sint_eq (wrap_add1 hyM (ir8 hM8)) _ _, fun _=>rfl,fun _=>rfl,fun _=>rfl,fun _=>rfl,fun _=>rfl,fun _=>rfl,fun _=>rfl,fun _=>rfl,fun _=>rfl,fun _=>rfl,fun _=>rfl,fun _=>rfl,fun _=>rfl,fun _=>rfl,fun _=>rfl,fun _=>rfl,fun _=>rfl,fun _=>rfl,fun _=>rfl,fun _=>rfl,fun _=>rfl,fun _=>rfl,fun _=>rfl,fun _=>rfl,fun _=>rfl,fun _=>rfl,fun _=>rfl,fun _=>rfl,fun _=>rfl,fun _=>rfl,fun _=>rfl,fun _=>rfl,fun _=>rfl,fun _=>rfl,fun _=>rfl,fun _=>rfl,fun _=>rfl,fun _=>rfl,fun _=>rfl,fun _=>rfl,fun _=>rfl,fun _=>rfl,fun _=>rfl,fun _=>rfl,fun _=>rfl,fun _=>rfl,fun _=>rfl,fun _=>rfl,fun _=>rfl,fun _=>rfl,trivial⟩
     ·exact ⟨⟨rfl,rfl,rfl, fun _=>rfl⟩, ⟨rfl,rfl,rfl, fun _=>rfl⟩, trivial⟩
  ·have hy6 : y ≤ 6 := by omega
   conv => whnf
   refine ⟨[0,1], [0,1], fun vs3 => ?_⟩
   conv => whnf
   refine ⟨intsC_pure L, o.new.1, ?_⟩
   conv => whnf
   exact ⟨_, [o.blk], rfl, ⟨⟨rfl,rfl,rfl, fun _=>rfl⟩, ⟨rfl,rfl,rfl, fun _=>rfl⟩, trivial⟩, ⟨o.new, trivial⟩, o.sl 1, fun _=>rfl,hc o (by obtain rfl : y = M := Nat.le_antisymm hy (n_ge hge); exact ho)⟩
end Go.Proofs.YtocbklodkcdhkaaGreatDoor

namespace Go.Proofs.YtocbklodkcdhkaaGreatDoor
open Go.RowKit
set_option maxRecDepth 100000

def shpL (b : Int) (L : List ZI) (len : Nat) : List TR := if 0 < len then hillsL 2 L (min len 30) (hM (IntKind.i64.wrap (b.tmod 4))) (hM (IntKind.i64.wrap (b.tmod 4))) else voxL (IntKind.i64.wrap (IntKind.u32.wrap ((BitVec.ofInt IntKind.u32.bits b &&& BitVec.ofInt IntKind.u32.bits 134217727).toNat : Nat))) 2 ⟨0, 0, 0, by decide, by decide, by decide⟩ 27
def cShape : NewC := fun args ros K => (∃ b nl len cap h ty L, args = [.c (.val (.int .u32 b)), .c (.sli nl 0 0 len cap h)] ∧ ros = [⟨ty, true, intsC L, 0⟩] ∧ len ≤ L.length ∧ ∀ o : OT, o.l = shpL b L len → K (o.sl 1) [o.blk]) ∨ (∃ b a cap, args = [.c (.val (.int .u32 b)), .c (.val (.slice a 0 cap))] ∧ ros = [] ∧ ∀ o : OT, o.l = shpL b [] 0 → K (o.sl 0) [o.blk])
def makeD : List (FuncId × NewC) := [(14, cHillsD), (15, cVoxD)]
theorem makeD_ok : AllC Tryz.prog makeD := .cons csHillsD (.cons csVoxD .nil)
theorem min30 (n : Nat) : minI (n : Int) 30 = ((min n 30 : Nat) : Int) := by unfold minI; split <;> omega
theorem sliOk_le {nl : Bool} {len cap k : Nat} (h : SliOk nl len cap) (hk : k ≤ len) : SliOk nl k cap := ⟨Nat.le_trans hk h.1, h.2.1, h.2.2⟩
set_option maxHeartbeats 4000000 in
theorem csShape : CSp Tryz.prog 5 cShape := csp_of (env_ok base_ok 0) mixed (hnew_ok makeD_ok (inl_ok (env_ok base_ok 20) mixed modF_ok 1)) ⟨Tryz.func5, by kernel_rfl, by kernel_rfl⟩ fun args ros K hc => by
 rcases hc with ⟨b, nl, len, cap, hl, ty, L, rfl,rfl,hL, hc⟩ | ⟨b, a, cap, rfl,rfl,hc⟩
 ·refine ⟨fun ρ ρ' e => ?_, ?_⟩
  ·have := e 0 (Nat.zero_lt_one)
   simp only [List.map, SV.den, C.den, C.cells, this]
  conv => whnf
  refine bcase_intro (fun hp => ?_) (fun hp => ?_)
  ·have hp : 0 < len := len_pos hl hp
   conv => whnf
   rw [eff_slice_hi (h2 := sliOk_le hl (Nat.min_le_left len 30)) (ho := ?hos) (hT := ?hTs) (hx := ?hxs) (hk := ?hks) (hlt := ?hlts)]
   case hos => rfl
   case hTs => rfl
   case hxs => rfl
   case hks => exact cint (min30 len) (sliOk_le hl (Nat.min_le_left len 30)).ir
   case hlts => exact Nat.le_trans (Nat.min_le_left len 30) hl.1
   conv => whnf
   refine ⟨⟨intsC_pure L, trivial⟩, ⟨_, _, _, _, _, _, _, L, _, _, rfl,rfl,rfl,rfl,Nat.le_trans (Nat.min_le_left len 30) hL, fun o ho => ?_⟩⟩
   conv => whnf
   refine ⟨[0,1], [0,1], fun vs => ?_⟩
   conv => whnf
   refine ⟨intsC_pure L, o.new.1, ?_⟩
   conv => whnf
   exact ⟨_, [o.blk], rfl, ⟨⟨rfl,rfl,rfl, fun _=>rfl⟩, ⟨rfl,rfl,rfl, fun _=>rfl⟩, trivial⟩, ⟨o.new, trivial⟩, o.sl 1, fun _=>rfl,hc o (ho.trans (by unfold shpL; rw [if_pos hp]))⟩
  ·have hp : ¬ 0 < len := len_neg hp
   conv => whnf
   refine ⟨fun _ _=>rfl,?_⟩
   conv => whnf
   refine ⟨trivial, ⟨_, _, _, _, _, _, rfl,rfl,rfl,rfl,rfl, fun o ho => ?_⟩⟩
   conv => whnf
   refine ⟨[0,1], [0,1], fun vs => ?_⟩
   conv => whnf
   refine ⟨intsC_pure L, o.new.1, ?_⟩
   conv => whnf
   exact ⟨_, [o.blk], rfl, ⟨⟨rfl,rfl,rfl, fun _=>rfl⟩, ⟨rfl,rfl,rfl, fun _=>rfl⟩, trivial⟩, ⟨o.new, trivial⟩, o.sl 1, fun _=>rfl,hc o (ho.trans (by unfold shpL; rw [if_neg hp]))⟩
 ·refine ⟨fun ρ ρ' _ => rfl, ?_⟩
  conv => whnf
  refine ⟨fun _ _=>rfl,?_⟩
  conv => whnf
  refine ⟨trivial, ⟨_, _, _, _, _, _, rfl,rfl,rfl,rfl,rfl, fun o ho => ?_⟩⟩
  conv => whnf
  refine ⟨[0], [0], fun vs => ?_⟩
  conv => whnf
  refine ⟨o.new.1, ?_⟩
  conv => whnf
  exact ⟨_, [o.blk], rfl, ⟨⟨rfl,rfl,rfl, fun _=>rfl⟩, trivial⟩, ⟨o.new, trivial⟩, o.sl 0, fun _=>rfl,hc o (ho.trans (by unfold shpL; rw [if_neg (by decide)]))⟩
end Go.Proofs.YtocbklodkcdhkaaGreatDoor
