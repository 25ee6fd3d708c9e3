/- law 05: HealFlat. -/
import Derived.Test.YtdjpbccaglkafaaDoorH5L
namespace Go.Proofs.YtdjpbccaglkafaaDoor
open Go.RowKit
set_option maxRecDepth 100000

theorem ir_tmod (x : Int) {m : Int} (h : 0 < m ∧ m ≤ 1152921504606846976) : IR (x.tmod m) := by
  have h1 := Int.lt_tmod_of_pos x h.1
  have h2 := Int.tmod_lt_of_pos x h.1
  unfold IR; omega
def tmP (m : Int) (hm : 0 < m ∧ m ≤ 1152921504606846976) (x y z : Int) : PT := ⟨x.tmod m, y.tmod m, z.tmod m, ir_tmod x hm, ir_tmod y hm, ir_tmod z hm⟩
def mvP (s : Int) (a v : PT) : PT := ⟨mvW s a.x v.x, mvW s a.y v.y, mvW s a.z v.z, ir_mvW _ _ _, ir_mvW _ _ _, ir_mvW _ _ _⟩
def incP (b : PT) : PT := ⟨IntKind.i64.wrap (b.x + 1), b.y, b.z, IR.wrap _, b.hy, b.hz⟩
def sc1 (n : Int) : Int := IntKind.i64.wrap (1 + IntKind.i64.wrap ((BitVec.ofInt 64 n &&& BitVec.ofInt 64 1023).toNat : Int))
def sc2 (n : Int) : Int := IntKind.i64.wrap (-1 - IntKind.i64.wrap ((BitVec.ofInt 64 n &&& BitVec.ofInt 64 1023).toNat : Int))
theorem and1023 (n : Int) : ∃ k : Nat, k ≤ 1023 ∧ IntKind.i64.wrap ((BitVec.ofInt 64 n &&& BitVec.ofInt 64 1023).toNat : Int) = k := by
  have h : (BitVec.ofInt 64 n &&& BitVec.ofInt 64 1023).toNat ≤ 1023 := by
    rw [BitVec.toNat_and]
    exact Nat.le_trans Nat.and_le_right (by decide)
  exact ⟨_, h, wrap_id (by unfold IR; omega)⟩
theorem sc1_eq (n : Int) : 1 ≤ sc1 n ∧ sc1 n ≤ 1024 := by
  obtain ⟨k, hk, e⟩ := and1023 n
  unfold sc1
  rw [e, wrap_id (by unfold IR; omega)]; omega
theorem sc2_eq (n : Int) : -1024 ≤ sc2 n ∧ sc2 n ≤ -1 := by
  obtain ⟨k, hk, e⟩ := and1023 n
  unfold sc2
  rw [e, wrap_id (by unfold IR; omega)]; omega
theorem mv_eq {s t x : Int} (hs : -1024 ≤ s ∧ s ≤ 1024) (hx : -1048576 < x ∧ x < 1048576) (ht : -1152921504606846976 < t ∧ t < 1152921504606846976) : mvW s t x = x * s + t ∧ -1152921505680588800 < x * s + t ∧ x * s + t < 1152921505680588800 := by
  have h : (x * s).natAbs ≤ 1048576 * 1024 := by rw [Int.natAbs_mul]; exact Nat.mul_le_mul (by omega) (by omega)
  have h1 : IR (x * s) := by unfold IR; omega
  have h2 : IR (x * s + t) := by unfold IR; omega
  unfold mvW
  rw [wrap_id h1, wrap_id h2]
  exact ⟨rfl, by omega, by omega⟩
theorem tm_lt (x : Int) {m : Int} (hm : 0 < m) : -m < x.tmod m ∧ x.tmod m < m := ⟨Int.lt_tmod_of_pos x hm, Int.tmod_lt_of_pos x hm⟩
theorem line_flat {A B C : PT} {x y z s t : Int} (b1 : B.x = x * s + A.x) (b2 : B.y = y * s + A.y) (b3 : B.z = z * s + A.z) (c1 : C.x = x * t + A.x) (c2 : C.y = y * t + A.y) (c3 : C.z = z * t + A.z) : flatT ⟨A, B, C⟩ = true := by
  unfold flatT V3.isZ normZ V3.sub V3.cross PT.v
  simp only [b1, b2, b3, c1, c2, c3, Bool.and_eq_true, decide_eq_true_eq]
  refine ⟨?_, ?_, ?_⟩ <;> grind
set_option linter.unusedSimpArgs false in
theorem inc_flat {A B D : PT} {x y z s : Int} (b1 : B.x = x * s + A.x) (b2 : B.y = y * s + A.y) (b3 : B.z = z * s + A.z) (d1 : D.x = B.x + 1) (d2 : D.y = B.y) (d3 : D.z = B.z) (hs : s ≠ 0) : flatT ⟨A, B, D⟩ = (decide (y = 0) && decide (z = 0)) := by
  have e1 : (normZ A.v B.v D.v).x = 0 := by unfold normZ V3.sub V3.cross PT.v; simp only [d1, d2, d3]; grind
  have e2 : (normZ A.v B.v D.v).y = z * s := by unfold normZ V3.sub V3.cross PT.v; simp only [d1, d2, d3, b1, b2, b3]; grind
  have e3 : (normZ A.v B.v D.v).z = -(y * s) := by unfold normZ V3.sub V3.cross PT.v; simp only [d1, d2, d3, b1, b2, b3]; grind
  unfold flatT V3.isZ
  show (decide ((normZ A.v B.v D.v).x = 0) && (decide ((normZ A.v B.v D.v).y = 0) && decide ((normZ A.v B.v D.v).z = 0))) = _
  rw [e1, e2, e3]
  have h2 : (z * s = 0) = (z = 0) := propext ⟨fun h => (Int.mul_eq_zero.1 h).resolve_right hs, fun h => by rw [h, Int.zero_mul]⟩
  have h3 : (-(y * s) = 0) = (y = 0) := propext ⟨fun h => (Int.mul_eq_zero.1 (by omega)).resolve_right hs, fun h => by rw [h, Int.zero_mul]; rfl⟩
  simp only [h2, h3, decide_true, Bool.true_and]
  exact Bool.and_comm _ _
section
variable (p0 p1 p2 v0 v1 v2 n0 n1 : Int)
theorem line1 : flatT ⟨tmP 1152921504606846976 (by decide) p0 p1 p2, mvP (sc1 n0) (tmP 1152921504606846976 (by decide) p0 p1 p2) (tmP 1048576 (by decide) v0 v1 v2), mvP (sc2 n1) (tmP 1152921504606846976 (by decide) p0 p1 p2) (tmP 1048576 (by decide) v0 v1 v2)⟩ = true := by
  have h1 := sc1_eq n0
  have h2 := sc2_eq n1
  have T : ∀ x : Int, -1152921504606846976 < x.tmod 1152921504606846976 ∧ x.tmod 1152921504606846976 < 1152921504606846976 := fun x => tm_lt x (by decide)
  have U : ∀ x : Int, -1048576 < x.tmod 1048576 ∧ x.tmod 1048576 < 1048576 := fun x => tm_lt x (by decide)
  exact line_flat (x := v0.tmod 1048576) (y := v1.tmod 1048576) (z := v2.tmod 1048576) (s := sc1 n0) (t := sc2 n1) (mv_eq (by omega) (U v0) (T p0)).1 (mv_eq (by omega) (U v1) (T p1)).1 (mv_eq (by omega) (U v2) (T p2)).1 (mv_eq (by omega) (U v0) (T p0)).1 (mv_eq (by omega) (U v1) (T p1)).1 (mv_eq (by omega) (U v2) (T p2)).1
theorem line2 : flatT ⟨tmP 1152921504606846976 (by decide) p0 p1 p2, mvP (sc1 n0) (tmP 1152921504606846976 (by decide) p0 p1 p2) (tmP 1048576 (by decide) v0 v1 v2), incP (mvP (sc1 n0) (tmP 1152921504606846976 (by decide) p0 p1 p2) (tmP 1048576 (by decide) v0 v1 v2))⟩ = (decide (v1.tmod 1048576 = 0) && decide (v2.tmod 1048576 = 0)) := by
  have h1 := sc1_eq n0
  have T : ∀ x : Int, -1152921504606846976 < x.tmod 1152921504606846976 ∧ x.tmod 1152921504606846976 < 1152921504606846976 := fun x => tm_lt x (by decide)
  have U : ∀ x : Int, -1048576 < x.tmod 1048576 ∧ x.tmod 1048576 < 1048576 := fun x => tm_lt x (by decide)
  obtain ⟨e, e1, e2⟩ := mv_eq (s := sc1 n0) (by omega) (U v0) (T p0)
  refine inc_flat (x := v0.tmod 1048576) (y := v1.tmod 1048576) (z := v2.tmod 1048576) (s := sc1 n0) e (mv_eq (by omega) (U v1) (T p1)).1 (mv_eq (by omega) (U v2) (T p2)).1 ?_ rfl rfl (by omega)
  show IntKind.i64.wrap (mvW (sc1 n0) (p0.tmod 1152921504606846976) (v0.tmod 1048576) + 1) = _ + 1
  rw [wrap_id (by rw [e]; unfold IR; omega)]; rfl
end
set_option maxHeartbeats 16000000 in
theorem vcFl {p0 : Int} (hp0 : IR p0) {p1 : Int} (hp1 : IR p1) {p2 : Int} (hp2 : IR p2) {v0 : Int} (hv0 : IR v0) {v1 : Int} (hv1 : IR v1) {v2 : Int} (hv2 : IR v2) {n0 : Int} (hn0 : IR n0) {n1 : Int} (hn1 : IR n1) : vcF (envL 20) (hL lawC (envL 20)) Tryd.f8 [.agg [.int p0 hp0, .int p1 hp1, .int p2 hp2], .agg [.int v0 hv0, .int v1 hv1, .int v2 hv2], .agg [.int n0 hn0, .int n1 hn1]] [] fun u _ => ∀ ρ, u.den ρ = (SV.c (.val (.bool true))).den ρ := by
  conv => whnf
  refine .inr ?_
  conv => whnf
  refine .inl ?_
  conv => whnf
  refine ⟨trivial, ⟨rfl, rfl, ?_⟩⟩
  conv => whnf
  have F1 : flatT ⟨(tmP 1152921504606846976 (by decide) p0 p1 p2), (mvP (sc1 n0) (tmP 1152921504606846976 (by decide) p0 p1 p2) (tmP 1048576 (by decide) v0 v1 v2)), (mvP (sc2 n1) (tmP 1152921504606846976 (by decide) p0 p1 p2) (tmP 1048576 (by decide) v0 v1 v2))⟩ = true := line1 p0 p1 p2 v0 v1 v2 n0 n1
  have F2 : flatT ⟨(tmP 1152921504606846976 (by decide) p0 p1 p2), (mvP (sc1 n0) (tmP 1152921504606846976 (by decide) p0 p1 p2) (tmP 1048576 (by decide) v0 v1 v2)), (incP (mvP (sc1 n0) (tmP 1152921504606846976 (by decide) p0 p1 p2) (tmP 1048576 (by decide) v0 v1 v2)))⟩ = (decide (v1.tmod 1048576 = 0) && decide (v2.tmod 1048576 = 0)) := line2 p0 p1 p2 v0 v1 v2 n0
  refine .inl ?_
  conv => whnf
  refine .inr ⟨3, 8, 9, ?_⟩
  conv => whnf
  refine ⟨⟨fun _ _ => rfl, rfl, rfl⟩, fun r1 => ?_⟩
  conv => whnf
  refine .inl ?_
  conv => whnf
  refine ⟨3, ?_⟩
  conv => whnf
  refine ⟨.inl rfl, ⟨fun _ _ => rfl, trivial⟩, ?_⟩
  refine ⟨_, _, _, _, [⟨false, r1, 0, 3, 3, by unfold SliOk; decide, [(tmP 1152921504606846976 (by decide) p0 p1 p2), (mvP (sc1 n0) (tmP 1152921504606846976 (by decide) p0 p1 p2) (tmP 1048576 (by decide) v0 v1 v2)), (mvP (sc2 n1) (tmP 1152921504606846976 (by decide) p0 p1 p2) (tmP 1048576 (by decide) v0 v1 v2))], by simp, 3, by decide⟩], _, rfl, rfl, ⟨by simp, fun p hp => ?_⟩, fun o1 f1 ho1 hf1 => ?_⟩
  · obtain rfl := List.mem_singleton.1 hp
    exact ⟨by simp, .inr (List.mem_append_right _ (List.mem_singleton.2 rfl))⟩
  rw [heal1_flat (a := (tmP 1152921504606846976 (by decide) p0 p1 p2)) (b := (mvP (sc1 n0) (tmP 1152921504606846976 (by decide) p0 p1 p2) (tmP 1048576 (by decide) v0 v1 v2))) (c := (mvP (sc2 n1) (tmP 1152921504606846976 (by decide) p0 p1 p2) (tmP 1048576 (by decide) v0 v1 v2))) rfl F1] at ho1 hf1
  dsimp only at ho1 hf1
  obtain ⟨o1l, o1n, o1c, o1k⟩ := o1
  dsimp only at ho1
  subst ho1
  obtain ⟨f1l, f1n, f1c, f1k⟩ := f1
  dsimp only at hf1
  subst hf1
  conv => whnf
  refine .inl ?_
  conv => whnf
  refine .inr ⟨3, 12, 13, ?_⟩
  conv => whnf
  refine ⟨⟨fun _ _ => rfl, rfl, rfl⟩, fun r2 => ?_⟩
  conv => whnf
  refine .inl ?_
  conv => whnf
  refine ⟨3, ?_⟩
  conv => whnf
  refine ⟨.inl rfl, ⟨fun _ _ => rfl, trivial⟩, ?_⟩
  refine ⟨_, _, _, _, [⟨false, r2, 0, 3, 3, by unfold SliOk; decide, [(tmP 1152921504606846976 (by decide) p0 p1 p2), (mvP (sc1 n0) (tmP 1152921504606846976 (by decide) p0 p1 p2) (tmP 1048576 (by decide) v0 v1 v2)), (incP (mvP (sc1 n0) (tmP 1152921504606846976 (by decide) p0 p1 p2) (tmP 1048576 (by decide) v0 v1 v2)))], by simp, 4, by decide⟩], _, rfl, rfl, ⟨by simp, fun p hp => ?_⟩, fun o2 f2 ho2 hf2 => ?_⟩
  · obtain rfl := List.mem_singleton.1 hp
    exact ⟨by simp, .inr (List.mem_append_right _ (List.mem_singleton.2 rfl))⟩
  cases hfl : flatT ⟨(tmP 1152921504606846976 (by decide) p0 p1 p2), (mvP (sc1 n0) (tmP 1152921504606846976 (by decide) p0 p1 p2) (tmP 1048576 (by decide) v0 v1 v2)), (incP (mvP (sc1 n0) (tmP 1152921504606846976 (by decide) p0 p1 p2) (tmP 1048576 (by decide) v0 v1 v2)))⟩ with
  | true =>
    rw [heal1_flat (a := (tmP 1152921504606846976 (by decide) p0 p1 p2)) (b := (mvP (sc1 n0) (tmP 1152921504606846976 (by decide) p0 p1 p2) (tmP 1048576 (by decide) v0 v1 v2))) (c := (incP (mvP (sc1 n0) (tmP 1152921504606846976 (by decide) p0 p1 p2) (tmP 1048576 (by decide) v0 v1 v2)))) rfl hfl] at ho2 hf2
    dsimp only at ho2 hf2
    obtain ⟨o2l, o2n, o2c, o2k⟩ := o2
    dsimp only at ho2
    subst ho2
    obtain ⟨f2l, f2n, f2c, f2k⟩ := f2
    dsimp only at hf2
    subst hf2
    conv => whnf
    have hz : decide (v1.tmod 1048576 = 0) = true ∧ decide (v2.tmod 1048576 = 0) = true := by rw [F2] at hfl; simpa using hfl
    refine bcase_intro (fun h1 => ?_) (fun h1 => absurd (h1.symm.trans hz.1) (by decide))
    conv => whnf
    refine .inl ?_
    conv => whnf
    refine .inl ?_
    conv => whnf
    refine ⟨⟨ftsC_pure _, fun _ _ => rfl, trivial⟩, ⟨_, _, _, _, _, _, _, _, _, _, [⟨3, 25, by decide, by decide⟩], [⟨3, 25, by decide, by decide⟩], true, rfl, rfl, Nat.le_refl _, Nat.le_refl _, (by kernel_rfl), ?_⟩⟩
    conv => whnf
    refine bcase_intro (fun _ => ?_) (fun h => by exfalso; simp [hz.2] at h)
    conv => whnf
    exact fun ρ => true_ok (by simp [hz.2]) ρ
  | false =>
    rw [heal1_tri (a := (tmP 1152921504606846976 (by decide) p0 p1 p2)) (b := (mvP (sc1 n0) (tmP 1152921504606846976 (by decide) p0 p1 p2) (tmP 1048576 (by decide) v0 v1 v2))) (c := (incP (mvP (sc1 n0) (tmP 1152921504606846976 (by decide) p0 p1 p2) (tmP 1048576 (by decide) v0 v1 v2)))) rfl hfl] at ho2 hf2
    dsimp only at ho2 hf2
    obtain ⟨o2l, o2n, o2c, o2k⟩ := o2
    dsimp only at ho2
    subst ho2
    obtain ⟨f2l, f2n, f2c, f2k⟩ := f2
    dsimp only at hf2
    subst hf2
    conv => whnf
    have hz : (decide (v1.tmod 1048576 = 0) && decide (v2.tmod 1048576 = 0)) = false := by rw [← F2]; exact hfl
    refine bcase_intro (fun h1 => ?_) (fun h1 => ?_)
    · have hz2 : decide (v2.tmod 1048576 = 0) = false := by rw [h1, Bool.true_and] at hz; exact hz
      conv => whnf
      refine .inl ?_
      conv => whnf
      refine .inl ?_
      conv => whnf
      refine ⟨⟨ftsC_pure _, fun _ _ => rfl, trivial⟩, ⟨_, _, _, _, _, _, _, _, _, _, [⟨3, 25, by decide, by decide⟩], [⟨3, 25, by decide, by decide⟩], true, rfl, rfl, Nat.le_refl _, Nat.le_refl _, (by kernel_rfl), ?_⟩⟩
      conv => whnf
      refine bcase_intro (fun _ => ?_) (fun h => by exfalso; simp [hz2] at h)
      conv => whnf
      exact fun ρ => true_ok (by simp [hz2]) ρ
    · conv => whnf
      refine .inl ?_
      conv => whnf
      refine .inl ?_
      conv => whnf
      refine ⟨⟨ftsC_pure _, fun _ _ => rfl, trivial⟩, ⟨_, _, _, _, _, _, _, _, _, _, [⟨3, 25, by decide, by decide⟩], [⟨3, 25, by decide, by decide⟩], true, rfl, rfl, Nat.le_refl _, Nat.le_refl _, (by kernel_rfl), ?_⟩⟩
      conv => whnf
      exact fun ρ => true_ok (by simp) ρ
def dLawFl : Dn
  | [.agg [.int p0 hp0, .int p1 hp1, .int p2 hp2], .agg [.int v0 hv0, .int v1 hv1, .int v2 hv2], .agg [.int n0 hn0, .int n1 hn1]] => some (none, .c (.val (.bool true)))
  | _ => none
theorem spLawFl : SpOk Tryd.prog 8 dLawFl := ⟨⟨_, Tryd.func8, by kernel_rfl, by kernel_rfl⟩, fun args p v hd => by
  unfold dLawFl at hd
  split at hd
  · cases hd
    exact ⟨fun _ _ => rfl, fun _ ρ w => pure_okL (un := 20) ⟨Tryd.func8, by kernel_rfl, by kernel_rfl⟩ (fun _ _ => rfl) (fun _ _ => rfl) (vcFl _ _ _ _ _ _ _ _) ρ w⟩
  · cases hd⟩
end Go.Proofs.YtdjpbccaglkafaaDoor
