/- Flat triangles and normals, by the reckoner. -/
import Derived.Test.YtdjpbccaglkafaaDoorRya
import Derived.Test.YtdjpbccaglkafaaDoorLen
namespace Go.Proofs.YtdjpbccaglkafaaDoor
open Go.RowKit
set_option maxRecDepth 100000

/-- coordinates with few bits -/
def bigB (n : Int) : Bool := decide ((18 : Int) < (Lib.bitLen (IntKind.u64.wrap (maxI n (IntKind.i64.wrap (0 - n)))).toNat : Nat))
def smB : List Int → Bool
  | [] => true
  | n :: l => cond (bigB n) false (smB l)
theorem smB_t {n : Int} {l : List Int} (h : bigB n = true) : smB (n :: l) = false := by unfold smB; rw [h]; rfl
theorem smB_f {n : Int} {l : List Int} (h : bigB n = false) : smB (n :: l) = smB l := by rw [show smB (n :: l) = cond (bigB n) false (smB l) from rfl, h]; rfl
def smR : List Int → Bool
  | [] => true
  | n :: l => cond (decide (262144 < n)) false (cond (decide (n < -262144)) false (smR l))
theorem smR_t {n : Int} {l : List Int} (h : decide (262144 < n) = true) : smR (n :: l) = false := by unfold smR; rw [h]; rfl
theorem smR_t2 {n : Int} {l : List Int} (h1 : decide (262144 < n) = false) (h : decide (n < -262144) = true) : smR (n :: l) = false := by unfold smR; rw [h1, h]; rfl
theorem smR_f {n : Int} {l : List Int} (h1 : decide (262144 < n) = false) (h : decide (n < -262144) = false) : smR (n :: l) = smR l := by rw [show smR (n :: l) = cond (decide (262144 < n)) false (cond (decide (n < -262144)) false (smR l)) from rfl, h1, h]; rfl
theorem smR_bd : ∀ {l : List Int}, smR l = true → ∀ x ∈ l, x.natAbs ≤ 262144
  | [], _, x, hx => by cases hx
  | n :: l, h, x, hx => by
    cases h1 : decide (262144 < n) with
    | true => rw [smR_t h1] at h; cases h
    | false =>
      cases h2 : decide (n < -262144) with
      | true => rw [smR_t2 h1 h2] at h; cases h
      | false =>
        rw [smR_f h1 h2] at h
        rcases List.mem_cons.1 hx with rfl | hx
        · have := of_decide_eq_false h1; have := of_decide_eq_false h2; omega
        · exact smR_bd h x hx
theorem u64_ok (n : Int) : 0 ≤ IntKind.u64.wrap n ∧ IntKind.u64.wrap n ≤ 18446744073709551615 := by
  unfold IntKind.wrap; simp [IntKind.bits, IntKind.signed]; omega
theorem big_bd {n : Int} (hn : IR n) (h : bigB n = false) : n.natAbs ≤ 262144 := by
  unfold bigB at h
  rw [len_18] at h
  have h := of_decide_eq_false h
  unfold IR at hn
  unfold maxI at h
  have hw : IntKind.i64.wrap (0 - n) = if n = -9223372036854775808 then n else -n := by
    unfold IntKind.wrap; simp [IntKind.bits, IntKind.signed]; (repeat' split) <;> omega
  rw [hw] at h
  have hu : ∀ m : Int, 0 ≤ m → m ≤ 9223372036854775807 → IntKind.u64.wrap m = m := fun m h0 h1 => by unfold IntKind.wrap; simp [IntKind.bits, IntKind.signed]; omega
  by_cases he : n = -9223372036854775808
  · subst he
    exfalso; apply h; decide
  · rw [if_neg he] at h
    split at h
    · rw [hu _ (by omega) (by omega)] at h; omega
    · rw [hu _ (by omega) (by omega)] at h; omega
theorem smB_bd : ∀ {l : List Int}, smB l = true → (∀ x ∈ l, IR x) → ∀ x ∈ l, x.natAbs ≤ 262144
  | [], _, _, x, hx => by cases hx
  | n :: l, h, hi, x, hx => by
    cases h1 : bigB n with
    | true => rw [smB_t h1] at h; cases h
    | false =>
      rw [smB_f h1] at h
      rcases List.mem_cons.1 hx with rfl | hx
      · exact big_bd (hi _ List.mem_cons_self) h1
      · exact smB_bd h (fun y hy => hi y (List.mem_cons_of_mem _ hy)) x hx
theorem wrap_i {n : Int} (h : n.natAbs ≤ 4611686018427387904) : IntKind.i64.wrap n = n := wrap_id (by unfold IR; omega)
theorem mul_bd {a b : Int} {m n : Nat} (ha : a.natAbs ≤ m) (hb : b.natAbs ≤ n) : (a * b).natAbs ≤ m * n := by rw [Int.natAbs_mul]; exact Nat.mul_le_mul ha hb
/-- a minor of small vectors -/
theorem near_eq {a b c d e f g k : Int} (ha : a.natAbs ≤ 262144) (hb : b.natAbs ≤ 262144) (hc : c.natAbs ≤ 262144) (hd : d.natAbs ≤ 262144) (he : e.natAbs ≤ 262144) (hf : f.natAbs ≤ 262144) (hg : g.natAbs ≤ 262144) (hk : k.natAbs ≤ 262144) :
    IntKind.i64.wrap (IntKind.i64.wrap (IntKind.i64.wrap (a - b) * IntKind.i64.wrap (c - d)) - IntKind.i64.wrap (IntKind.i64.wrap (e - f) * IntKind.i64.wrap (g - k))) = (a - b) * (c - d) - (e - f) * (g - k) := by
  have h1 : (a - b).natAbs ≤ 524288 := by omega
  have h2 : (c - d).natAbs ≤ 524288 := by omega
  have h3 : (e - f).natAbs ≤ 524288 := by omega
  have h4 : (g - k).natAbs ≤ 524288 := by omega
  have h5 := mul_bd h1 h2
  have h6 := mul_bd h3 h4
  rw [wrap_i (n := a - b) (by omega), wrap_i (n := c - d) (by omega), wrap_i (n := e - f) (by omega), wrap_i (n := g - k) (by omega), wrap_i (n := (a - b) * (c - d)) (by omega), wrap_i (n := (e - f) * (g - k)) (by omega)]
  exact wrap_i (by omega)
def lenE : List (FuncId × Dn) := (59, dLen64) :: baseY4
theorem lenE_ok : AllOk lenE := .cons spLen64 baseY4_ok
def dSmall : Dr
  | [.c (.sli false b 0 4 _ _)], hf => (match hf b with
    | some ⟨_, _, [.int x1 _, .int y1 _, .int z1 _, .int x2 _, .int y2 _, .int z2 _, .int x3 _, .int y3 _, .int z3 _, .int x4 _, .int y4 _, .int z4 _], _⟩ => some (none, .c (.val (.bool (smB [x1, y1, z1, x2, y2, z2, x3, y3, z3, x4, y4, z4]))))
    | _ => none)
  | _, _ => none
set_option maxHeartbeats 4000000 in
theorem vcSmall {x1 y1 z1 x2 y2 z2 x3 y3 z3 x4 y4 z4 : Int} (hx1 : IR x1) (hy1 : IR y1) (hz1 : IR z1) (hx2 : IR x2) (hy2 : IR y2) (hz2 : IR z2) (hx3 : IR x3) (hy3 : IR y3) (hz3 : IR z3) (hx4 : IR x4) (hy4 : IR y4) (hz4 : IR z4) (ty cap : Nat) (hs : SliOk false 4 cap) : vcF (env 20 lenE) (inl (env 20 lenE) noF 0) Tryd.f45 [.c (.sli false 0 0 4 cap hs)] [⟨ty, true, [.int x1 hx1, .int y1 hy1, .int z1 hz1, .int x2 hx2, .int y2 hy2, .int z2 hz2, .int x3 hx3, .int y3 hy3, .int z3 hz3, .int x4 hx4, .int y4 hy4, .int z4 hz4], 0⟩] fun u _ => ∀ ρ, u.den ρ = (SV.c (.val (.bool (smB [x1, y1, z1, x2, y2, z2, x3, y3, z3, x4, y4, z4])))).den ρ := by
  conv => whnf
  refine ⟨u64_ok _, ?_⟩
  conv => whnf
  refine bcase_intro (fun h0 => ?_) (fun h0 => ?_)
  · conv => whnf
    exact fun ρ => sbool_e (Eq.symm (smB_t h0)) ρ
  conv => whnf
  refine ⟨u64_ok _, ?_⟩
  conv => whnf
  refine bcase_intro (fun h1 => ?_) (fun h1 => ?_)
  · conv => whnf
    exact fun ρ => sbool_e (Eq.symm ((smB_f h0).trans (smB_t h1))) ρ
  conv => whnf
  refine ⟨u64_ok _, ?_⟩
  conv => whnf
  refine bcase_intro (fun h2 => ?_) (fun h2 => ?_)
  · conv => whnf
    exact fun ρ => sbool_e (Eq.symm ((smB_f h0).trans ((smB_f h1).trans (smB_t h2)))) ρ
  conv => whnf
  refine ⟨u64_ok _, ?_⟩
  conv => whnf
  refine bcase_intro (fun h3 => ?_) (fun h3 => ?_)
  · conv => whnf
    exact fun ρ => sbool_e (Eq.symm ((smB_f h0).trans ((smB_f h1).trans ((smB_f h2).trans (smB_t h3))))) ρ
  conv => whnf
  refine ⟨u64_ok _, ?_⟩
  conv => whnf
  refine bcase_intro (fun h4 => ?_) (fun h4 => ?_)
  · conv => whnf
    exact fun ρ => sbool_e (Eq.symm ((smB_f h0).trans ((smB_f h1).trans ((smB_f h2).trans ((smB_f h3).trans (smB_t h4)))))) ρ
  conv => whnf
  refine ⟨u64_ok _, ?_⟩
  conv => whnf
  refine bcase_intro (fun h5 => ?_) (fun h5 => ?_)
  · conv => whnf
    exact fun ρ => sbool_e (Eq.symm ((smB_f h0).trans ((smB_f h1).trans ((smB_f h2).trans ((smB_f h3).trans ((smB_f h4).trans (smB_t h5))))))) ρ
  conv => whnf
  refine ⟨u64_ok _, ?_⟩
  conv => whnf
  refine bcase_intro (fun h6 => ?_) (fun h6 => ?_)
  · conv => whnf
    exact fun ρ => sbool_e (Eq.symm ((smB_f h0).trans ((smB_f h1).trans ((smB_f h2).trans ((smB_f h3).trans ((smB_f h4).trans ((smB_f h5).trans (smB_t h6)))))))) ρ
  conv => whnf
  refine ⟨u64_ok _, ?_⟩
  conv => whnf
  refine bcase_intro (fun h7 => ?_) (fun h7 => ?_)
  · conv => whnf
    exact fun ρ => sbool_e (Eq.symm ((smB_f h0).trans ((smB_f h1).trans ((smB_f h2).trans ((smB_f h3).trans ((smB_f h4).trans ((smB_f h5).trans ((smB_f h6).trans (smB_t h7))))))))) ρ
  conv => whnf
  refine ⟨u64_ok _, ?_⟩
  conv => whnf
  refine bcase_intro (fun h8 => ?_) (fun h8 => ?_)
  · conv => whnf
    exact fun ρ => sbool_e (Eq.symm ((smB_f h0).trans ((smB_f h1).trans ((smB_f h2).trans ((smB_f h3).trans ((smB_f h4).trans ((smB_f h5).trans ((smB_f h6).trans ((smB_f h7).trans (smB_t h8)))))))))) ρ
  conv => whnf
  refine ⟨u64_ok _, ?_⟩
  conv => whnf
  refine bcase_intro (fun h9 => ?_) (fun h9 => ?_)
  · conv => whnf
    exact fun ρ => sbool_e (Eq.symm ((smB_f h0).trans ((smB_f h1).trans ((smB_f h2).trans ((smB_f h3).trans ((smB_f h4).trans ((smB_f h5).trans ((smB_f h6).trans ((smB_f h7).trans ((smB_f h8).trans (smB_t h9))))))))))) ρ
  conv => whnf
  refine ⟨u64_ok _, ?_⟩
  conv => whnf
  refine bcase_intro (fun h10 => ?_) (fun h10 => ?_)
  · conv => whnf
    exact fun ρ => sbool_e (Eq.symm ((smB_f h0).trans ((smB_f h1).trans ((smB_f h2).trans ((smB_f h3).trans ((smB_f h4).trans ((smB_f h5).trans ((smB_f h6).trans ((smB_f h7).trans ((smB_f h8).trans ((smB_f h9).trans (smB_t h10)))))))))))) ρ
  conv => whnf
  refine ⟨u64_ok _, ?_⟩
  conv => whnf
  refine bcase_intro (fun h11 => ?_) (fun h11 => ?_)
  · conv => whnf
    exact fun ρ => sbool_e (Eq.symm ((smB_f h0).trans ((smB_f h1).trans ((smB_f h2).trans ((smB_f h3).trans ((smB_f h4).trans ((smB_f h5).trans ((smB_f h6).trans ((smB_f h7).trans ((smB_f h8).trans ((smB_f h9).trans ((smB_f h10).trans (smB_t h11))))))))))))) ρ
  conv => whnf
  exact fun ρ => sbool_e (Eq.symm ((smB_f h0).trans ((smB_f h1).trans ((smB_f h2).trans ((smB_f h3).trans ((smB_f h4).trans ((smB_f h5).trans ((smB_f h6).trans ((smB_f h7).trans ((smB_f h8).trans ((smB_f h9).trans ((smB_f h10).trans ((smB_f h11).trans ((rfl : smB [] = true))))))))))))))) ρ
theorem spSmall : SpR Tryd.prog 45 dSmall := by
  refine ⟨(⟨Tryd.func45, by kernel_rfl, by kernel_rfl⟩ : FnOk Tryd.prog 45 Tryd.f45).callable, fun args hf p v hd => ?_⟩
  unfold dSmall at hd
  split at hd
  · rename_i b cap hs
    split at hd
    · rename_i ty ro x1 hx1 y1 hy1 z1 hz1 x2 hx2 y2 hy2 z2 hz2 x3 hx3 y3 hy3 z3 hz3 x4 hx4 y4 hy4 z4 hz4 tl hb
      cases hd
      refine ⟨fun _ _ => rfl, fun _ ρ w hh => ?_⟩
      have hH := (hh b _ hb).1
      refine read_ok (P := Tryd.prog) (env_ok lenE_ok 20) mixed noF_ok ⟨Tryd.func45, by kernel_rfl, by kernel_rfl⟩ (fun _ _ => rfl) (fun i c hi => ?_) (fun _ => ρ b) (fun ρ' hρ => ?_) (vcSmall hx1 hy1 hz1 hx2 hy2 hz2 hx3 hy3 hz3 hx4 hy4 hz4 ty cap hs) w (fun i c hi => ?_)
      · cases i with
        | zero => simp [nthO] at hi; subst hi; exact ⟨rfl, fun _ _ => rfl⟩
        | succ i => simp [nthO] at hi
      · have := hρ 0 rfl
        simp only [List.map_cons, List.map_nil, SV.den, C.den, C.cells, this]
      · cases i with
        | zero => simp [nthO] at hi; subst hi; exact hH
        | succ i => simp [nthO] at hi
    · cases hd
  · cases hd
def dSmall2 : Dr
  | [.c (.sli false b 0 4 _ _)], hf => (match hf b with
    | some ⟨_, _, [.int x1 _, .int y1 _, .int z1 _, .int x2 _, .int y2 _, .int z2 _, .int x3 _, .int y3 _, .int z3 _, .int x4 _, .int y4 _, .int z4 _], _⟩ => some (none, .c (.val (.bool (smR [x1, y1, z1, x2, y2, z2, x3, y3, z3, x4, y4, z4]))))
    | _ => none)
  | _, _ => none
set_option maxHeartbeats 4000000 in
theorem vcSmall2 {x1 y1 z1 x2 y2 z2 x3 y3 z3 x4 y4 z4 : Int} (hx1 : IR x1) (hy1 : IR y1) (hz1 : IR z1) (hx2 : IR x2) (hy2 : IR y2) (hz2 : IR z2) (hx3 : IR x3) (hy3 : IR y3) (hz3 : IR z3) (hx4 : IR x4) (hy4 : IR y4) (hz4 : IR z4) (ty cap : Nat) (hs : SliOk false 4 cap) : vcF (env 20 baseY4) (inl (env 20 baseY4) noF 0) Tryd.f52 [.c (.sli false 0 0 4 cap hs)] [⟨ty, true, [.int x1 hx1, .int y1 hy1, .int z1 hz1, .int x2 hx2, .int y2 hy2, .int z2 hz2, .int x3 hx3, .int y3 hy3, .int z3 hz3, .int x4 hx4, .int y4 hy4, .int z4 hz4], 0⟩] fun u _ => ∀ ρ, u.den ρ = (SV.c (.val (.bool (smR [x1, y1, z1, x2, y2, z2, x3, y3, z3, x4, y4, z4])))).den ρ := by
  conv => whnf
  refine bcase_intro (fun h0 => ?_) (fun h0 => ?_)
  · conv => whnf
    exact fun ρ => sbool_e (Eq.symm (smR_t h0)) ρ
  conv => whnf
  refine bcase_intro (fun g0 => ?_) (fun g0 => ?_)
  · conv => whnf
    exact fun ρ => sbool_e (Eq.symm (smR_t2 h0 g0)) ρ
  conv => whnf
  refine bcase_intro (fun h1 => ?_) (fun h1 => ?_)
  · conv => whnf
    exact fun ρ => sbool_e (Eq.symm ((smR_f h0 g0).trans (smR_t h1))) ρ
  conv => whnf
  refine bcase_intro (fun g1 => ?_) (fun g1 => ?_)
  · conv => whnf
    exact fun ρ => sbool_e (Eq.symm ((smR_f h0 g0).trans (smR_t2 h1 g1))) ρ
  conv => whnf
  refine bcase_intro (fun h2 => ?_) (fun h2 => ?_)
  · conv => whnf
    exact fun ρ => sbool_e (Eq.symm ((smR_f h0 g0).trans ((smR_f h1 g1).trans (smR_t h2)))) ρ
  conv => whnf
  refine bcase_intro (fun g2 => ?_) (fun g2 => ?_)
  · conv => whnf
    exact fun ρ => sbool_e (Eq.symm ((smR_f h0 g0).trans ((smR_f h1 g1).trans (smR_t2 h2 g2)))) ρ
  conv => whnf
  refine bcase_intro (fun h3 => ?_) (fun h3 => ?_)
  · conv => whnf
    exact fun ρ => sbool_e (Eq.symm ((smR_f h0 g0).trans ((smR_f h1 g1).trans ((smR_f h2 g2).trans (smR_t h3))))) ρ
  conv => whnf
  refine bcase_intro (fun g3 => ?_) (fun g3 => ?_)
  · conv => whnf
    exact fun ρ => sbool_e (Eq.symm ((smR_f h0 g0).trans ((smR_f h1 g1).trans ((smR_f h2 g2).trans (smR_t2 h3 g3))))) ρ
  conv => whnf
  refine bcase_intro (fun h4 => ?_) (fun h4 => ?_)
  · conv => whnf
    exact fun ρ => sbool_e (Eq.symm ((smR_f h0 g0).trans ((smR_f h1 g1).trans ((smR_f h2 g2).trans ((smR_f h3 g3).trans (smR_t h4)))))) ρ
  conv => whnf
  refine bcase_intro (fun g4 => ?_) (fun g4 => ?_)
  · conv => whnf
    exact fun ρ => sbool_e (Eq.symm ((smR_f h0 g0).trans ((smR_f h1 g1).trans ((smR_f h2 g2).trans ((smR_f h3 g3).trans (smR_t2 h4 g4)))))) ρ
  conv => whnf
  refine bcase_intro (fun h5 => ?_) (fun h5 => ?_)
  · conv => whnf
    exact fun ρ => sbool_e (Eq.symm ((smR_f h0 g0).trans ((smR_f h1 g1).trans ((smR_f h2 g2).trans ((smR_f h3 g3).trans ((smR_f h4 g4).trans (smR_t h5))))))) ρ
  conv => whnf
  refine bcase_intro (fun g5 => ?_) (fun g5 => ?_)
  · conv => whnf
    exact fun ρ => sbool_e (Eq.symm ((smR_f h0 g0).trans ((smR_f h1 g1).trans ((smR_f h2 g2).trans ((smR_f h3 g3).trans ((smR_f h4 g4).trans (smR_t2 h5 g5))))))) ρ
  conv => whnf
  refine bcase_intro (fun h6 => ?_) (fun h6 => ?_)
  · conv => whnf
    exact fun ρ => sbool_e (Eq.symm ((smR_f h0 g0).trans ((smR_f h1 g1).trans ((smR_f h2 g2).trans ((smR_f h3 g3).trans ((smR_f h4 g4).trans ((smR_f h5 g5).trans (smR_t h6)))))))) ρ
  conv => whnf
  refine bcase_intro (fun g6 => ?_) (fun g6 => ?_)
  · conv => whnf
    exact fun ρ => sbool_e (Eq.symm ((smR_f h0 g0).trans ((smR_f h1 g1).trans ((smR_f h2 g2).trans ((smR_f h3 g3).trans ((smR_f h4 g4).trans ((smR_f h5 g5).trans (smR_t2 h6 g6)))))))) ρ
  conv => whnf
  refine bcase_intro (fun h7 => ?_) (fun h7 => ?_)
  · conv => whnf
    exact fun ρ => sbool_e (Eq.symm ((smR_f h0 g0).trans ((smR_f h1 g1).trans ((smR_f h2 g2).trans ((smR_f h3 g3).trans ((smR_f h4 g4).trans ((smR_f h5 g5).trans ((smR_f h6 g6).trans (smR_t h7))))))))) ρ
  conv => whnf
  refine bcase_intro (fun g7 => ?_) (fun g7 => ?_)
  · conv => whnf
    exact fun ρ => sbool_e (Eq.symm ((smR_f h0 g0).trans ((smR_f h1 g1).trans ((smR_f h2 g2).trans ((smR_f h3 g3).trans ((smR_f h4 g4).trans ((smR_f h5 g5).trans ((smR_f h6 g6).trans (smR_t2 h7 g7))))))))) ρ
  conv => whnf
  refine bcase_intro (fun h8 => ?_) (fun h8 => ?_)
  · conv => whnf
    exact fun ρ => sbool_e (Eq.symm ((smR_f h0 g0).trans ((smR_f h1 g1).trans ((smR_f h2 g2).trans ((smR_f h3 g3).trans ((smR_f h4 g4).trans ((smR_f h5 g5).trans ((smR_f h6 g6).trans ((smR_f h7 g7).trans (smR_t h8)))))))))) ρ
  conv => whnf
  refine bcase_intro (fun g8 => ?_) (fun g8 => ?_)
  · conv => whnf
    exact fun ρ => sbool_e (Eq.symm ((smR_f h0 g0).trans ((smR_f h1 g1).trans ((smR_f h2 g2).trans ((smR_f h3 g3).trans ((smR_f h4 g4).trans ((smR_f h5 g5).trans ((smR_f h6 g6).trans ((smR_f h7 g7).trans (smR_t2 h8 g8)))))))))) ρ
  conv => whnf
  refine bcase_intro (fun h9 => ?_) (fun h9 => ?_)
  · conv => whnf
    exact fun ρ => sbool_e (Eq.symm ((smR_f h0 g0).trans ((smR_f h1 g1).trans ((smR_f h2 g2).trans ((smR_f h3 g3).trans ((smR_f h4 g4).trans ((smR_f h5 g5).trans ((smR_f h6 g6).trans ((smR_f h7 g7).trans ((smR_f h8 g8).trans (smR_t h9))))))))))) ρ
  conv => whnf
  refine bcase_intro (fun g9 => ?_) (fun g9 => ?_)
  · conv => whnf
    exact fun ρ => sbool_e (Eq.symm ((smR_f h0 g0).trans ((smR_f h1 g1).trans ((smR_f h2 g2).trans ((smR_f h3 g3).trans ((smR_f h4 g4).trans ((smR_f h5 g5).trans ((smR_f h6 g6).trans ((smR_f h7 g7).trans ((smR_f h8 g8).trans (smR_t2 h9 g9))))))))))) ρ
  conv => whnf
  refine bcase_intro (fun h10 => ?_) (fun h10 => ?_)
  · conv => whnf
    exact fun ρ => sbool_e (Eq.symm ((smR_f h0 g0).trans ((smR_f h1 g1).trans ((smR_f h2 g2).trans ((smR_f h3 g3).trans ((smR_f h4 g4).trans ((smR_f h5 g5).trans ((smR_f h6 g6).trans ((smR_f h7 g7).trans ((smR_f h8 g8).trans ((smR_f h9 g9).trans (smR_t h10)))))))))))) ρ
  conv => whnf
  refine bcase_intro (fun g10 => ?_) (fun g10 => ?_)
  · conv => whnf
    exact fun ρ => sbool_e (Eq.symm ((smR_f h0 g0).trans ((smR_f h1 g1).trans ((smR_f h2 g2).trans ((smR_f h3 g3).trans ((smR_f h4 g4).trans ((smR_f h5 g5).trans ((smR_f h6 g6).trans ((smR_f h7 g7).trans ((smR_f h8 g8).trans ((smR_f h9 g9).trans (smR_t2 h10 g10)))))))))))) ρ
  conv => whnf
  refine bcase_intro (fun h11 => ?_) (fun h11 => ?_)
  · conv => whnf
    exact fun ρ => sbool_e (Eq.symm ((smR_f h0 g0).trans ((smR_f h1 g1).trans ((smR_f h2 g2).trans ((smR_f h3 g3).trans ((smR_f h4 g4).trans ((smR_f h5 g5).trans ((smR_f h6 g6).trans ((smR_f h7 g7).trans ((smR_f h8 g8).trans ((smR_f h9 g9).trans ((smR_f h10 g10).trans (smR_t h11))))))))))))) ρ
  conv => whnf
  refine bcase_intro (fun g11 => ?_) (fun g11 => ?_)
  · conv => whnf
    exact fun ρ => sbool_e (Eq.symm ((smR_f h0 g0).trans ((smR_f h1 g1).trans ((smR_f h2 g2).trans ((smR_f h3 g3).trans ((smR_f h4 g4).trans ((smR_f h5 g5).trans ((smR_f h6 g6).trans ((smR_f h7 g7).trans ((smR_f h8 g8).trans ((smR_f h9 g9).trans ((smR_f h10 g10).trans (smR_t2 h11 g11))))))))))))) ρ
  conv => whnf
  exact fun ρ => sbool_e (Eq.symm ((smR_f h0 g0).trans ((smR_f h1 g1).trans ((smR_f h2 g2).trans ((smR_f h3 g3).trans ((smR_f h4 g4).trans ((smR_f h5 g5).trans ((smR_f h6 g6).trans ((smR_f h7 g7).trans ((smR_f h8 g8).trans ((smR_f h9 g9).trans ((smR_f h10 g10).trans ((smR_f h11 g11).trans ((rfl : smR [] = true))))))))))))))) ρ
theorem spSmall2 : SpR Tryd.prog 52 dSmall2 := by
  refine ⟨(⟨Tryd.func52, by kernel_rfl, by kernel_rfl⟩ : FnOk Tryd.prog 52 Tryd.f52).callable, fun args hf p v hd => ?_⟩
  unfold dSmall2 at hd
  split at hd
  · rename_i b cap hs
    split at hd
    · rename_i ty ro x1 hx1 y1 hy1 z1 hz1 x2 hx2 y2 hy2 z2 hz2 x3 hx3 y3 hy3 z3 hz3 x4 hx4 y4 hy4 z4 hz4 tl hb
      cases hd
      refine ⟨fun _ _ => rfl, fun _ ρ w hh => ?_⟩
      have hH := (hh b _ hb).1
      refine read_ok (P := Tryd.prog) (env_ok baseY4_ok 20) mixed noF_ok ⟨Tryd.func52, by kernel_rfl, by kernel_rfl⟩ (fun _ _ => rfl) (fun i c hi => ?_) (fun _ => ρ b) (fun ρ' hρ => ?_) (vcSmall2 hx1 hy1 hz1 hx2 hy2 hz2 hx3 hy3 hz3 hx4 hy4 hz4 ty cap hs) w (fun i c hi => ?_)
      · cases i with
        | zero => simp [nthO] at hi; subst hi; exact ⟨rfl, fun _ _ => rfl⟩
        | succ i => simp [nthO] at hi
      · have := hρ 0 rfl
        simp only [List.map_cons, List.map_nil, SV.den, C.den, C.cells, this]
      · cases i with
        | zero => simp [nthO] at hi; subst hi; exact hH
        | succ i => simp [nthO] at hi
    · cases hd
  · cases hd
def dNear : Dn
  | [.agg [.int x1 _, .int y1 _, .int z1 _], .agg [.int x2 _, .int y2 _, .int z2 _]] =>
    some (none, .agg [.int (IntKind.i64.wrap (x2 - x1)) (IR.wrap _), .int (IntKind.i64.wrap (y2 - y1)) (IR.wrap _), .int (IntKind.i64.wrap (z2 - z1)) (IR.wrap _)])
  | _ => none
theorem spNear : SpOk Tryd.prog 46 dNear := sp_of2 (un := 20) (n := 0) ⟨Tryd.func46, by kernel_rfl, by kernel_rfl⟩ baseY4_ok noF_ok fun args p v hd => by
  unfold dNear at hd
  split at hd
  · rename_i x1 hx1 y1 hy1 z1 hz1 x2 hx2 y2 hy2 z2 hz2
    cases hd
    refine ⟨[.agg [.int x1 hx1, .int y1 hy1, .int z1 hz1], .agg [.int x2 hx2, .int y2 hy2, .int z2 hz2]], fun _ => rfl, fun _ _ => rfl, fun _ _ => rfl, fun _ => ?_⟩
    conv => whnf
    exact fun _ => rfl
  · cases hd
def dVec2 : Dn
  | [.agg [.int x1 _, .int y1 _, .int z1 _], .agg [.int x2 _, .int y2 _, .int z2 _]] =>
    some (none, .agg [.int (IntKind.i64.wrap (x2 - x1)) (IR.wrap _), .int (IntKind.i64.wrap (y2 - y1)) (IR.wrap _), .int (IntKind.i64.wrap (z2 - z1)) (IR.wrap _)])
  | _ => none
theorem spVec2 : SpOk Tryd.prog 54 dVec2 := sp_of2 (un := 20) (n := 0) ⟨Tryd.func54, by kernel_rfl, by kernel_rfl⟩ baseY4_ok noF_ok fun args p v hd => by
  unfold dVec2 at hd
  split at hd
  · rename_i x1 hx1 y1 hy1 z1 hz1 x2 hx2 y2 hy2 z2 hz2
    cases hd
    refine ⟨[.agg [.int x1 hx1, .int y1 hy1, .int z1 hz1], .agg [.int x2 hx2, .int y2 hy2, .int z2 hz2]], fun _ => rfl, fun _ _ => rfl, fun _ _ => rfl, fun _ => ?_⟩
    conv => whnf
    exact fun _ => rfl
  · cases hd
noncomputable def fxTurn : FuncId → Option Func := lk [(60, Tryd.f60)]
theorem fxTurn_ok : ∀ f fn, fxTurn f = some fn → FnOk Tryd.prog f fn := lkF_ok fun x hx => by
  simp only [List.mem_cons, List.not_mem_nil, or_false] at hx
  subst hx
  · exact ⟨Tryd.func60, by kernel_rfl, by kernel_rfl⟩
def dNProd : Dn
  | [.agg [.int u0 _, .int u1 _, .int u2 _], .agg [.int v0 _, .int v1 _, .int v2 _]] =>
    some (none, .agg [.int (IntKind.i64.wrap (IntKind.i64.wrap (u1 * v2) - IntKind.i64.wrap (u2 * v1))) (IR.wrap _), .int (IntKind.i64.wrap (IntKind.i64.wrap (u2 * v0) - IntKind.i64.wrap (u0 * v2))) (IR.wrap _), .int (IntKind.i64.wrap (IntKind.i64.wrap (u0 * v1) - IntKind.i64.wrap (u1 * v0))) (IR.wrap _)])
  | _ => none
theorem spNProd : SpOk Tryd.prog 47 dNProd := sp_of2 (un := 20) (n := 3) ⟨Tryd.func47, by kernel_rfl, by kernel_rfl⟩ baseY4_ok fxTurn_ok fun args p v hd => by
  unfold dNProd at hd
  split at hd
  · rename_i u0 hu0 u1 hu1 u2 hu2 v0 hv0 v1 hv1 v2 hv2
    cases hd
    refine ⟨[.agg [.int u0 hu0, .int u1 hu1, .int u2 hu2], .agg [.int v0 hv0, .int v1 hv1, .int v2 hv2]], fun _ => rfl, fun _ _ => rfl, fun _ _ => rfl, fun _ => ?_⟩
    conv => whnf
    exact fun _ => rfl
  · cases hd
def dIProd2 : Dn
  | [.agg [.int u0 _, .int u1 _, .int u2 _], .agg [.int v0 _, .int v1 _, .int v2 _]] =>
    some (none, .agg [.int (IntKind.i64.wrap (IntKind.i64.wrap (u1 * v2) - IntKind.i64.wrap (u2 * v1))) (IR.wrap _), .int (IntKind.i64.wrap (IntKind.i64.wrap (u2 * v0) - IntKind.i64.wrap (u0 * v2))) (IR.wrap _), .int (IntKind.i64.wrap (IntKind.i64.wrap (u0 * v1) - IntKind.i64.wrap (u1 * v0))) (IR.wrap _)])
  | _ => none
theorem spIProd2 : SpOk Tryd.prog 53 dIProd2 := sp_of2 (un := 20) (n := 3) ⟨Tryd.func53, by kernel_rfl, by kernel_rfl⟩ baseY4_ok fxTurn_ok fun args p v hd => by
  unfold dIProd2 at hd
  split at hd
  · rename_i u0 hu0 u1 hu1 u2 hu2 v0 hv0 v1 hv1 v2 hv2
    cases hd
    refine ⟨[.agg [.int u0 hu0, .int u1 hu1, .int u2 hu2], .agg [.int v0 hv0, .int v1 hv1, .int v2 hv2]], fun _ => rfl, fun _ _ => rfl, fun _ _ => rfl, fun _ => ?_⟩
    conv => whnf
    exact fun _ => rfl
  · cases hd
theorem sgn_neg {n : Int} (h : decide (n < 0) = true) : n.sign = -1 := Int.sign_eq_neg_one_of_neg (of_decide_eq_true h)
theorem sgn_pos {n : Int} (h : decide (0 < n) = true) : n.sign = 1 := Int.sign_eq_one_of_pos (of_decide_eq_true h)
theorem sgn_0 {n : Int} (h : decide (n < 0) = false) (h1 : decide (0 < n) = false) : n.sign = 0 := by
  have h := of_decide_eq_false h; have h1 := of_decide_eq_false h1
  have : n = 0 := by omega
  subst this; rfl
def dISign : Dn
  | [.c (.int n _)] =>
    some (none, .c (.int n.sign (ir_sign n)))
  | _ => none
theorem spISign : SpOk Tryd.prog 48 dISign := sp_of2 (un := 20) (n := 0) ⟨Tryd.func48, by kernel_rfl, by kernel_rfl⟩ baseY4_ok noF_ok fun args p v hd => by
  unfold dISign at hd
  split at hd
  · rename_i n hn
    cases hd
    refine ⟨[.c (.int n hn)], fun _ => rfl, fun _ _ => rfl, fun _ _ => rfl, fun _ => ?_⟩
    conv => whnf
    refine bcase_intro (fun h0 => ?_) (fun h0 => ?_)
    · conv => whnf
      exact fun ρ => sint_e (Eq.symm (sgn_neg h0)) ρ
    conv => whnf
    refine bcase_intro (fun h1 => ?_) (fun h1 => ?_)
    · conv => whnf
      exact fun ρ => sint_e (Eq.symm (sgn_pos h1)) ρ
    conv => whnf
    exact fun ρ => sint_e (Eq.symm (sgn_0 h0 h1)) ρ
  · cases hd
def dISign2 : Dn
  | [.c (.int n _)] =>
    some (none, .c (.int n.sign (ir_sign n)))
  | _ => none
theorem spISign2 : SpOk Tryd.prog 55 dISign2 := sp_of2 (un := 20) (n := 0) ⟨Tryd.func55, by kernel_rfl, by kernel_rfl⟩ baseY4_ok noF_ok fun args p v hd => by
  unfold dISign2 at hd
  split at hd
  · rename_i n hn
    cases hd
    refine ⟨[.c (.int n hn)], fun _ => rfl, fun _ _ => rfl, fun _ _ => rfl, fun _ => ?_⟩
    conv => whnf
    refine bcase_intro (fun h0 => ?_) (fun h0 => ?_)
    · conv => whnf
      exact fun ρ => sint_e (Eq.symm (sgn_neg h0)) ρ
    conv => whnf
    refine bcase_intro (fun h1 => ?_) (fun h1 => ?_)
    · conv => whnf
      exact fun ρ => sint_e (Eq.symm (sgn_pos h1)) ρ
    conv => whnf
    exact fun ρ => sint_e (Eq.symm (sgn_0 h0 h1)) ρ
  · cases hd
abbrev vsub (x1 y1 z1 x2 y2 z2 : Int) : V3 := V3.sub ⟨x2, y2, z2⟩ ⟨x1, y1, z1⟩
noncomputable def fxTurn2 : FuncId → Option Func := lk [(60, Tryd.f60)]
theorem fxTurn2_ok : ∀ f fn, fxTurn2 f = some fn → FnOk Tryd.prog f fn := lkF_ok fun x hx => by
  simp only [List.mem_cons, List.not_mem_nil, or_false] at hx
  subst hx
  · exact ⟨Tryd.func60, by kernel_rfl, by kernel_rfl⟩
def dFProd : Dn
  | [.agg [.wid ju0 u0 hu0, .wid ju1 u1 hu1, .wid ju2 u2 hu2], .agg [.wid jv0 v0 hv0, .wid jv1 v1 hv1, .wid jv2 v2 hv2]] =>
    if ju0 ≤ 1000000 ∧ ju1 ≤ 1000000 ∧ ju2 ≤ 1000000 ∧ jv0 ≤ 1000000 ∧ jv1 ≤ 1000000 ∧ jv2 ≤ 1000000 then some (none, .agg [.wid ((ju1 + jv2) + (ju2 + jv1) + 1) ((V3.cross ⟨u0, u1, u2⟩ ⟨v0, v1, v2⟩ : V3).x) (sm_subj (Sm.mul hu1 hv2) (Sm.mul hu2 hv1)), .wid ((ju2 + jv0) + (ju0 + jv2) + 1) ((V3.cross ⟨u0, u1, u2⟩ ⟨v0, v1, v2⟩ : V3).y) (sm_subj (Sm.mul hu2 hv0) (Sm.mul hu0 hv2)), .wid ((ju0 + jv1) + (ju1 + jv0) + 1) ((V3.cross ⟨u0, u1, u2⟩ ⟨v0, v1, v2⟩ : V3).z) (sm_subj (Sm.mul hu0 hv1) (Sm.mul hu1 hv0))]) else none
  | _ => none
theorem spFProd : SpOk Tryd.prog 50 dFProd := sp_of2 (un := 20) (n := 3) ⟨Tryd.func50, by kernel_rfl, by kernel_rfl⟩ baseY4_ok fxTurn2_ok fun args p v hd => by
  unfold dFProd at hd
  split at hd
  · rename_i ju0 u0 hu0 ju1 u1 hu1 ju2 u2 hu2 jv0 v0 hv0 jv1 v1 hv1 jv2 v2 hv2
    split at hd
    · rename_i hcon
      cases hd
      refine ⟨[.agg [.wid 1000000 u0 (hu0.mono hcon.1), .wid 1000000 u1 (hu1.mono hcon.2.1), .wid 1000000 u2 (hu2.mono hcon.2.2.1)], .agg [.wid 1000000 v0 (hv0.mono hcon.2.2.2.1), .wid 1000000 v1 (hv1.mono hcon.2.2.2.2.1), .wid 1000000 v2 (hv2.mono hcon.2.2.2.2.2)]], fun _ => rfl, fun _ _ => rfl, fun _ _ => rfl, fun _ => ?_⟩
      conv => whnf
      exact fun _ => rfl
    · cases hd
  · cases hd
def dMinus2 : Dn
  | [.agg [.wid ja a ha], .agg [.wid jb b hb], .agg [.wid jc c hc], .agg [.wid jd d hd]] =>
    if ja ≤ 2000000 ∧ jb ≤ 2000000 ∧ jc ≤ 2000000 ∧ jd ≤ 2000000 then some (none, .agg [.wid ((ja + jb) + (jc + jd) + 1) (a * b - c * d) (sm_subj (Sm.mul ha hb) (Sm.mul hc hd))]) else none
  | _ => none
theorem spMinus2 : SpOk Tryd.prog 65 dMinus2 := sp_of2 (un := 20) (n := 0) ⟨Tryd.func65, by kernel_rfl, by kernel_rfl⟩ baseY4_ok noF_ok fun args p v hd => by
  unfold dMinus2 at hd
  split at hd
  · rename_i ja a ha jb b hb jc c hc jd d hd
    split at hd
    · rename_i hcon
      cases hd
      refine ⟨[.agg [.wid 2000000 a (ha.mono hcon.1)], .agg [.wid 2000000 b (hb.mono hcon.2.1)], .agg [.wid 2000000 c (hc.mono hcon.2.2.1)], .agg [.wid 2000000 d (hd.mono hcon.2.2.2)]], fun _ => rfl, fun _ _ => rfl, fun _ _ => rfl, fun _ => ?_⟩
      conv => whnf
      exact fun _ => rfl
    · cases hd
  · cases hd
def dWide2 : Dn
  | [.agg [.int x1 hx1, .int y1 hy1, .int z1 hz1], .agg [.int x2 hx2, .int y2 hy2, .int z2 hz2]] =>
    some (none, .agg [.wid 129 (x2 - x1) (sm_subj (smI hx2) (smI hx1)), .wid 129 (y2 - y1) (sm_subj (smI hy2) (smI hy1)), .wid 129 (z2 - z1) (sm_subj (smI hz2) (smI hz1))])
  | _ => none
theorem spWide2 : SpOk Tryd.prog 57 dWide2 := sp_of2 (un := 20) (n := 0) ⟨Tryd.func57, by kernel_rfl, by kernel_rfl⟩ baseY4_ok noF_ok fun args p v hd => by
  unfold dWide2 at hd
  split at hd
  · rename_i x1 hx1 y1 hy1 z1 hz1 x2 hx2 y2 hy2 z2 hz2
    cases hd
    refine ⟨[.agg [.int x1 hx1, .int y1 hy1, .int z1 hz1], .agg [.int x2 hx2, .int y2 hy2, .int z2 hz2]], fun _ => rfl, fun _ _ => rfl, fun _ _ => rfl, fun _ => ?_⟩
    conv => whnf
    exact fun _ => rfl
  · cases hd
def baseF : List (FuncId × Dn) := (65, dMinus2) :: baseY4
theorem baseF_ok : AllOk baseF := .cons spMinus2 baseY4_ok
def dWProd2 : Dn
  | [.agg [.wid ju0 u0 hu0, .wid ju1 u1 hu1, .wid ju2 u2 hu2], .agg [.wid jv0 v0 hv0, .wid jv1 v1 hv1, .wid jv2 v2 hv2]] =>
    if ju0 ≤ 1000000 ∧ ju1 ≤ 1000000 ∧ ju2 ≤ 1000000 ∧ jv0 ≤ 1000000 ∧ jv1 ≤ 1000000 ∧ jv2 ≤ 1000000 then some (none, .agg [.wid ((ju1 + jv2) + (ju2 + jv1) + 1) ((V3.cross ⟨u0, u1, u2⟩ ⟨v0, v1, v2⟩ : V3).x) (sm_subj (Sm.mul hu1 hv2) (Sm.mul hu2 hv1)), .wid ((ju2 + jv0) + (ju0 + jv2) + 1) ((V3.cross ⟨u0, u1, u2⟩ ⟨v0, v1, v2⟩ : V3).y) (sm_subj (Sm.mul hu2 hv0) (Sm.mul hu0 hv2)), .wid ((ju0 + jv1) + (ju1 + jv0) + 1) ((V3.cross ⟨u0, u1, u2⟩ ⟨v0, v1, v2⟩ : V3).z) (sm_subj (Sm.mul hu0 hv1) (Sm.mul hu1 hv0))]) else none
  | _ => none
theorem spWProd2 : SpOk Tryd.prog 56 dWProd2 := sp_of2 (un := 20) (n := 0) ⟨Tryd.func56, by kernel_rfl, by kernel_rfl⟩ baseF_ok noF_ok fun args p v hd => by
  unfold dWProd2 at hd
  split at hd
  · rename_i ju0 u0 hu0 ju1 u1 hu1 ju2 u2 hu2 jv0 v0 hv0 jv1 v1 hv1 jv2 v2 hv2
    split at hd
    · rename_i hcon
      cases hd
      refine ⟨[.agg [.wid 1000000 u0 (hu0.mono hcon.1), .wid 1000000 u1 (hu1.mono hcon.2.1), .wid 1000000 u2 (hu2.mono hcon.2.2.1)], .agg [.wid 1000000 v0 (hv0.mono hcon.2.2.2.1), .wid 1000000 v1 (hv1.mono hcon.2.2.2.2.1), .wid 1000000 v2 (hv2.mono hcon.2.2.2.2.2)]], fun _ => rfl, fun _ _ => rfl, fun _ _ => rfl, fun _ => ?_⟩
      conv => whnf
      exact fun _ => rfl
    · cases hd
  · cases hd
def baseF1 : List (FuncId × Dn) := (46, dNear) :: (54, dVec2) :: (47, dNProd) :: (53, dIProd2) :: (48, dISign) :: (55, dISign2) :: (49, dFar) :: (50, dFProd) :: (57, dWide2) :: (56, dWProd2) :: baseF
theorem baseF1_ok : AllOk baseF1 := .cons spNear <| .cons spVec2 <| .cons spNProd <| .cons spIProd2 <| .cons spISign <| .cons spISign2 <| .cons spFar <| .cons spFProd <| .cons spWide2 <| .cons spWProd2 <| baseF_ok
end Go.Proofs.YtdjpbccaglkafaaDoor
