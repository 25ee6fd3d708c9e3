/- law 05: HealTurned. -/
import Derived.Test.YtdjpbccaglkafaaDoorH5B
namespace Go.Proofs.YtdjpbccaglkafaaDoor
open Go.RowKit
set_option maxRecDepth 100000

/-- a list of polygons of the call's own -/
structure OY where
  l : List PY
  nl : Bool
  cap : Nat
  ok : SliOk nl l.length cap
def OY.sl (o : OY) (b : Nat) : SV := .c (.sli o.nl b 0 o.l.length o.cap o.ok)
def OY.blk (o : OY) : Blk := ⟨31, o.nl, pysC o.l, (o.cap - o.l.length) * 2⟩
def OY.none : OY := ⟨[], true, 0, by unfold SliOk; decide⟩
theorem OY.new (o : OY) : NewB o.blk := by
  refine ⟨pysC_pure o.l, ?_⟩
  cases h : o.nl with
  | false => exact .inl h
  | true =>
    right
    have h1 := o.ok.1; have h2 := o.ok.2.2 h
    have : o.l = [] := List.eq_nil_of_length_eq_zero (by omega)
    unfold OY.blk Blk.void
    rw [h, this]; rfl
theorem OY.app (o : OY) {m : Nat} (hm : (o.l.length + m) * 2 ≤ 5000000000000) : o.blk.ty = 31 ∧ o.blk.ro = o.nl ∧ sizeC o.blk.cs = o.l.length * 2 ∧ (o.nl = false → sizeC o.blk.cs + o.blk.tl = o.cap * 2) ∧ (o.l.length + m) * 2 ≤ 5000000000000 := by
  have h1 : sizeC o.blk.cs = o.l.length * 2 := by show sizeC (pysC o.l) = _; rw [pysC_size]; omega
  refine ⟨rfl, rfl, h1, fun _ => ?_, hm⟩
  rw [h1]
  show o.l.length * 2 + (o.cap - o.l.length) * 2 = o.cap * 2
  have := o.ok.1
  omega
def OY.push (o : OY) (m : List PY) {n : Nat} (hn : m.length = n) (cap2 : Nat) (h2 : SliOk (o.nl && decide (n = 0)) (o.l.length + n) cap2) : OY := ⟨o.l ++ m, o.nl && decide (n = 0), cap2, by rw [List.length_append, hn]; exact h2⟩
theorem OY.push_sl (o : OY) (m : List PY) {n : Nat} (hn : m.length = n) (cap2 : Nat) (h2 : SliOk (o.nl && decide (n = 0)) (o.l.length + n) cap2) (b : Nat) (ρ : Rho) : (SV.c (.sli (o.nl && decide (n = 0)) b 0 (o.l.length + n) cap2 h2)).den ρ = ((o.push m hn cap2 h2).sl b).den ρ := by
  simp only [OY.sl, OY.push, SV.den, C.den, C.cells, List.length_append, hn]
theorem OY.push_blk (o : OY) (m : List PY) {n : Nat} (hn : m.length = n) (cap2 : Nat) (h2 : SliOk (o.nl && decide (n = 0)) (o.l.length + n) cap2) {cs : List C} (hcs : ∀ ρ, cellsL ρ cs = cellsL ρ (pysC m)) :
    31 = (o.push m hn cap2 h2).blk.ty ∧ (o.nl && decide (n = 0)) = (o.push m hn cap2 h2).blk.ro ∧ (cap2 - (o.l.length + n)) * 2 = (o.push m hn cap2 h2).blk.tl ∧ ∀ ρ, cellsL ρ (pysC o.l ++ cs) = cellsL ρ (o.push m hn cap2 h2).blk.cs := by
  refine ⟨rfl, rfl, ?_, fun ρ => ?_⟩
  · simp only [OY.push, OY.blk, List.length_append, hn]
  · show _ = cellsL ρ (pysC (o.l ++ m))
    rw [pysC_append, cellsL_append, cellsL_append, hcs]
def trn (n : Int) (t : TR) : TR := ⟨⟨tn (n % 6) 0 t.a.x t.b.x t.c.x, tn (n % 6) 0 t.a.y t.b.y t.c.y, tn (n % 6) 0 t.a.z t.b.z t.c.z, ir_tn t.a.hx t.b.hx t.c.hx _ _, ir_tn t.a.hy t.b.hy t.c.hy _ _, ir_tn t.a.hz t.b.hz t.c.hz _ _⟩, ⟨tn (n % 6) 1 t.a.x t.b.x t.c.x, tn (n % 6) 1 t.a.y t.b.y t.c.y, tn (n % 6) 1 t.a.z t.b.z t.c.z, ir_tn t.a.hx t.b.hx t.c.hx _ _, ir_tn t.a.hy t.b.hy t.c.hy _ _, ir_tn t.a.hz t.b.hz t.c.hz _ _⟩, ⟨tn (n % 6) 2 t.a.x t.b.x t.c.x, tn (n % 6) 2 t.a.y t.b.y t.c.y, tn (n % 6) 2 t.a.z t.b.z t.c.z, ir_tn t.a.hx t.b.hx t.c.hx _ _, ir_tn t.a.hy t.b.hy t.c.hy _ _, ir_tn t.a.hz t.b.hz t.c.hz _ _⟩⟩
def T0 : TR := ⟨pt 0 0 7, pt 1 1 7, pt 5 25 7⟩
structure HtI (L : List ZB) (k : Nat) (fam : List Ent) (o : OY) (f : OF) : Prop where
  k0 : 1 ≤ k
  k1 : k ≤ L.length
  k2 : k ≤ 12
  len : o.l.length = k + 1
  ps : ∀ p ∈ o.l, p.len ≤ 1000 ∧ p.In fam
  st : healT o.l = ⟨[T0], f.l⟩
  fl : f.l.length = k
abbrev GT (L : List ZB) := Option {g : Nat × List Ent × OY × OF // HtI L g.1 g.2.1 g.2.2.1 g.2.2.2}
def oy1 : SV := .c (.sli false 4 0 1 1 (by unfold SliOk; decide))
def GT.k {L : List ZB} : GT L → Nat
  | none => 0
  | some g => g.1.1
theorem GT.k2 {L : List ZB} : ∀ g : GT L, g.k ≤ 12
  | none => Nat.zero_le _
  | some g => g.2.k2
def GT.sl {L : List ZB} : GT L → SV
  | none => oy1
  | some g => g.1.2.2.1.sl 4
def GT.f {L : List ZB} : GT L → OF
  | none => OF.none
  | some g => g.1.2.2.2
def GT.hp {L : List ZB} (g : GT L) (ty : TypeId) : List Blk :=
  match g with
  | none => [⟨.t ty, true, u8C L, 0⟩, ⟨.x [], true, [], 2⟩, ⟨45, false, trC T0, 0⟩, ⟨34, false, trC T0, 0⟩, ⟨31, false, [.sli false 3 0 3 3 (by unfold SliOk; decide), .int 100 (by decide)], 0⟩, OF.none.blk]
  | some g => [⟨.t ty, true, u8C L, 0⟩, ⟨.x g.1.2.1, true, [], 2⟩, ⟨45, false, trC T0, 0⟩, ⟨.t 0, true, [], 0⟩, g.1.2.2.1.blk, g.1.2.2.2.blk]
theorem ir_12 {k : Nat} (h : k ≤ 12) : IR k := by unfold IR; omega
theorem trn_mod {n m : Int} (h : n % 6 = m % 6) (t : TR) : trn n t = trn m t := by unfold trn; simp only [h]
theorem step_same0 {pl : Int} {hp : IR pl} {b : List FT} {t : TR} (h1 : flatT t = false) (h2 : firstAl t [T0] = 1) : stepT pl hp ⟨[T0], b⟩ t = ⟨[T0], b ++ [⟨pl, 24, hp, ir24⟩]⟩ := by
  unfold stepT; rw [if_neg (by rw [h1]; decide), if_pos h2]; rfl
theorem step_turn0 {pl : Int} {hp : IR pl} {b : List FT} {t : TR} (h1 : flatT t = false) (h2 : firstAl t [T0] = 2) : stepT pl hp ⟨[T0], b⟩ t = ⟨[T0], b ++ [⟨pl, 26, hp, ir26⟩]⟩ := by
  unfold stepT; rw [if_neg (by rw [h1]; decide), if_neg (by rw [h2]; decide), if_pos h2]; rfl
theorem kind_ge {pl : Int} {hp : IR pl} {b : List FT} {z : ZB} (h : z.z.tmod 6 ≥ 3) : stepT pl hp ⟨[T0], b⟩ (trn (IntKind.i64.wrap z.z) T0) = ⟨[T0], b ++ [⟨pl, 26, hp, ir26⟩]⟩ := by
  have h0 := z.h
  rw [wrap_id (by unfold IR; omega)]
  rw [Int.tmod_eq_emod_of_nonneg h0.1] at h
  have : z.z % 6 = 3 ∨ z.z % 6 = 4 ∨ z.z % 6 = 5 := by omega
  rcases this with e | e | e
  · rw [trn_mod (m := 3) e]; exact step_turn0 (by kernel_rfl) (by kernel_rfl)
  · rw [trn_mod (m := 4) e]; exact step_turn0 (by kernel_rfl) (by kernel_rfl)
  · rw [trn_mod (m := 5) e]; exact step_turn0 (by kernel_rfl) (by kernel_rfl)
theorem kind_lt {pl : Int} {hp : IR pl} {b : List FT} {z : ZB} (h : ¬ z.z.tmod 6 ≥ 3) : stepT pl hp ⟨[T0], b⟩ (trn (IntKind.i64.wrap z.z) T0) = ⟨[T0], b ++ [⟨pl, 24, hp, ir24⟩]⟩ := by
  have h0 := z.h
  rw [wrap_id (by unfold IR; omega)]
  rw [Int.tmod_eq_emod_of_nonneg h0.1] at h
  have : z.z % 6 = 0 ∨ z.z % 6 = 1 ∨ z.z % 6 = 2 := by omega
  rcases this with e | e | e
  · rw [trn_mod (m := 0) e]; exact step_same0 (by kernel_rfl) (by kernel_rfl)
  · rw [trn_mod (m := 1) e]; exact step_same0 (by kernel_rfl) (by kernel_rfl)
  · rw [trn_mod (m := 2) e]; exact step_same0 (by kernel_rfl) (by kernel_rfl)
theorem heal_snoc (l : List PY) (p : PY) : healT (l ++ [p]) = polyT (healT l) p := by unfold healT; rw [List.foldl_append]; rfl
theorem heal_t0 {p : PY} (h : p.cor = [T0.a, T0.b, T0.c]) : healT [p] = ⟨[T0], []⟩ := heal1_tri h (by kernel_rfl)
def piece (r : Nat) (t : TR) : Ent := ⟨(r, 0), ptsC [t.a, t.b, t.c]⟩
theorem HtI.next_ge {L : List ZB} {k : Nat} {fam : List Ent} {o : OY} {f : OF} (hI : HtI L k fam o f) (hlt : k < L.length) (h12 : k < 12) (r : Nat) {hk : IR ((k : Nat) : Int)} {c2 c3 : Nat} (k2 : SliOk (o.nl && decide (1 = 0)) (o.l.length + 1) c2) (k3 : SliOk (f.nl && decide (1 = 0)) (f.l.length + 1) c3) (h3 : L[k].z.tmod 6 ≥ 3) :
    HtI L (k + 1) (fam ++ [piece r (trn (IntKind.i64.wrap L[k].z) T0)]) (o.push [(⟨false, r, 0, 3, 3, by unfold SliOk; decide, [(trn (IntKind.i64.wrap L[k].z) T0).a, (trn (IntKind.i64.wrap L[k].z) T0).b, (trn (IntKind.i64.wrap L[k].z) T0).c], by simp, ((k : Nat) : Int), hk⟩ : PY)] rfl c2 k2) (f.push [⟨((k : Nat) : Int), 26, hk, by decide⟩] rfl c3 k3) := by
  refine ⟨by omega, hlt, h12, ?_, fun p hp => ?_, ?_, ?_⟩
  · show (o.l ++ [_]).length = _; rw [List.length_append, hI.len]; rfl
  · rcases List.mem_append.1 (show p ∈ o.l ++ [_] from hp) with hp | hp
    · exact ⟨(hI.ps p hp).1, (hI.ps p hp).2.imp id fun h => List.mem_append_left _ h⟩
    · obtain rfl := List.mem_singleton.1 hp
      exact ⟨by simp, .inr (List.mem_append_right _ (List.mem_singleton.2 rfl))⟩
  · show healT (o.l ++ [_]) = ⟨[T0], f.l ++ [_]⟩
    rw [heal_snoc, hI.st, poly3 (a := (trn (IntKind.i64.wrap L[k].z) T0).a) (b := (trn (IntKind.i64.wrap L[k].z) T0).b) (c := (trn (IntKind.i64.wrap L[k].z) T0).c) rfl]
    exact kind_ge h3
  · show (f.l ++ [_]).length = _; rw [List.length_append, hI.fl]; rfl
theorem ht_zero_next_ge {L : List ZB} (hlt : 0 < L.length) (r0 r : Nat) {hk : IR ((0 : Nat) : Int)} {nl : Bool} {c2 c3 : Nat} (k2 : SliOk nl 2 c2) (k3 : SliOk (OF.none.nl && decide (1 = 0)) (OF.none.l.length + 1) c3) (h3 : L[0].z.tmod 6 ≥ 3) :
    HtI L (0 + 1) ([] ++ [piece r0 T0] ++ [piece r (trn (IntKind.i64.wrap L[0].z) T0)]) ⟨[(⟨false, r0, 0, 3, 3, by unfold SliOk; decide, [T0.a, T0.b, T0.c], by simp, 100, by decide⟩ : PY), (⟨false, r, 0, 3, 3, by unfold SliOk; decide, [(trn (IntKind.i64.wrap L[0].z) T0).a, (trn (IntKind.i64.wrap L[0].z) T0).b, (trn (IntKind.i64.wrap L[0].z) T0).c], by simp, ((0 : Nat) : Int), hk⟩ : PY)], nl, c2, k2⟩ (OF.none.push [⟨((0 : Nat) : Int), 26, hk, by decide⟩] rfl c3 k3) := by
  refine ⟨Nat.le_refl _, hlt, by decide, rfl, fun p hp => ?_, ?_, rfl⟩
  · simp only [List.mem_cons, List.not_mem_nil, or_false] at hp
    rcases hp with rfl | rfl
    · exact ⟨by simp, .inr (List.mem_append_left _ (List.mem_append_right _ (List.mem_singleton.2 rfl)))⟩
    · exact ⟨by simp, .inr (List.mem_append_right _ (List.mem_singleton.2 rfl))⟩
  · show healT ([_] ++ [_]) = ⟨[T0], [] ++ [_]⟩
    rw [heal_snoc, heal_t0 rfl, poly3 (a := (trn (IntKind.i64.wrap L[0].z) T0).a) (b := (trn (IntKind.i64.wrap L[0].z) T0).b) (c := (trn (IntKind.i64.wrap L[0].z) T0).c) rfl]
    exact kind_ge h3
theorem HtI.next_lt {L : List ZB} {k : Nat} {fam : List Ent} {o : OY} {f : OF} (hI : HtI L k fam o f) (hlt : k < L.length) (h12 : k < 12) (r : Nat) {hk : IR ((k : Nat) : Int)} {c2 c3 : Nat} (k2 : SliOk (o.nl && decide (1 = 0)) (o.l.length + 1) c2) (k3 : SliOk (f.nl && decide (1 = 0)) (f.l.length + 1) c3) (h3 : ¬ L[k].z.tmod 6 ≥ 3) :
    HtI L (k + 1) (fam ++ [piece r (trn (IntKind.i64.wrap L[k].z) T0)]) (o.push [(⟨false, r, 0, 3, 3, by unfold SliOk; decide, [(trn (IntKind.i64.wrap L[k].z) T0).a, (trn (IntKind.i64.wrap L[k].z) T0).b, (trn (IntKind.i64.wrap L[k].z) T0).c], by simp, ((k : Nat) : Int), hk⟩ : PY)] rfl c2 k2) (f.push [⟨((k : Nat) : Int), 24, hk, by decide⟩] rfl c3 k3) := by
  refine ⟨by omega, hlt, h12, ?_, fun p hp => ?_, ?_, ?_⟩
  · show (o.l ++ [_]).length = _; rw [List.length_append, hI.len]; rfl
  · rcases List.mem_append.1 (show p ∈ o.l ++ [_] from hp) with hp | hp
    · exact ⟨(hI.ps p hp).1, (hI.ps p hp).2.imp id fun h => List.mem_append_left _ h⟩
    · obtain rfl := List.mem_singleton.1 hp
      exact ⟨by simp, .inr (List.mem_append_right _ (List.mem_singleton.2 rfl))⟩
  · show healT (o.l ++ [_]) = ⟨[T0], f.l ++ [_]⟩
    rw [heal_snoc, hI.st, poly3 (a := (trn (IntKind.i64.wrap L[k].z) T0).a) (b := (trn (IntKind.i64.wrap L[k].z) T0).b) (c := (trn (IntKind.i64.wrap L[k].z) T0).c) rfl]
    exact kind_lt h3
  · show (f.l ++ [_]).length = _; rw [List.length_append, hI.fl]; rfl
theorem ht_zero_next_lt {L : List ZB} (hlt : 0 < L.length) (r0 r : Nat) {hk : IR ((0 : Nat) : Int)} {nl : Bool} {c2 c3 : Nat} (k2 : SliOk nl 2 c2) (k3 : SliOk (OF.none.nl && decide (1 = 0)) (OF.none.l.length + 1) c3) (h3 : ¬ L[0].z.tmod 6 ≥ 3) :
    HtI L (0 + 1) ([] ++ [piece r0 T0] ++ [piece r (trn (IntKind.i64.wrap L[0].z) T0)]) ⟨[(⟨false, r0, 0, 3, 3, by unfold SliOk; decide, [T0.a, T0.b, T0.c], by simp, 100, by decide⟩ : PY), (⟨false, r, 0, 3, 3, by unfold SliOk; decide, [(trn (IntKind.i64.wrap L[0].z) T0).a, (trn (IntKind.i64.wrap L[0].z) T0).b, (trn (IntKind.i64.wrap L[0].z) T0).c], by simp, ((0 : Nat) : Int), hk⟩ : PY)], nl, c2, k2⟩ (OF.none.push [⟨((0 : Nat) : Int), 24, hk, by decide⟩] rfl c3 k3) := by
  refine ⟨Nat.le_refl _, hlt, by decide, rfl, fun p hp => ?_, ?_, rfl⟩
  · simp only [List.mem_cons, List.not_mem_nil, or_false] at hp
    rcases hp with rfl | rfl
    · exact ⟨by simp, .inr (List.mem_append_left _ (List.mem_append_right _ (List.mem_singleton.2 rfl)))⟩
    · exact ⟨by simp, .inr (List.mem_append_right _ (List.mem_singleton.2 rfl))⟩
  · show healT ([_] ++ [_]) = ⟨[T0], [] ++ [_]⟩
    rw [heal_snoc, heal_t0 rfl, poly3 (a := (trn (IntKind.i64.wrap L[0].z) T0).a) (b := (trn (IntKind.i64.wrap L[0].z) T0).b) (c := (trn (IntKind.i64.wrap L[0].z) T0).c) rfl]
    exact kind_lt h3
set_option maxHeartbeats 16000000 in
theorem csTu : CSp Tryd.prog 7 cLawB := csp_of (envL_ok 0) mixed (hL_ok lawC_ok (envL_ok 0)) ⟨Tryd.func7, by kernel_rfl, by kernel_rfl⟩ fun args ros K hc => by
  obtain ⟨⟨L, ty, v, rfl, rfl, ⟨cap, hl, rfl⟩ | ⟨a, c, rfl, rfl⟩⟩, hc⟩ := hc
  · refine ⟨fun ρ ρ' e => ?_, ?_⟩
    · have := e 0 (Nat.zero_lt_succ _)
      simp only [List.map, SV.den, C.den, C.cells, this]
    conv => whnf
    refine .inr ?_
    conv => whnf
    refine .inl ?_
    conv => whnf
    refine ⟨trivial, ⟨rfl, rfl, ?_⟩⟩
    conv => whnf
    refine loop_st (G := GT L × (Nat → Value)) (fun g => (.c (.sli false 0 0 L.length cap hl) :: .c (.val (g.2 1)) :: .c (.val (.bool false)) :: .c (.val (.bool true)) :: .c (.ptr 2 0) :: g.1.sl :: g.1.f.sl 5 :: .c (.int (g.1.k : Nat) (ir_12 g.1.k2)) :: .c (.val (g.2 8)) :: .c (.val (g.2 9)) :: .c (.val (g.2 10)) :: .c (.val (g.2 11)) :: .c (.val (g.2 12)) :: .c (.val (g.2 13)) :: .c (.val (g.2 14)) :: .c (.val (g.2 15)) :: .c (.val (g.2 16)) :: .c (.val (g.2 17)) :: .c (.val (g.2 18)) :: .c (.val (g.2 19)) :: .c (.val (g.2 20)) :: .c (.val (g.2 21)) :: .c (.val (g.2 22)) :: .c (.val (g.2 23)) :: .c (.val (g.2 24)) :: .c (.val (g.2 25)) :: .c (.val (g.2 26)) :: .c (.val (g.2 27)) :: .c (.val (g.2 28)) :: .c (.val (g.2 29)) :: .c (.val (g.2 30)) :: .c (.val (g.2 31)) :: .c (.val (g.2 32)) :: .c (.val (g.2 33)) :: .c (.val (g.2 34)) :: .c (.val (g.2 35)) :: .c (.val (g.2 36)) :: .c (.val (g.2 37)) :: .c (.val (g.2 38)) :: .c (.val (g.2 39)) :: .c (.val (g.2 40)) :: .c (.val (g.2 41)) :: .c (.val (g.2 42)) :: .c (.val (g.2 43)) :: .c (.val (g.2 44)) :: .c (.val (g.2 45)) :: .c (.val (g.2 46)) :: .c (.val (g.2 47)) :: .c (.val (g.2 48)) :: .c (.val (g.2 49)) :: .c (.val (g.2 50)) :: .c (.val (g.2 51)) :: .c (.val (g.2 52)) :: .c (.val (g.2 53)) :: .c (.val (g.2 54)) :: .c (.val (g.2 55)) :: .c (.val (g.2 56)) :: .c (.val (g.2 57)) :: .c (.val (g.2 58)) :: .c (.val (g.2 59)) :: .c (.val (g.2 60)) :: .c (.val (g.2 61)) :: .c (.val (g.2 62)) :: .c (.val (g.2 63)) :: .c (.val (g.2 64)) :: .c (.val (g.2 65)) :: .c (.val (g.2 66)) :: .c (.val (g.2 67)) :: .c (.val (g.2 68)) :: .c (.val (g.2 69)) :: .c (.val (g.2 70)) :: .c (.val (g.2 71)) :: .c (.val (g.2 72)) :: .c (.val (g.2 73)) :: .c (.val (g.2 74)) :: .c (.val (g.2 75)) :: .c (.val (g.2 76)) :: .c (.val (g.2 77)) :: .c (.val (g.2 78)) :: .c (.val (g.2 79)) :: .c (.val (g.2 80)) :: .c (.val (g.2 81)) :: .c (.val (g.2 82)) :: .c (.val (g.2 83)) :: [])) (fun g => g.1.hp ty) (fun g => 12 - g.1.k) ?_ ?_
    · refine ⟨[0, 1, 2, 3, 4, 1000 + 43], [0, 2, 3, 4, 5, 6, 7], [0], fun vs => ?_⟩
      conv => whnf
      refine ⟨u8C_pure L, ?_⟩
      conv => whnf
      refine ⟨_, _, ?_, ?_, (none, vs), rfl, rfl⟩
      · exact ⟨fun _ => rfl, fun _ => rfl, fun _ => rfl, fun _ => rfl, fun _ => rfl, fun _ => rfl, fun _ => rfl, fun _ => rfl, stm _⟩
      · exact ⟨⟨rfl, rfl, rfl, fun _ => rfl⟩, ⟨rfl, rfl, rfl, fun _ => rfl⟩, ⟨rfl, rfl, rfl, fun _ => rfl⟩, ⟨rfl, rfl, rfl, fun _ => rfl⟩, ⟨rfl, rfl, rfl, fun _ => rfl⟩, ⟨rfl, rfl, rfl, fun _ => rfl⟩, trivial⟩
    · rintro ⟨_ | ⟨⟨k, fam, o, f⟩, hI⟩, vs⟩
      · conv => whnf
        refine bcase_intro (fun hlt => ?_) (fun hlt => ?_)
        · have hlt : 0 < L.length := n_lt hlt
          conv => whnf
          conv =>
            arg 2
            tactic' =>
              apply eff_index_sli (k := 0) (hi := (ir_12 (Nat.zero_le _))) (ho := ?how4) (hT := ?hTw4) (hx := ?hxw4) (hk := ?hkw4) (hlt := ?hltw4)
              case how4 => rfl
              case hTw4 => rfl
              case hxw4 => rfl
              case hkw4 => rfl
              case hltw4 => exact hlt
          conv => whnf
          conv =>
            arg 2
            tactic' =>
              apply eff_load_sub (ho := ?how1) (hT := ?hTw1) (hx := ?hxw1) (hb := ?hbw1) (hm := ?hmw1) (hv := ?hvw1)
              case how1 => rfl
              case hTw1 => rfl
              case hxw1 => rfl
              case hbw1 => rfl
              case hmw1 => exact subC_u8 L hlt
              case hvw1 => rfl
          conv => whnf
          refine .inr ⟨1, 3, 4, ?_⟩
          conv => whnf
          refine ⟨⟨fun _ _ => rfl, rfl, rfl⟩, fun r0 => ?_⟩
          conv => whnf
          refine .inr ⟨1, 7, 8, ?_⟩
          conv => whnf
          refine ⟨⟨fun _ _ => rfl, rfl, rfl⟩, fun r => ?_⟩
          conv => whnf
          refine .inl ?_
          conv => whnf
          refine .inl ?_
          conv => whnf
          refine ⟨rfl, ?_⟩
          conv => whnf
          refine ⟨⟨rfl, rfl, rfl, fun _ => rfl, by decide⟩, fun c2 k2 => ?_⟩
          conv => whnf
          conv =>
            arg 2
            tactic' =>
              apply eff_index_sli (k := 0) (hi := (ir_12 (Nat.zero_le _))) (ho := ?how5) (hT := ?hTw5) (hx := ?hxw5) (hk := ?hkw5) (hlt := ?hltw5)
              case how5 => rfl
              case hTw5 => rfl
              case hxw5 => rfl
              case hkw5 => rfl
              case hltw5 => exact hlt
          conv => whnf
          conv =>
            arg 2
            tactic' =>
              apply eff_load_sub (ho := ?how1) (hT := ?hTw1) (hx := ?hxw1) (hb := ?hbw1) (hm := ?hmw1) (hv := ?hvw1)
              case how1 => rfl
              case hTw1 => rfl
              case hxw1 => rfl
              case hbw1 => rfl
              case hmw1 => exact subC_u8 L hlt
              case hvw1 => rfl
          conv => whnf
          refine bcase_intro (fun h3 => ?_) (fun h3 => ?_)
          · conv => whnf
            refine .inl ?_
            conv => whnf
            refine .inl ?_
            conv => whnf
            refine ⟨rfl, ?_⟩
            conv => whnf
            refine ⟨OF.app OF.none (m := 1) (by decide), fun c3 k3 => ?_⟩
            conv => whnf
            refine ⟨[0, 1, 2, 3, 9, 11], [0, 2, 3, 4, 5, 6, 7], [0, 4, 5], fun vs2 => ?_⟩
            conv => whnf
            refine ⟨u8C_pure L, fun _ _ => rfl, fun _ _ => rfl, ?_⟩
            conv => whnf
            refine ⟨_, _, ?_, ?_, (some ⟨(0 + 1, _, ⟨[⟨false, r0, 0, 3, 3, by unfold SliOk; decide, [T0.a, T0.b, T0.c], by simp, 100, by decide⟩, ⟨false, r, 0, 3, 3, by unfold SliOk; decide, [(trn (IntKind.i64.wrap L[0].z) T0).a, (trn (IntKind.i64.wrap L[0].z) T0).b, (trn (IntKind.i64.wrap L[0].z) T0).c], by simp, ((0 : Nat) : Int), (ir_12 (Nat.zero_le _))⟩], false && decide (1 = 0), c2, k2⟩, OF.none.push [⟨((0 : Nat) : Int), 26, (ir_12 (Nat.zero_le _)), by decide⟩] rfl c3 k3), ht_zero_next_ge hlt r0 r k2 k3 (of_decide_eq_true h3)⟩, vs2), ?_, rfl, rfl⟩
            · exact ⟨fun _ => rfl, fun _ => rfl, fun _ => rfl, fun _ => rfl, fun _ => rfl, fun ρ => rfl, fun ρ => OF.push_sl (n := 1) OF.none [⟨((0 : Nat) : Int), 26, (ir_12 (Nat.zero_le _)), by decide⟩] rfl c3 k3 5 ρ, fun _ => rfl, stm _⟩
            · exact ⟨⟨rfl, rfl, rfl, fun _ => rfl⟩, ⟨rfl, rfl, rfl, fun _ => rfl⟩, ⟨rfl, rfl, rfl, fun _ => rfl⟩, ⟨rfl, rfl, rfl, fun _ => rfl⟩, ⟨rfl, rfl, rfl, fun _ => rfl⟩, OF.push_blk (n := 1) OF.none [⟨((0 : Nat) : Int), 26, (ir_12 (Nat.zero_le _)), by decide⟩] rfl c3 k3 (fun _ => rfl), trivial⟩
            · show 12 - 1 < 12 - 0; omega
          · conv => whnf
            refine .inl ?_
            conv => whnf
            refine .inl ?_
            conv => whnf
            refine ⟨rfl, ?_⟩
            conv => whnf
            refine ⟨OF.app OF.none (m := 1) (by decide), fun c3 k3 => ?_⟩
            conv => whnf
            refine ⟨[0, 1, 2, 3, 9, 11], [0, 2, 3, 4, 5, 6, 7], [0, 4, 5], fun vs2 => ?_⟩
            conv => whnf
            refine ⟨u8C_pure L, fun _ _ => rfl, fun _ _ => rfl, ?_⟩
            conv => whnf
            refine ⟨_, _, ?_, ?_, (some ⟨(0 + 1, _, ⟨[⟨false, r0, 0, 3, 3, by unfold SliOk; decide, [T0.a, T0.b, T0.c], by simp, 100, by decide⟩, ⟨false, r, 0, 3, 3, by unfold SliOk; decide, [(trn (IntKind.i64.wrap L[0].z) T0).a, (trn (IntKind.i64.wrap L[0].z) T0).b, (trn (IntKind.i64.wrap L[0].z) T0).c], by simp, ((0 : Nat) : Int), (ir_12 (Nat.zero_le _))⟩], false && decide (1 = 0), c2, k2⟩, OF.none.push [⟨((0 : Nat) : Int), 24, (ir_12 (Nat.zero_le _)), by decide⟩] rfl c3 k3), ht_zero_next_lt hlt r0 r k2 k3 (of_decide_eq_false h3)⟩, vs2), ?_, rfl, rfl⟩
            · exact ⟨fun _ => rfl, fun _ => rfl, fun _ => rfl, fun _ => rfl, fun _ => rfl, fun ρ => rfl, fun ρ => OF.push_sl (n := 1) OF.none [⟨((0 : Nat) : Int), 24, (ir_12 (Nat.zero_le _)), by decide⟩] rfl c3 k3 5 ρ, fun _ => rfl, stm _⟩
            · exact ⟨⟨rfl, rfl, rfl, fun _ => rfl⟩, ⟨rfl, rfl, rfl, fun _ => rfl⟩, ⟨rfl, rfl, rfl, fun _ => rfl⟩, ⟨rfl, rfl, rfl, fun _ => rfl⟩, ⟨rfl, rfl, rfl, fun _ => rfl⟩, OF.push_blk (n := 1) OF.none [⟨((0 : Nat) : Int), 24, (ir_12 (Nat.zero_le _)), by decide⟩] rfl c3 k3 (fun _ => rfl), trivial⟩
            · show 12 - 1 < 12 - 0; omega
        · have hlt : L.length ≤ 0 := n_ge hlt
          conv => whnf
          refine .inl ?_
          conv => whnf
          refine .inr ⟨1, 3, 4, ?_⟩
          conv => whnf
          refine ⟨⟨fun _ _ => rfl, rfl, rfl⟩, fun r0 => ?_⟩
          conv => whnf
          refine .inl ?_
          conv => whnf
          refine ⟨1, ?_⟩
          conv => whnf
          refine ⟨.inl rfl, ⟨fun _ _ => rfl, trivial⟩, ?_⟩
          refine ⟨_, _, _, _, [⟨false, r0, 0, 3, 3, by unfold SliOk; decide, [T0.a, T0.b, T0.c], by simp, 100, by decide⟩], _, rfl, rfl, ⟨by simp, fun p hp => by obtain rfl := List.mem_singleton.1 hp; exact ⟨by simp, .inr (List.mem_append_right _ (List.mem_singleton.2 rfl))⟩⟩, fun o1 f1 ho1 hf1 => ?_⟩
          rw [heal_t0 rfl] at ho1 hf1
          dsimp only at ho1 hf1
          conv => whnf
          refine .inl ?_
          conv => whnf
          refine .inl ?_
          conv => whnf
          refine ⟨⟨trsC_pure _, fun _ _ => rfl, trivial⟩, ⟨_, _, _, _, _, _, _, _, _, _, o1.l, [T0], true, rfl, rfl, Nat.le_refl _, Nat.le_refl _, (by rw [ho1]; kernel_rfl), ?_⟩⟩
          conv => whnf
          refine .inl ?_
          conv => whnf
          refine .inl ?_
          conv => whnf
          refine ⟨⟨ftsC_pure _, fun _ _ => rfl, trivial⟩, ⟨_, _, _, _, _, _, _, _, _, _, f1.l, OF.none.l, true, rfl, rfl, Nat.le_refl _, Nat.le_refl _, (by rw [List.take_length]; exact eqFs_iff.2 (hf1.trans (List.take_length (l := OF.none.l)).symm)), ?_⟩⟩
          conv => whnf
          refine ⟨[0], [0], fun _ => ?_⟩
          conv => whnf
          refine ⟨u8C_pure L, ?_⟩
          conv => whnf
          exact ⟨_, [], rfl, ⟨⟨rfl, rfl, rfl, fun _ => rfl⟩, trivial⟩, trivial, _, fun _ => rfl, hc⟩
      · have hI : HtI L k fam o f := hI
        conv => whnf
        refine bcase_intro (fun hlt => ?_) (fun hlt => ?_)
        · have hlt : k < L.length := n_lt hlt
          conv => whnf
          refine bcase_intro (fun h12 => ?_) (fun h12 => ?_)
          · have h12 : ((k : Nat) : Int) < 12 := of_decide_eq_true h12
            have h12 : k < 12 := by omega
            conv => whnf
            conv =>
              arg 2
              tactic' =>
                apply eff_index_sli (k := k) (hi := (ir_12 hI.k2)) (ho := ?how6) (hT := ?hTw6) (hx := ?hxw6) (hk := ?hkw6) (hlt := ?hltw6)
                case how6 => rfl
                case hTw6 => rfl
                case hxw6 => rfl
                case hkw6 => rfl
                case hltw6 => exact hlt
            conv => whnf
            conv =>
              arg 2
              tactic' =>
                apply eff_load_sub (ho := ?how1) (hT := ?hTw1) (hx := ?hxw1) (hb := ?hbw1) (hm := ?hmw1) (hv := ?hvw1)
                case how1 => rfl
                case hTw1 => rfl
                case hxw1 => rfl
                case hbw1 => rfl
                case hmw1 => exact subC_u8 L hlt
                case hvw1 => rfl
            conv => whnf
            refine .inr ⟨1, 7, 8, ?_⟩
            conv => whnf
            refine ⟨⟨fun _ _ => rfl, rfl, rfl⟩, fun r => ?_⟩
            conv => whnf
            refine .inl ?_
            conv => whnf
            refine .inl ?_
            conv => whnf
            refine ⟨rfl, ?_⟩
            conv => whnf
            refine ⟨OY.app o (m := 1) (by rw [hI.len]; omega), fun c2 k2 => ?_⟩
            conv => whnf
            conv =>
              arg 2
              tactic' =>
                apply eff_index_sli (k := k) (hi := (ir_12 hI.k2)) (ho := ?how7) (hT := ?hTw7) (hx := ?hxw7) (hk := ?hkw7) (hlt := ?hltw7)
                case how7 => rfl
                case hTw7 => rfl
                case hxw7 => rfl
                case hkw7 => rfl
                case hltw7 => exact hlt
            conv => whnf
            conv =>
              arg 2
              tactic' =>
                apply eff_load_sub (ho := ?how1) (hT := ?hTw1) (hx := ?hxw1) (hb := ?hbw1) (hm := ?hmw1) (hv := ?hvw1)
                case how1 => rfl
                case hTw1 => rfl
                case hxw1 => rfl
                case hbw1 => rfl
                case hmw1 => exact subC_u8 L hlt
                case hvw1 => rfl
            conv => whnf
            refine bcase_intro (fun h3 => ?_) (fun h3 => ?_)
            · conv => whnf
              refine .inl ?_
              conv => whnf
              refine .inl ?_
              conv => whnf
              refine ⟨rfl, ?_⟩
              conv => whnf
              refine ⟨OF.app f (m := 1) (by rw [hI.fl]; omega), fun c3 k3 => ?_⟩
              conv => whnf
              refine ⟨[0, 1, 2, 3, 9, 11], [0, 2, 3, 4, 5, 6, 7], [0, 4, 5], fun vs2 => ?_⟩
              conv => whnf
              refine ⟨u8C_pure L, pureL_append (pysC_pure _) (fun _ _ => rfl), pureL_append (ftsC_pure _) (fun _ _ => rfl), ?_⟩
              conv => whnf
              refine ⟨_, _, ?_, ?_, (some ⟨(k + 1, _, o.push [⟨false, r, 0, 3, 3, by unfold SliOk; decide, [(trn (IntKind.i64.wrap L[k].z) T0).a, (trn (IntKind.i64.wrap L[k].z) T0).b, (trn (IntKind.i64.wrap L[k].z) T0).c], by simp, ((k : Nat) : Int), (ir_12 hI.k2)⟩] rfl c2 k2, f.push [⟨((k : Nat) : Int), 26, (ir_12 hI.k2), by decide⟩] rfl c3 k3), hI.next_ge hlt h12 r k2 k3 (of_decide_eq_true h3)⟩, vs2), ?_, rfl, rfl⟩
              · exact ⟨fun _ => rfl, fun _ => rfl, fun _ => rfl, fun _ => rfl, fun _ => rfl, fun ρ => o.push_sl (n := 1) [⟨false, r, 0, 3, 3, by unfold SliOk; decide, [(trn (IntKind.i64.wrap L[k].z) T0).a, (trn (IntKind.i64.wrap L[k].z) T0).b, (trn (IntKind.i64.wrap L[k].z) T0).c], by simp, ((k : Nat) : Int), (ir_12 hI.k2)⟩] rfl c2 k2 4 ρ, fun ρ => OF.push_sl (n := 1) f [⟨((k : Nat) : Int), 26, (ir_12 hI.k2), by decide⟩] rfl c3 k3 5 ρ, fun ρ => sint_e (wrap_add1 h12 (by decide)) ρ, stm _⟩
              · exact ⟨⟨rfl, rfl, rfl, fun _ => rfl⟩, ⟨rfl, rfl, rfl, fun _ => rfl⟩, ⟨rfl, rfl, rfl, fun _ => rfl⟩, ⟨rfl, rfl, rfl, fun _ => rfl⟩, o.push_blk (n := 1) [⟨false, r, 0, 3, 3, by unfold SliOk; decide, [(trn (IntKind.i64.wrap L[k].z) T0).a, (trn (IntKind.i64.wrap L[k].z) T0).b, (trn (IntKind.i64.wrap L[k].z) T0).c], by simp, ((k : Nat) : Int), (ir_12 hI.k2)⟩] rfl c2 k2 (fun _ => rfl), OF.push_blk (n := 1) f [⟨((k : Nat) : Int), 26, (ir_12 hI.k2), by decide⟩] rfl c3 k3 (fun _ => rfl), trivial⟩
              · show 12 - (k + 1) < 12 - k; omega
            · conv => whnf
              refine .inl ?_
              conv => whnf
              refine .inl ?_
              conv => whnf
              refine ⟨rfl, ?_⟩
              conv => whnf
              refine ⟨OF.app f (m := 1) (by rw [hI.fl]; omega), fun c3 k3 => ?_⟩
              conv => whnf
              refine ⟨[0, 1, 2, 3, 9, 11], [0, 2, 3, 4, 5, 6, 7], [0, 4, 5], fun vs2 => ?_⟩
              conv => whnf
              refine ⟨u8C_pure L, pureL_append (pysC_pure _) (fun _ _ => rfl), pureL_append (ftsC_pure _) (fun _ _ => rfl), ?_⟩
              conv => whnf
              refine ⟨_, _, ?_, ?_, (some ⟨(k + 1, _, o.push [⟨false, r, 0, 3, 3, by unfold SliOk; decide, [(trn (IntKind.i64.wrap L[k].z) T0).a, (trn (IntKind.i64.wrap L[k].z) T0).b, (trn (IntKind.i64.wrap L[k].z) T0).c], by simp, ((k : Nat) : Int), (ir_12 hI.k2)⟩] rfl c2 k2, f.push [⟨((k : Nat) : Int), 24, (ir_12 hI.k2), by decide⟩] rfl c3 k3), hI.next_lt hlt h12 r k2 k3 (of_decide_eq_false h3)⟩, vs2), ?_, rfl, rfl⟩
              · exact ⟨fun _ => rfl, fun _ => rfl, fun _ => rfl, fun _ => rfl, fun _ => rfl, fun ρ => o.push_sl (n := 1) [⟨false, r, 0, 3, 3, by unfold SliOk; decide, [(trn (IntKind.i64.wrap L[k].z) T0).a, (trn (IntKind.i64.wrap L[k].z) T0).b, (trn (IntKind.i64.wrap L[k].z) T0).c], by simp, ((k : Nat) : Int), (ir_12 hI.k2)⟩] rfl c2 k2 4 ρ, fun ρ => OF.push_sl (n := 1) f [⟨((k : Nat) : Int), 24, (ir_12 hI.k2), by decide⟩] rfl c3 k3 5 ρ, fun ρ => sint_e (wrap_add1 h12 (by decide)) ρ, stm _⟩
              · exact ⟨⟨rfl, rfl, rfl, fun _ => rfl⟩, ⟨rfl, rfl, rfl, fun _ => rfl⟩, ⟨rfl, rfl, rfl, fun _ => rfl⟩, ⟨rfl, rfl, rfl, fun _ => rfl⟩, o.push_blk (n := 1) [⟨false, r, 0, 3, 3, by unfold SliOk; decide, [(trn (IntKind.i64.wrap L[k].z) T0).a, (trn (IntKind.i64.wrap L[k].z) T0).b, (trn (IntKind.i64.wrap L[k].z) T0).c], by simp, ((k : Nat) : Int), (ir_12 hI.k2)⟩] rfl c2 k2 (fun _ => rfl), OF.push_blk (n := 1) f [⟨((k : Nat) : Int), 24, (ir_12 hI.k2), by decide⟩] rfl c3 k3 (fun _ => rfl), trivial⟩
              · show 12 - (k + 1) < 12 - k; omega
          · have h12 : ¬ ((k : Nat) : Int) < 12 := of_decide_eq_false h12
            have h12 : 12 ≤ k := by omega
            conv => whnf
            refine .inl ?_
            conv => whnf
            refine .inl ?_
            conv => whnf
            refine ⟨1, ?_⟩
            conv => whnf
            refine ⟨.inl rfl, ⟨pysC_pure _, trivial⟩, ?_⟩
            refine ⟨_, _, _, _, o.l, _, rfl, rfl, ⟨by rw [hI.len]; have := hI.k2; omega, hI.ps⟩, fun o1 f1 ho1 hf1 => ?_⟩
            rw [hI.st] at ho1 hf1
            dsimp only at ho1 hf1
            conv => whnf
            refine .inl ?_
            conv => whnf
            refine .inl ?_
            conv => whnf
            refine ⟨⟨trsC_pure _, fun _ _ => rfl, trivial⟩, ⟨_, _, _, _, _, _, _, _, _, _, o1.l, [T0], true, rfl, rfl, Nat.le_refl _, Nat.le_refl _, (by rw [ho1]; kernel_rfl), ?_⟩⟩
            conv => whnf
            refine .inl ?_
            conv => whnf
            refine .inl ?_
            conv => whnf
            refine ⟨⟨ftsC_pure _, ftsC_pure _, trivial⟩, ⟨_, _, _, _, _, _, _, _, _, _, f1.l, f.l, true, rfl, rfl, Nat.le_refl _, Nat.le_refl _, (by rw [List.take_length]; exact eqFs_iff.2 (hf1.trans (List.take_length (l := f.l)).symm)), ?_⟩⟩
            conv => whnf
            refine ⟨[0], [0], fun _ => ?_⟩
            conv => whnf
            refine ⟨u8C_pure L, ?_⟩
            conv => whnf
            exact ⟨_, [], rfl, ⟨⟨rfl, rfl, rfl, fun _ => rfl⟩, trivial⟩, trivial, _, fun _ => rfl, hc⟩
        · have hlt : L.length ≤ k := n_ge hlt
          conv => whnf
          refine .inl ?_
          conv => whnf
          refine .inl ?_
          conv => whnf
          refine ⟨1, ?_⟩
          conv => whnf
          refine ⟨.inl rfl, ⟨pysC_pure _, trivial⟩, ?_⟩
          refine ⟨_, _, _, _, o.l, _, rfl, rfl, ⟨by rw [hI.len]; have := hI.k2; omega, hI.ps⟩, fun o1 f1 ho1 hf1 => ?_⟩
          rw [hI.st] at ho1 hf1
          dsimp only at ho1 hf1
          conv => whnf
          refine .inl ?_
          conv => whnf
          refine .inl ?_
          conv => whnf
          refine ⟨⟨trsC_pure _, fun _ _ => rfl, trivial⟩, ⟨_, _, _, _, _, _, _, _, _, _, o1.l, [T0], true, rfl, rfl, Nat.le_refl _, Nat.le_refl _, (by rw [ho1]; kernel_rfl), ?_⟩⟩
          conv => whnf
          refine .inl ?_
          conv => whnf
          refine .inl ?_
          conv => whnf
          refine ⟨⟨ftsC_pure _, ftsC_pure _, trivial⟩, ⟨_, _, _, _, _, _, _, _, _, _, f1.l, f.l, true, rfl, rfl, Nat.le_refl _, Nat.le_refl _, (by rw [List.take_length]; exact eqFs_iff.2 (hf1.trans (List.take_length (l := f.l)).symm)), ?_⟩⟩
          conv => whnf
          refine ⟨[0], [0], fun _ => ?_⟩
          conv => whnf
          refine ⟨u8C_pure L, ?_⟩
          conv => whnf
          exact ⟨_, [], rfl, ⟨⟨rfl, rfl, rfl, fun _ => rfl⟩, trivial⟩, trivial, _, fun _ => rfl, hc⟩
  · refine ⟨fun ρ ρ' e => rfl, ?_⟩
    conv => whnf
    refine .inr ?_
    conv => whnf
    refine .inl ?_
    conv => whnf
    refine ⟨trivial, ⟨rfl, rfl, ?_⟩⟩
    conv => whnf
    refine loop_st (G := Nat → Value) (fun vs => (.c (.val (.slice a 0 c)) :: .c (.val (vs 1)) :: .c (.val (.bool false)) :: .c (.val (.bool true)) :: .c (.ptr 2 0) :: oy1 :: OF.none.sl 5 :: .c (.int ((0 : Nat) : Int) (by decide)) :: .c (.val (vs 8)) :: .c (.val (vs 9)) :: .c (.val (vs 10)) :: .c (.val (vs 11)) :: .c (.val (vs 12)) :: .c (.val (vs 13)) :: .c (.val (vs 14)) :: .c (.val (vs 15)) :: .c (.val (vs 16)) :: .c (.val (vs 17)) :: .c (.val (vs 18)) :: .c (.val (vs 19)) :: .c (.val (vs 20)) :: .c (.val (vs 21)) :: .c (.val (vs 22)) :: .c (.val (vs 23)) :: .c (.val (vs 24)) :: .c (.val (vs 25)) :: .c (.val (vs 26)) :: .c (.val (vs 27)) :: .c (.val (vs 28)) :: .c (.val (vs 29)) :: .c (.val (vs 30)) :: .c (.val (vs 31)) :: .c (.val (vs 32)) :: .c (.val (vs 33)) :: .c (.val (vs 34)) :: .c (.val (vs 35)) :: .c (.val (vs 36)) :: .c (.val (vs 37)) :: .c (.val (vs 38)) :: .c (.val (vs 39)) :: .c (.val (vs 40)) :: .c (.val (vs 41)) :: .c (.val (vs 42)) :: .c (.val (vs 43)) :: .c (.val (vs 44)) :: .c (.val (vs 45)) :: .c (.val (vs 46)) :: .c (.val (vs 47)) :: .c (.val (vs 48)) :: .c (.val (vs 49)) :: .c (.val (vs 50)) :: .c (.val (vs 51)) :: .c (.val (vs 52)) :: .c (.val (vs 53)) :: .c (.val (vs 54)) :: .c (.val (vs 55)) :: .c (.val (vs 56)) :: .c (.val (vs 57)) :: .c (.val (vs 58)) :: .c (.val (vs 59)) :: .c (.val (vs 60)) :: .c (.val (vs 61)) :: .c (.val (vs 62)) :: .c (.val (vs 63)) :: .c (.val (vs 64)) :: .c (.val (vs 65)) :: .c (.val (vs 66)) :: .c (.val (vs 67)) :: .c (.val (vs 68)) :: .c (.val (vs 69)) :: .c (.val (vs 70)) :: .c (.val (vs 71)) :: .c (.val (vs 72)) :: .c (.val (vs 73)) :: .c (.val (vs 74)) :: .c (.val (vs 75)) :: .c (.val (vs 76)) :: .c (.val (vs 77)) :: .c (.val (vs 78)) :: .c (.val (vs 79)) :: .c (.val (vs 80)) :: .c (.val (vs 81)) :: .c (.val (vs 82)) :: .c (.val (vs 83)) :: [])) (fun _ => [⟨.t ty, true, [], 0⟩, ⟨.x [], true, [], 2⟩, ⟨45, false, trC T0, 0⟩, ⟨34, false, trC T0, 0⟩, ⟨31, false, [.sli false 3 0 3 3 (by unfold SliOk; decide), .int 100 (by decide)], 0⟩, OF.none.blk]) (fun _ => 0) ?_ ?_
    · refine ⟨[0, 1, 2, 3, 4, 1000 + 43], [0, 2, 3, 4, 5, 6, 7], [0], fun vs => ?_⟩
      conv => whnf
      refine ⟨fun _ _ => rfl, ?_⟩
      conv => whnf
      refine ⟨_, _, ?_, ?_, vs, rfl, rfl⟩
      · exact ⟨fun _ => rfl, fun _ => rfl, fun _ => rfl, fun _ => rfl, fun _ => rfl, fun _ => rfl, fun _ => rfl, fun _ => rfl, stm _⟩
      · exact ⟨⟨rfl, rfl, rfl, fun _ => rfl⟩, ⟨rfl, rfl, rfl, fun _ => rfl⟩, ⟨rfl, rfl, rfl, fun _ => rfl⟩, ⟨rfl, rfl, rfl, fun _ => rfl⟩, ⟨rfl, rfl, rfl, fun _ => rfl⟩, ⟨rfl, rfl, rfl, fun _ => rfl⟩, trivial⟩
    · intro vs
      conv => whnf
      refine .inl ?_
      conv => whnf
      refine .inr ⟨1, 3, 4, ?_⟩
      conv => whnf
      refine ⟨⟨fun _ _ => rfl, rfl, rfl⟩, fun r0 => ?_⟩
      conv => whnf
      refine .inl ?_
      conv => whnf
      refine ⟨1, ?_⟩
      conv => whnf
      refine ⟨.inl rfl, ⟨fun _ _ => rfl, trivial⟩, ?_⟩
      refine ⟨_, _, _, _, [⟨false, r0, 0, 3, 3, by unfold SliOk; decide, [T0.a, T0.b, T0.c], by simp, 100, by decide⟩], _, rfl, rfl, ⟨by simp, fun p hp => by obtain rfl := List.mem_singleton.1 hp; exact ⟨by simp, .inr (List.mem_append_right _ (List.mem_singleton.2 rfl))⟩⟩, fun o1 f1 ho1 hf1 => ?_⟩
      rw [heal_t0 rfl] at ho1 hf1
      dsimp only at ho1 hf1
      conv => whnf
      refine .inl ?_
      conv => whnf
      refine .inl ?_
      conv => whnf
      refine ⟨⟨trsC_pure _, fun _ _ => rfl, trivial⟩, ⟨_, _, _, _, _, _, _, _, _, _, o1.l, [T0], true, rfl, rfl, Nat.le_refl _, Nat.le_refl _, (by rw [ho1]; kernel_rfl), ?_⟩⟩
      conv => whnf
      refine .inl ?_
      conv => whnf
      refine .inl ?_
      conv => whnf
      refine ⟨⟨ftsC_pure _, fun _ _ => rfl, trivial⟩, ⟨_, _, _, _, _, _, _, _, _, _, f1.l, OF.none.l, true, rfl, rfl, Nat.le_refl _, Nat.le_refl _, (by rw [List.take_length]; exact eqFs_iff.2 (hf1.trans (List.take_length (l := OF.none.l)).symm)), ?_⟩⟩
      conv => whnf
      refine ⟨[0], [0], fun _ => ?_⟩
      conv => whnf
      refine ⟨fun _ _ => rfl, ?_⟩
      conv => whnf
      exact ⟨_, [], rfl, ⟨⟨rfl, rfl, rfl, fun _ => rfl⟩, trivial⟩, trivial, _, fun _ => rfl, hc⟩
end Go.Proofs.YtdjpbccaglkafaaDoor
