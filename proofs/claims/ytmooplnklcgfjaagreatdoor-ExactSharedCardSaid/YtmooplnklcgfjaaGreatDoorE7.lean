/- Triangles that meet, by the reckoner: Meet. -/
import Derived.Test.YtmooplnklcgfjaaGreatDoorE6
namespace Go.Proofs.YtmooplnklcgfjaaGreatDoor
open Go.RowKit
set_option maxRecDepth 100000

theorem eqB_comm (p q : V3) : eqB p q = eqB q p := by
  rw [Bool.eq_iff_iff, eqB_iff, eqB_iff]; exact eq_comm
theorem eqB_tr {p q r : V3} (h : eqB p q = true) (g : eqB p r = true) : q = r := (eqB_iff.1 h).symm.trans (eqB_iff.1 g)
theorem flat_ab {a b c : V3} (h : (normZ a b c).isZ = false) : a ≠ b ∧ b ≠ c ∧ a ≠ c := by
  refine ⟨fun e => ?_, fun e => ?_, fun e => ?_⟩ <;> subst e <;> revert h <;> unfold V3.isZ normZ V3.cross V3.sub <;> simp <;> grind
def one (b : Bool) : Nat := cond b 1 0
theorem cnt9 : ∀ a b c d e f g h i : Bool, (!(a && b) && !(a && c) && !(b && c) && !(d && e) && !(d && f) && !(e && f) && !(g && h) && !(g && i) && !(h && i) && !(a && d) && !(a && g) && !(d && g) && !(b && e) && !(b && h) && !(e && h) && !(c && f) && !(c && i) && !(f && i)) = true →
    one (a || (b || c)) + one (d || (e || f)) + one (g || (h || i)) = one (a || (d || g)) + one (b || (e || h)) + one (c || (f || i)) := by decide
theorem cmn_cnt (s t : TR) : (cmn true s t).length = one (isP s.a t) + one (isP s.b t) + one (isP s.c t) ∧ (cmn false s t).length + (cmn true s t).length = 3 := by
  unfold cmn TR.l
  cases h1 : isP s.a t <;> cases h2 : isP s.b t <;> cases h3 : isP s.c t <;> simp [one, h1, h2, h3]
theorem cnt_eq {s t : TR} (hs : flatT s = false) (ht : flatT t = false) : (cmn true s t).length = (cmn true t s).length := by
  rw [(cmn_cnt s t).1, (cmn_cnt t s).1]
  obtain ⟨s1, s2, s3⟩ := flat_ab hs
  obtain ⟨t1, t2, t3⟩ := flat_ab ht
  unfold isP
  rw [eqB_comm t.a.v s.a.v, eqB_comm t.a.v s.b.v, eqB_comm t.a.v s.c.v, eqB_comm t.b.v s.a.v, eqB_comm t.b.v s.b.v, eqB_comm t.b.v s.c.v, eqB_comm t.c.v s.a.v, eqB_comm t.c.v s.b.v, eqB_comm t.c.v s.c.v]
  have nr : ∀ {p q r : V3}, q ≠ r → (!(eqB p q && eqB p r)) = true := fun {p q r} hne => by
    cases h : eqB p q <;> cases g : eqB p r <;> first | rfl | exact absurd (eqB_tr h g) hne
  have nk : ∀ {p q r : V3}, p ≠ r → (!(eqB p q && eqB r q)) = true := fun {p q r} hne => by
    rw [eqB_comm p q, eqB_comm r q]; exact nr hne
  refine cnt9 _ _ _ _ _ _ _ _ _ ?_
  simp only [nr t1, nr t2, nr t3, nk s1, nk s2, nk s3, Bool.and_self]
theorem len1 {l : List PT} (h : l.length = 1) : ∃ a, l = [a] := List.length_eq_one_iff.1 h
theorem len2 {l : List PT} (h : l.length = 2) : ∃ a b, l = [a, b] := by
  cases l with
  | nil => cases h
  | cons a l => obtain ⟨b, rfl⟩ := len1 (l := l) (by simpa using h); exact ⟨a, b, rfl⟩
theorem len3 {l : List PT} (h : l.length = 3) : ∃ a b c, l = [a, b, c] := by
  cases l with
  | nil => cases h
  | cons a l => obtain ⟨b, c, rfl⟩ := len2 (l := l) (by simpa using h); exact ⟨a, b, c, rfl⟩
/-- how many corners are shared -/
theorem meet_cases {s t : TR} (h : apartB s t = false) : flatT s = false ∧ flatT t = false ∧
    ((∃ a u u2 c v v2, cmn true s t = [a] ∧ cmn false s t = [u, u2] ∧ cmn true t s = [c] ∧ cmn false t s = [v, v2]) ∨
     (∃ a b u c d v, cmn true s t = [a, b] ∧ cmn false s t = [u] ∧ cmn true t s = [c, d] ∧ cmn false t s = [v]) ∨
     (∃ a b c d e f, cmn true s t = [a, b, c] ∧ cmn false s t = [] ∧ cmn true t s = [d, e, f] ∧ cmn false t s = [])) := by
  unfold apartB at h
  simp only [Bool.or_eq_false_iff, decide_eq_false_iff_not] at h
  obtain ⟨h0, h1, h2⟩ := h
  refine ⟨h1, h2, ?_⟩
  have e1 := (cmn_cnt s t).2
  have e2 := (cmn_cnt t s).2
  have e3 := cnt_eq h1 h2
  have hc : (cmn true s t).length = 1 ∨ (cmn true s t).length = 2 ∨ (cmn true s t).length = 3 := by omega
  rcases hc with hc | hc | hc
  · obtain ⟨a, ea⟩ := len1 hc
    obtain ⟨u, u2, eu⟩ := len2 (l := cmn false s t) (by omega)
    obtain ⟨c, ec⟩ := len1 (l := cmn true t s) (by omega)
    obtain ⟨v, v2, ev⟩ := len2 (l := cmn false t s) (by omega)
    exact .inl ⟨a, u, u2, c, v, v2, ea, eu, ec, ev⟩
  · obtain ⟨a, b, ea⟩ := len2 hc
    obtain ⟨u, eu⟩ := len1 (l := cmn false s t) (by omega)
    obtain ⟨c, d, ec⟩ := len2 (l := cmn true t s) (by omega)
    obtain ⟨v, ev⟩ := len1 (l := cmn false t s) (by omega)
    exact .inr (.inl ⟨a, b, u, c, d, v, ea, eu, ec, ev⟩)
  · obtain ⟨a, b, c, ea⟩ := len3 hc
    obtain ⟨d, e, f, ed⟩ := len3 (l := cmn true t s) (by omega)
    exact .inr (.inr ⟨a, b, c, d, e, f, ea, List.eq_nil_of_length_eq_zero (by omega), ed, List.eq_nil_of_length_eq_zero (by omega)⟩)
theorem mt_t {s t : TR} (h : apartB s t = true) : (touchesT s t || touchesT t s) = meetV s t := by unfold meetV; rw [h]; rfl
theorem mt_t1 {s t : TR} (h : apartB s t = true) (g : touchesT s t = true) : true = meetV s t := by rw [← mt_t h, g]; rfl
theorem mt_t2 {s t : TR} (h : apartB s t = true) (g : touchesT s t = false) : touchesT t s = meetV s t := by rw [← mt_t h, g]; rfl
theorem mt_1 {s t : TR} (h : apartB s t = false) {l m n : List PT} (h1 : cmn true s t = l) (h2 : cmn false s t = m) (h3 : cmn false t s = n) {x : Bool} (e : x = meetL s t l m n) : x = meetV s t := by unfold meetV; rw [h, h1, h2, h3]; exact e
theorem ap1 {s t : TR} (h : decide (((cmn true s t).length : Int) = 0) = true) : apartB s t = true := by unfold apartB; rw [h]; rfl
theorem ap2 {s t : TR} (h : decide (((cmn true s t).length : Int) = 0) = false) (h1 : flatT s = true) : apartB s t = true := by unfold apartB; rw [h, h1]; rfl
theorem ap3 {s t : TR} (h : decide (((cmn true s t).length : Int) = 0) = false) (h1 : flatT s = false) : flatT t = apartB s t := by unfold apartB; rw [h, h1]; rfl
def sharedC : List (FuncId × NewC) := [(27, cShared)]
theorem sharedC_ok : AllC Tryz.prog sharedC := .cons csShared .nil
abbrev envMt : Env := env 20 baseE9
theorem envMt_ok : EOk Tryz.prog envMt := env_ok baseE9_ok 20
abbrev H_M := hnew sharedC (inl envMt noF 0)
theorem H_M_ok : HOk Tryz.prog H_M := hnew_ok sharedC_ok (inl_ok envMt_ok mixed noF_ok 0)
theorem ml_1 {s t : TR} {a u u2 v v2 : PT} (g : touchT u u2 t = true) : true = meetL s t [a] [u, u2] [v, v2] := by show true = (touchT u u2 t || touchT v v2 s); rw [g]; rfl
theorem ml_2 {s t : TR} {a u u2 v v2 : PT} (g : touchT u u2 t = false) : touchT v v2 s = meetL s t [a] [u, u2] [v, v2] := by show _ = (touchT u u2 t || touchT v v2 s); rw [g]; rfl
theorem ml_3 {s t : TR} {a b u v : PT} (g : decide ((detZ a.v b.v u.v v.v).sign = 0) = true) : sgE (crZ a.v b.v a.v u.v) (crZ a.v b.v a.v v.v) = meetL s t [a, b] [u] [v] := by show _ = edgeM a b u v; unfold edgeM; rw [g]; rfl
theorem ml_4 {s t : TR} {a b u v : PT} (g : decide ((detZ a.v b.v u.v v.v).sign = 0) = false) : false = meetL s t [a, b] [u] [v] := by show _ = edgeM a b u v; unfold edgeM; rw [g]; rfl
set_option maxHeartbeats 16000000 in
theorem vcMeet (s t : TR) : vcF envMt H_M Tryz.f10 [.agg (trC s), .agg (trC t)] [] fun u _ => ∀ ρ, u.den ρ = (SV.c (.val (.bool (meetV s t)))).den ρ := by
  conv => whnf
  refine ⟨fun _ _ => rfl, ?_⟩
  conv => whnf
  refine ⟨fun _ _ => rfl, ?_⟩
  conv => whnf
  refine ⟨trivial, ⟨s, t, rfl, rfl, ?_⟩⟩
  intro o1 u1 e1 f1
  conv => whnf
  refine ⟨fun _ _ => rfl, ?_⟩
  conv => whnf
  refine ⟨fun _ _ => rfl, ?_⟩
  conv => whnf
  refine ⟨trivial, ⟨t, s, rfl, rfl, ?_⟩⟩
  intro o2 u2 e2 f2
  obtain ⟨l1, n1, c1, k1⟩ := o1
  obtain ⟨m1, n2, c2, k2⟩ := u1
  obtain ⟨l2, n3, c3, k3⟩ := o2
  obtain ⟨m2, n4, c4, k4⟩ := u2
  simp only at e1 e2 f1 f2
  subst e1 e2 f1 f2
  cases hz : apartB s t with
  | true =>
    conv => whnf
    refine bcase_intro (fun a0 => ?_) (fun a0 => ?_)
    · conv => whnf
      refine bcase_intro (fun g => ?_) (fun g => ?_)
      · conv => whnf
        exact fun ρ => sbool_e (mt_t1 hz g) ρ
      conv => whnf
      exact fun ρ => sbool_e (mt_t2 hz g) ρ
    conv => whnf
    refine bcase_intro (fun a1 => ?_) (fun a1 => ?_)
    · conv => whnf
      refine bcase_intro (fun g => ?_) (fun g => ?_)
      · conv => whnf
        exact fun ρ => sbool_e (mt_t1 hz g) ρ
      conv => whnf
      exact fun ρ => sbool_e (mt_t2 hz g) ρ
    conv => whnf
    refine bcase_intro (fun a2 => ?_) (fun a2 => ?_)
    · conv => whnf
      refine bcase_intro (fun g => ?_) (fun g => ?_)
      · conv => whnf
        exact fun ρ => sbool_e (mt_t1 hz g) ρ
      conv => whnf
      exact fun ρ => sbool_e (mt_t2 hz g) ρ
    exact absurd (hz.symm.trans ((ap3 a0 a1).symm.trans a2)) (by decide)
  | false =>
    obtain ⟨hs, ht, hc⟩ := meet_cases hz
    rcases hc with ⟨a, u, u2, c, v, v2, w1, w2, w3, w4⟩ | ⟨a, b, u, c, d, v, w1, w2, w3, w4⟩ | ⟨a, b, c, d, e, f, w1, w2, w3, w4⟩
    · have hm := fun {x : Bool} => mt_1 (x := x) hz w1 w2 w4
      clear hz
      generalize cmn true s t = L1 at *
      generalize cmn false s t = L2 at *
      generalize cmn true t s = L3 at *
      generalize cmn false t s = L4 at *
      subst w1 w2 w3 w4
      conv => whnf
      refine bcase_intro (fun q => absurd (hs.symm.trans q) (by decide)) (fun _ => ?_)
      conv => whnf
      refine bcase_intro (fun q => absurd (ht.symm.trans q) (by decide)) (fun _ => ?_)
      conv => whnf
      refine bcase_intro (fun g => ?_) (fun g => ?_)
      · conv => whnf
        exact fun ρ => sbool_e (hm (ml_1 g)) ρ
      conv => whnf
      exact fun ρ => sbool_e (hm (ml_2 g)) ρ
    · have hm := fun {x : Bool} => mt_1 (x := x) hz w1 w2 w4
      clear hz
      generalize cmn true s t = L1 at *
      generalize cmn false s t = L2 at *
      generalize cmn true t s = L3 at *
      generalize cmn false t s = L4 at *
      subst w1 w2 w3 w4
      conv => whnf
      refine bcase_intro (fun q => absurd (hs.symm.trans q) (by decide)) (fun _ => ?_)
      conv => whnf
      refine bcase_intro (fun q => absurd (ht.symm.trans q) (by decide)) (fun _ => ?_)
      conv => whnf
      refine bcase_intro (fun g => ?_) (fun g => ?_)
      · conv => whnf
        exact fun ρ => sbool_e (hm (ml_3 g)) ρ
      conv => whnf
      exact fun ρ => sbool_e (hm (ml_4 g)) ρ
    · have hm := fun {x : Bool} => mt_1 (x := x) hz w1 w2 w4
      clear hz
      generalize cmn true s t = L1 at *
      generalize cmn false s t = L2 at *
      generalize cmn true t s = L3 at *
      generalize cmn false t s = L4 at *
      subst w1 w2 w3 w4
      conv => whnf
      refine bcase_intro (fun q => absurd (hs.symm.trans q) (by decide)) (fun _ => ?_)
      conv => whnf
      refine bcase_intro (fun q => absurd (ht.symm.trans q) (by decide)) (fun _ => ?_)
      conv => whnf
      exact fun ρ => sbool_e (hm rfl) ρ
theorem pure_okE {E : Env} (hE : EOk Tryz.prog E) {H : FuncId → List SV → List Blk → (SV → List Blk → Prop) → Prop} (hH : HOk Tryz.prog H) {f : FuncId} {fn : Func} (hf : FnOk Tryz.prog f fn) {args : List SV} {v : SV} (hpure : ∀ ρ ρ', v.den ρ = v.den ρ') (hap : ∀ ρ ρ', args.map (SV.den ρ) = args.map (SV.den ρ'))
    (h : vcF E H fn args [] fun u _ => ∀ ρ, u.den ρ = v.den ρ) (ρ : Rho) (w : World) :
    Calls Tryz.prog f (args.map (SV.den ρ)).toArray w fun e w' => e = .returned (v.den ρ) ∧ Below w.heap.size w w' := by
  have hh : HRel w.heap.size ⟨w, fun _ => False, ρ, 0⟩ (nthO []) ρ w := ⟨fun i b h => by simp [nthO] at h, fun i b h => by simp [nthO] at h, fun i j b c h => by simp [nthO] at h, fun ρ _ i b h => by simp [nthO] at h, BelO.refl _ _, Nat.le_refl _, fun i h => h.elim⟩
  refine (fn_ok hE mixed hH hf h w.heap.size _ ρ w hh (fun ρ' _ => hap ρ' ρ)).mono ?_
  rintro e w' ⟨u, hp', ρ1, hu, hh', -, he⟩
  have := he ρ1 (Agr.refl _ _)
  exact ⟨by rw [this, hu ρ1, hpure ρ1 ρ], hh'.bel.below⟩
def dMeetE : Dn
  | [.agg [.int x1 hx1, .int y1 hy1, .int z1 hz1, .int x2 hx2, .int y2 hy2, .int z2 hz2, .int x3 hx3, .int y3 hy3, .int z3 hz3], .agg [.int x4 hx4, .int y4 hy4, .int z4 hz4, .int x5 hx5, .int y5 hy5, .int z5 hz5, .int x6 hx6, .int y6 hy6, .int z6 hz6]] => some (none, .c (.val (.bool (meetV ⟨⟨x1, y1, z1, hx1, hy1, hz1⟩, ⟨x2, y2, z2, hx2, hy2, hz2⟩, ⟨x3, y3, z3, hx3, hy3, hz3⟩⟩ ⟨⟨x4, y4, z4, hx4, hy4, hz4⟩, ⟨x5, y5, z5, hx5, hy5, hz5⟩, ⟨x6, y6, z6, hx6, hy6, hz6⟩⟩))))
  | _ => none
theorem spMeetE : SpOk Tryz.prog 10 dMeetE := ⟨(⟨Tryz.func10, by kernel_rfl, by kernel_rfl⟩ : FnOk Tryz.prog 10 Tryz.f10).callable, fun args p v hd => by
  unfold dMeetE at hd
  split at hd
  · rename_i x1 hx1 y1 hy1 z1 hz1 x2 hx2 y2 hy2 z2 hz2 x3 hx3 y3 hy3 z3 hz3 x4 hx4 y4 hy4 z4 hz4 x5 hx5 y5 hy5 z5 hz5 x6 hx6 y6 hy6 z6 hz6
    cases hd
    exact ⟨fun _ _ => rfl, fun _ ρ w => pure_okE envMt_ok H_M_ok ⟨Tryz.func10, by kernel_rfl, by kernel_rfl⟩ (fun _ _ => rfl) (fun _ _ => rfl) (vcMeet ⟨⟨x1, y1, z1, hx1, hy1, hz1⟩, ⟨x2, y2, z2, hx2, hy2, hz2⟩, ⟨x3, y3, z3, hx3, hy3, hz3⟩⟩ ⟨⟨x4, y4, z4, hx4, hy4, hz4⟩, ⟨x5, y5, z5, hx5, hy5, hz5⟩, ⟨x6, y6, z6, hx6, hy6, hz6⟩⟩) ρ w⟩
  · cases hd⟩
def baseE10 : List (FuncId × Dn) := (10, dMeetE) :: baseE9
theorem baseE10_ok : AllOk baseE10 := .cons spMeetE <| baseE9_ok
end Go.Proofs.YtmooplnklcgfjaaGreatDoor
