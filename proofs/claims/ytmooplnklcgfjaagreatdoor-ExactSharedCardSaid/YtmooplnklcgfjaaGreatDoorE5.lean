/- The corners that two triangles share, by the reckoner. -/
import Derived.Test.YtmooplnklcgfjaaGreatDoorE4
import Derived.Test.YtmooplnklcgfjaaGreatDoorHelp
namespace Go.Proofs.YtmooplnklcgfjaaGreatDoor
open Go.RowKit
set_option maxRecDepth 100000

def ptsC : List PT → List C
  | [] => []
  | p :: l => ptC p ++ ptsC l
theorem ptsC_size : ∀ l : List PT, sizeC (ptsC l) = 3 * l.length
  | [] => rfl
  | _ :: l => by rw [ptsC, sizeC_append, ptsC_size l, List.length_cons]; show 3 + _ = _; omega
theorem ptsC_append : ∀ a b : List PT, ptsC (a ++ b) = ptsC a ++ ptsC b
  | [], _ => rfl
  | _ :: l, b => by rw [List.cons_append, ptsC, ptsC_append l b, ptsC, List.append_assoc]
theorem ptsC_pure : ∀ l : List PT, PureL (ptsC l)
  | [] => fun _ _ => rfl
  | _ :: l => pureL_append (fun _ _ => rfl) (ptsC_pure l)
theorem allOne_pts : ∀ l : List PT, allOne (ptsC l) = true
  | [] => rfl
  | _ :: l => by rw [ptsC, allOne_append, allOne_pts l]; rfl
theorem subC_pts (l : List PT) {k : Nat} (hk : k < l.length) : subC (ptsC l) (k * 3) 3 = some (ptC l[k]) := by
  have e : ptsC l = ptsC (l.take k) ++ (ptC l[k] ++ ptsC (l.drop (k + 1))) := by
    have h : l = l.take k ++ (l[k] :: l.drop (k + 1)) := by rw [← List.drop_eq_getElem_cons hk, List.take_append_drop]
    rw [show ptsC l = ptsC (l.take k ++ (l[k] :: l.drop (k + 1))) by rw [← h], ptsC_append]
    rfl
  have s : sizeC (ptsC (l.take k)) = k * 3 := by rw [ptsC_size]; simp; omega
  rw [e, ← s]
  exact subC_app _ (ptC l[k]) _
theorem subC_pts_take (l : List PT) {k : Nat} (hk : k ≤ l.length) : subC (ptsC l) 0 (k * 3) = some (ptsC (l.take k)) := by
  have h := subC_app [] (ptsC (l.take k)) (ptsC (l.drop k))
  rw [ptsC_size, List.length_take, Nat.min_eq_left hk, List.nil_append, ← ptsC_append, List.take_append_drop, Nat.mul_comm] at h
  exact h
theorem subC_pts_drop (l : List PT) {k cap : Nat} (hk : k ≤ l.length) (hc : l.length ≤ cap) : subC (ptsC l) (slOff 0 3 k cap) ((l.length - k) * 3) = some (ptsC (l.drop k)) := by
  have h := subC_app (ptsC (l.take k)) (ptsC (l.drop k)) []
  rw [List.append_nil, ← ptsC_append, List.take_append_drop, ptsC_size, ptsC_size, List.length_take, Nat.min_eq_left hk, List.length_drop] at h
  cases k with
  | zero => simpa [slOff, Nat.mul_comm] using h
  | succ k =>
    show subC (ptsC l) (if cap = k + 1 then 0 else 0 + (k + 1) * 3) _ = _
    split
    · rename_i e
      have : l.length = k + 1 := by omega
      rw [this, Nat.sub_self, Nat.zero_mul, subC_nil, List.drop_eq_nil_of_le (by omega)]; rfl
    · rw [Nat.zero_add, Nat.mul_comm (k + 1), Nat.mul_comm (l.length - (k + 1))]; exact h
/-- a list of points of the call's own -/
structure OP where
  l : List PT
  nl : Bool
  cap : Nat
  ok : SliOk nl l.length cap
def OP.sl (o : OP) (b : Nat) : SV := .c (.sli o.nl b 0 o.l.length o.cap o.ok)
def OP.blk (o : OP) : Blk := ⟨26, o.nl, ptsC o.l, (o.cap - o.l.length) * 3⟩
def OP.none : OP := ⟨[], true, 0, by unfold SliOk; decide⟩
theorem OP.new (o : OP) : NewB o.blk := by
  refine ⟨ptsC_pure o.l, ?_⟩
  cases h : o.nl with
  | false => exact .inl h
  | true =>
    right
    have h1 := o.ok.1; have h2 := o.ok.2.2 h
    have : o.l = [] := List.eq_nil_of_length_eq_zero (by omega)
    unfold OP.blk Blk.void
    rw [h, this]; rfl
theorem OP.app (o : OP) {m : Nat} (hm : (o.l.length + m) * 3 ≤ 5000000000000) : o.blk.ty = 26 ∧ o.blk.ro = o.nl ∧ sizeC o.blk.cs = o.l.length * 3 ∧ (o.nl = false → sizeC o.blk.cs + o.blk.tl = o.cap * 3) ∧ (o.l.length + m) * 3 ≤ 5000000000000 := by
  have h1 : sizeC o.blk.cs = o.l.length * 3 := by show sizeC (ptsC o.l) = _; rw [ptsC_size]; omega
  refine ⟨rfl, rfl, h1, fun _ => ?_, hm⟩
  rw [h1]
  show o.l.length * 3 + (o.cap - o.l.length) * 3 = o.cap * 3
  have := o.ok.1
  omega
def OP.push (o : OP) (m : List PT) {n : Nat} (hn : m.length = n) (cap2 : Nat) (h2 : SliOk (o.nl && decide (n = 0)) (o.l.length + n) cap2) : OP := ⟨o.l ++ m, o.nl && decide (n = 0), cap2, by rw [List.length_append, hn]; exact h2⟩
theorem OP.push_sl (o : OP) (m : List PT) {n : Nat} (hn : m.length = n) (cap2 : Nat) (h2 : SliOk (o.nl && decide (n = 0)) (o.l.length + n) cap2) (b : Nat) (ρ : Rho) : (SV.c (.sli (o.nl && decide (n = 0)) b 0 (o.l.length + n) cap2 h2)).den ρ = ((o.push m hn cap2 h2).sl b).den ρ := by
  simp only [OP.sl, OP.push, SV.den, C.den, C.cells, List.length_append, hn]
theorem OP.push_blk (o : OP) (m : List PT) {n : Nat} (hn : m.length = n) (cap2 : Nat) (h2 : SliOk (o.nl && decide (n = 0)) (o.l.length + n) cap2) {cs : List C} (hcs : ∀ ρ, cellsL ρ cs = cellsL ρ (ptsC m)) :
    26 = (o.push m hn cap2 h2).blk.ty ∧ (o.nl && decide (n = 0)) = (o.push m hn cap2 h2).blk.ro ∧ (cap2 - (o.l.length + n)) * 3 = (o.push m hn cap2 h2).blk.tl ∧ ∀ ρ, cellsL ρ (ptsC o.l ++ cs) = cellsL ρ (o.push m hn cap2 h2).blk.cs := by
  refine ⟨rfl, rfl, ?_, fun ρ => ?_⟩
  · simp only [OP.push, OP.blk, List.length_append, hn]
  · show _ = cellsL ρ (ptsC (o.l ++ m))
    rw [ptsC_append, cellsL_append, cellsL_append, hcs]
/-- a point, and a triangle, of plain numbers -/
def PT.v (p : PT) : V3 := ⟨p.x, p.y, p.z⟩
def isP (p : PT) (t : TR) : Bool := eqB p.v t.a.v || (eqB p.v t.b.v || eqB p.v t.c.v)
def TR.l (t : TR) : List PT := [t.a, t.b, t.c]
/-- the corners of s that are (or are not) corners of t -/
def cmn (w : Bool) (s t : TR) : List PT := s.l.filter fun p => isP p t == w
def cmnK (w : Bool) (s t : TR) (k : Nat) : List PT := (s.l.take k).filter fun p => isP p t == w
theorem isP1 {p : PT} {t : TR} (h : eqB p.v t.a.v = true) : isP p t = true := by unfold isP; rw [h]; rfl
theorem isP2 {p : PT} {t : TR} (h : eqB p.v t.a.v = false) (h1 : eqB p.v t.b.v = true) : isP p t = true := by unfold isP; rw [h, h1]; rfl
theorem isP3 {p : PT} {t : TR} (h : eqB p.v t.a.v = false) (h1 : eqB p.v t.b.v = false) : eqB p.v t.c.v = isP p t := by unfold isP; rw [h, h1]; rfl
theorem cmn_y0 {s t : TR} (h : isP s.a t = true) : cmnK true s t 1 = cmnK true s t 0 ++ [s.a] ∧ cmnK false s t 1 = cmnK false s t 0 := by simp [cmnK, TR.l, h]
theorem cmn_n0 {s t : TR} (h : isP s.a t = false) : cmnK true s t 1 = cmnK true s t 0 ∧ cmnK false s t 1 = cmnK false s t 0 ++ [s.a] := by simp [cmnK, TR.l, h]
theorem cmn_y1 {s t : TR} (h : isP s.b t = true) : cmnK true s t 2 = cmnK true s t 1 ++ [s.b] ∧ cmnK false s t 2 = cmnK false s t 1 := by simp [cmnK, TR.l, List.filter_cons, h]; split <;> simp
theorem cmn_n1 {s t : TR} (h : isP s.b t = false) : cmnK true s t 2 = cmnK true s t 1 ∧ cmnK false s t 2 = cmnK false s t 1 ++ [s.b] := by simp [cmnK, TR.l, List.filter_cons, h]; split <;> simp
theorem cmn_y2 {s t : TR} (h : isP s.c t = true) : cmnK true s t 3 = cmnK true s t 2 ++ [s.c] ∧ cmnK false s t 3 = cmnK false s t 2 := by simp [cmnK, TR.l, List.filter_cons, h]; (repeat' split) <;> simp_all
theorem cmn_n2 {s t : TR} (h : isP s.c t = false) : cmnK true s t 3 = cmnK true s t 2 ∧ cmnK false s t 3 = cmnK false s t 2 ++ [s.c] := by simp [cmnK, TR.l, List.filter_cons, h]; (repeat' split) <;> simp_all
theorem cmn_len (w : Bool) (s t : TR) (k : Nat) : (cmnK w s t k).length ≤ 3 := Nat.le_trans (List.length_filter_le _ _) (by simp [TR.l]; omega)
theorem ir3 {j : Nat} (h : j ≤ 3) : IR j := by unfold IR; omega
def cShared : NewC := fun args ros K => ∃ s t : TR, args = [.agg (trC s), .agg (trC t)] ∧ ros = [] ∧
  ∀ o1 o2 : OP, o1.l = cmn true s t → o2.l = cmn false s t → K (.tup [.c (.sli o1.nl 0 0 o1.l.length o1.cap o1.ok), .c (.sli o2.nl 1 0 o2.l.length o2.cap o2.ok)]) [o1.blk, o2.blk]
theorem app3 {o : OP} {s t : TR} {w : Bool} {k : Nat} (h : o.l = cmnK w s t k) : (o.l.length + 1) * 3 ≤ 5000000000000 := by have := cmn_len w s t k; rw [h]; omega
theorem push_l {o : OP} {l m n : List PT} (h : o.l = l) (e : n = l ++ m) : o.l ++ m = n := by rw [h, e]
abbrev envO : Env := env 0 baseE8
theorem envO_ok : EOk Tryz.prog envO := env_ok baseE8_ok 0
set_option maxHeartbeats 16000000 in
theorem csShared : CSp Tryz.prog 27 cShared := csp_of envO_ok mixed (inl_ok envO_ok mixed noF_ok 0) ⟨Tryz.func27, by kernel_rfl, by kernel_rfl⟩ fun args ros K hc => by
  obtain ⟨s, t, rfl, rfl, hc⟩ := hc
  refine ⟨fun _ _ _ => rfl, ?_⟩
  conv => whnf
  refine loop_st (G := {g : Nat × OP × OP × (Nat → Value) // g.1 ≤ 3 ∧ g.2.1.l = cmnK true s t g.1 ∧ g.2.2.1.l = cmnK false s t g.1}) (fun g => (.c (.val (g.1.2.2.2 0)) :: .c (.val (g.1.2.2.2 1)) :: .c (.val (g.1.2.2.2 2)) :: .c (.ptr 0 0) :: g.1.2.1.sl 1 :: g.1.2.2.1.sl 2 :: .c (.val (g.1.2.2.2 6)) :: .c (.val (g.1.2.2.2 7)) :: .agg [.int s.a.x s.a.hx, .int s.a.y s.a.hy, .int s.a.z s.a.hz, .int s.b.x s.b.hx, .int s.b.y s.b.hy, .int s.b.z s.b.hz, .int s.c.x s.c.hx, .int s.c.y s.c.hy, .int s.c.z s.c.hz] :: .c (.int (g.1.1 : Nat) (ir3 g.2.1)) :: .c (.val (g.1.2.2.2 10)) :: .c (.val (g.1.2.2.2 11)) :: .c (.val (g.1.2.2.2 12)) :: .c (.val (g.1.2.2.2 13)) :: .c (.val (g.1.2.2.2 14)) :: .c (.val (g.1.2.2.2 15)) :: .c (.val (g.1.2.2.2 16)) :: .c (.val (g.1.2.2.2 17)) :: .c (.val (g.1.2.2.2 18)) :: .c (.val (g.1.2.2.2 19)) :: .c (.val (g.1.2.2.2 20)) :: .c (.val (g.1.2.2.2 21)) :: .c (.val (g.1.2.2.2 22)) :: .c (.val (g.1.2.2.2 23)) :: .c (.val (g.1.2.2.2 24)) :: .c (.val (g.1.2.2.2 25)) :: .c (.val (g.1.2.2.2 26)) :: .c (.val (g.1.2.2.2 27)) :: .c (.val (g.1.2.2.2 28)) :: .c (.val (g.1.2.2.2 29)) :: .c (.val (g.1.2.2.2 30)) :: .c (.val (g.1.2.2.2 31)) :: .c (.val (g.1.2.2.2 32)) :: .c (.val (g.1.2.2.2 33)) :: .c (.val (g.1.2.2.2 34)) :: .c (.val (g.1.2.2.2 35)) :: .c (.val (g.1.2.2.2 36)) :: .c (.val (g.1.2.2.2 37)) :: .c (.val (g.1.2.2.2 38)) :: [])) (fun g => [⟨28, false, trC t, 0⟩, g.1.2.1.blk, g.1.2.2.1.blk]) (fun g => 3 - g.1.1) ?_ ?_
  · refine ⟨[1, 1000 + 26, 2000 + 26], [3, 4, 5, 8, 9], [0], fun vs => ?_⟩
    conv => whnf
    refine ⟨fun _ _ => rfl, ?_⟩
    conv => whnf
    refine ⟨_, _, ?_, ?_, ⟨(0, OP.none, OP.none, vs), Nat.zero_le _, rfl, rfl⟩, rfl, rfl⟩
    · exact ⟨fun _ => rfl, fun _ => rfl, fun _ => rfl, fun _ => rfl, fun _ => rfl, fun _ => rfl, fun _ => rfl, fun _ => rfl, fun _ => rfl, fun _ => rfl, fun _ => rfl, fun _ => rfl, fun _ => rfl, fun _ => rfl, fun _ => rfl, fun _ => rfl, fun _ => rfl, fun _ => rfl, fun _ => rfl, fun _ => rfl, fun _ => rfl, fun _ => rfl, fun _ => rfl, fun _ => rfl, fun _ => rfl, fun _ => rfl, fun _ => rfl, fun _ => rfl, fun _ => rfl, fun _ => rfl, fun _ => rfl, fun _ => rfl, fun _ => rfl, fun _ => rfl, fun _ => rfl, fun _ => rfl, fun _ => rfl, fun _ => rfl, fun _ => rfl, trivial⟩
    · exact ⟨⟨rfl, rfl, rfl, fun _ => rfl⟩, ⟨rfl, rfl, rfl, fun _ => rfl⟩, ⟨rfl, rfl, rfl, fun _ => rfl⟩, trivial⟩
  · rintro ⟨⟨k, o1, o2, vs⟩, hk, e1, e2⟩
    have hk : k ≤ 3 := hk
    have e1 : o1.l = cmnK true s t k := e1
    have e2 : o2.l = cmnK false s t k := e2
    have hcase : k = 3 ∨ k = 0 ∨ k = 1 ∨ k = 2 := by omega
    rcases hcase with rfl | rfl | rfl | rfl
    · conv => whnf
      refine ⟨[1, 2], [0, 1], fun vs3 => ?_⟩
      conv => whnf
      refine ⟨o1.new.1, o2.new.1, ?_⟩
      conv => whnf
      exact ⟨_, [o1.blk, o2.blk], rfl, ⟨⟨rfl, rfl, rfl, fun _ => rfl⟩, ⟨rfl, rfl, rfl, fun _ => rfl⟩, trivial⟩, ⟨o1.new, o2.new, trivial⟩, .tup [.c (.sli o1.nl 0 0 o1.l.length o1.cap o1.ok), .c (.sli o2.nl 1 0 o2.l.length o2.cap o2.ok)], fun _ => rfl, hc o1 o2 e1 e2⟩
    · conv => whnf
      refine bcase_intro (fun u1 => ?_) (fun u1 => ?_)
      · have u1 : eqB s.a.v t.a.v = true := u1
        conv => whnf
        refine ⟨rfl, ?_⟩
        conv => whnf
        refine ⟨o1.app (app3 e1), fun c2 k2 => ?_⟩
        conv => whnf
        have he := cmn_y0 (isP1 u1)
        refine ⟨[0, 5, 2], [3, 4, 5, 8, 9], [0, 1, 2], fun vs3 => ?_⟩
        conv => whnf
        refine ⟨fun _ _ => rfl, pureL_append o1.new.1 (fun _ _ => rfl), o2.new.1, ?_⟩
        conv => whnf
        refine ⟨_, _, ?_, ?_, ⟨(1, (o1.push [s.a] rfl c2 k2), o2, vs3), (by decide : 1 ≤ 3), push_l e1 he.1, e2.trans he.2.symm⟩, (by decide : 3 - 1 < 3 - 0), rfl, rfl⟩
        · exact ⟨fun _ => rfl, fun _ => rfl, fun _ => rfl, fun _ => rfl, fun ρ => OP.push_sl o1 [s.a] rfl c2 k2 1 ρ, fun _ => rfl, fun _ => rfl, fun _ => rfl, fun _ => rfl, fun _ => rfl, fun _ => rfl, fun _ => rfl, fun _ => rfl, fun _ => rfl, fun _ => rfl, fun _ => rfl, fun _ => rfl, fun _ => rfl, fun _ => rfl, fun _ => rfl, fun _ => rfl, fun _ => rfl, fun _ => rfl, fun _ => rfl, fun _ => rfl, fun _ => rfl, fun _ => rfl, fun _ => rfl, fun _ => rfl, fun _ => rfl, fun _ => rfl, fun _ => rfl, fun _ => rfl, fun _ => rfl, fun _ => rfl, fun _ => rfl, fun _ => rfl, fun _ => rfl, fun _ => rfl, trivial⟩
        · exact ⟨⟨rfl, rfl, rfl, fun _ => rfl⟩, OP.push_blk o1 [s.a] rfl c2 k2 (fun _ => rfl), ⟨rfl, rfl, rfl, fun _ => rfl⟩, trivial⟩
      have u1 : eqB s.a.v t.a.v = false := u1
      conv => whnf
      refine bcase_intro (fun u2 => ?_) (fun u2 => ?_)
      · have u2 : eqB s.a.v t.b.v = true := u2
        conv => whnf
        refine ⟨rfl, ?_⟩
        conv => whnf
        refine ⟨o1.app (app3 e1), fun c2 k2 => ?_⟩
        conv => whnf
        have he := cmn_y0 (isP2 u1 u2)
        refine ⟨[0, 5, 2], [3, 4, 5, 8, 9], [0, 1, 2], fun vs3 => ?_⟩
        conv => whnf
        refine ⟨fun _ _ => rfl, pureL_append o1.new.1 (fun _ _ => rfl), o2.new.1, ?_⟩
        conv => whnf
        refine ⟨_, _, ?_, ?_, ⟨(1, (o1.push [s.a] rfl c2 k2), o2, vs3), (by decide : 1 ≤ 3), push_l e1 he.1, e2.trans he.2.symm⟩, (by decide : 3 - 1 < 3 - 0), rfl, rfl⟩
        · exact ⟨fun _ => rfl, fun _ => rfl, fun _ => rfl, fun _ => rfl, fun ρ => OP.push_sl o1 [s.a] rfl c2 k2 1 ρ, fun _ => rfl, fun _ => rfl, fun _ => rfl, fun _ => rfl, fun _ => rfl, fun _ => rfl, fun _ => rfl, fun _ => rfl, fun _ => rfl, fun _ => rfl, fun _ => rfl, fun _ => rfl, fun _ => rfl, fun _ => rfl, fun _ => rfl, fun _ => rfl, fun _ => rfl, fun _ => rfl, fun _ => rfl, fun _ => rfl, fun _ => rfl, fun _ => rfl, fun _ => rfl, fun _ => rfl, fun _ => rfl, fun _ => rfl, fun _ => rfl, fun _ => rfl, fun _ => rfl, fun _ => rfl, fun _ => rfl, fun _ => rfl, fun _ => rfl, fun _ => rfl, trivial⟩
        · exact ⟨⟨rfl, rfl, rfl, fun _ => rfl⟩, OP.push_blk o1 [s.a] rfl c2 k2 (fun _ => rfl), ⟨rfl, rfl, rfl, fun _ => rfl⟩, trivial⟩
      have u2 : eqB s.a.v t.b.v = false := u2
      conv => whnf
      refine bcase_intro (fun u3 => ?_) (fun u3 => ?_)
      · have u3 : isP s.a t = true := (isP3 u1 u2).symm.trans u3
        conv => whnf
        refine ⟨rfl, ?_⟩
        conv => whnf
        refine ⟨o1.app (app3 e1), fun c2 k2 => ?_⟩
        conv => whnf
        have he := cmn_y0 u3
        refine ⟨[0, 5, 2], [3, 4, 5, 8, 9], [0, 1, 2], fun vs3 => ?_⟩
        conv => whnf
        refine ⟨fun _ _ => rfl, pureL_append o1.new.1 (fun _ _ => rfl), o2.new.1, ?_⟩
        conv => whnf
        refine ⟨_, _, ?_, ?_, ⟨(1, (o1.push [s.a] rfl c2 k2), o2, vs3), (by decide : 1 ≤ 3), push_l e1 he.1, e2.trans he.2.symm⟩, (by decide : 3 - 1 < 3 - 0), rfl, rfl⟩
        · exact ⟨fun _ => rfl, fun _ => rfl, fun _ => rfl, fun _ => rfl, fun ρ => OP.push_sl o1 [s.a] rfl c2 k2 1 ρ, fun _ => rfl, fun _ => rfl, fun _ => rfl, fun _ => rfl, fun _ => rfl, fun _ => rfl, fun _ => rfl, fun _ => rfl, fun _ => rfl, fun _ => rfl, fun _ => rfl, fun _ => rfl, fun _ => rfl, fun _ => rfl, fun _ => rfl, fun _ => rfl, fun _ => rfl, fun _ => rfl, fun _ => rfl, fun _ => rfl, fun _ => rfl, fun _ => rfl, fun _ => rfl, fun _ => rfl, fun _ => rfl, fun _ => rfl, fun _ => rfl, fun _ => rfl, fun _ => rfl, fun _ => rfl, fun _ => rfl, fun _ => rfl, fun _ => rfl, fun _ => rfl, trivial⟩
        · exact ⟨⟨rfl, rfl, rfl, fun _ => rfl⟩, OP.push_blk o1 [s.a] rfl c2 k2 (fun _ => rfl), ⟨rfl, rfl, rfl, fun _ => rfl⟩, trivial⟩
      · have u3 : isP s.a t = false := (isP3 u1 u2).symm.trans u3
        conv => whnf
        refine ⟨rfl, ?_⟩
        conv => whnf
        refine ⟨o2.app (app3 e2), fun c2 k2 => ?_⟩
        conv => whnf
        have he := cmn_n0 u3
        refine ⟨[0, 1, 5], [3, 4, 5, 8, 9], [0, 1, 2], fun vs3 => ?_⟩
        conv => whnf
        refine ⟨fun _ _ => rfl, o1.new.1, pureL_append o2.new.1 (fun _ _ => rfl), ?_⟩
        conv => whnf
        refine ⟨_, _, ?_, ?_, ⟨(1, o1, (o2.push [s.a] rfl c2 k2), vs3), (by decide : 1 ≤ 3), e1.trans he.1.symm, push_l e2 he.2⟩, (by decide : 3 - 1 < 3 - 0), rfl, rfl⟩
        · exact ⟨fun _ => rfl, fun _ => rfl, fun _ => rfl, fun _ => rfl, fun _ => rfl, fun ρ => OP.push_sl o2 [s.a] rfl c2 k2 2 ρ, fun _ => rfl, fun _ => rfl, fun _ => rfl, fun _ => rfl, fun _ => rfl, fun _ => rfl, fun _ => rfl, fun _ => rfl, fun _ => rfl, fun _ => rfl, fun _ => rfl, fun _ => rfl, fun _ => rfl, fun _ => rfl, fun _ => rfl, fun _ => rfl, fun _ => rfl, fun _ => rfl, fun _ => rfl, fun _ => rfl, fun _ => rfl, fun _ => rfl, fun _ => rfl, fun _ => rfl, fun _ => rfl, fun _ => rfl, fun _ => rfl, fun _ => rfl, fun _ => rfl, fun _ => rfl, fun _ => rfl, fun _ => rfl, fun _ => rfl, trivial⟩
        · exact ⟨⟨rfl, rfl, rfl, fun _ => rfl⟩, ⟨rfl, rfl, rfl, fun _ => rfl⟩, OP.push_blk o2 [s.a] rfl c2 k2 (fun _ => rfl), trivial⟩
    · conv => whnf
      refine bcase_intro (fun u1 => ?_) (fun u1 => ?_)
      · have u1 : eqB s.b.v t.a.v = true := u1
        conv => whnf
        refine ⟨rfl, ?_⟩
        conv => whnf
        refine ⟨o1.app (app3 e1), fun c2 k2 => ?_⟩
        conv => whnf
        have he := cmn_y1 (isP1 u1)
        refine ⟨[0, 5, 2], [3, 4, 5, 8, 9], [0, 1, 2], fun vs3 => ?_⟩
        conv => whnf
        refine ⟨fun _ _ => rfl, pureL_append o1.new.1 (fun _ _ => rfl), o2.new.1, ?_⟩
        conv => whnf
        refine ⟨_, _, ?_, ?_, ⟨(2, (o1.push [s.b] rfl c2 k2), o2, vs3), (by decide : 2 ≤ 3), push_l e1 he.1, e2.trans he.2.symm⟩, (by decide : 3 - 2 < 3 - 1), rfl, rfl⟩
        · exact ⟨fun _ => rfl, fun _ => rfl, fun _ => rfl, fun _ => rfl, fun ρ => OP.push_sl o1 [s.b] rfl c2 k2 1 ρ, fun _ => rfl, fun _ => rfl, fun _ => rfl, fun _ => rfl, fun _ => rfl, fun _ => rfl, fun _ => rfl, fun _ => rfl, fun _ => rfl, fun _ => rfl, fun _ => rfl, fun _ => rfl, fun _ => rfl, fun _ => rfl, fun _ => rfl, fun _ => rfl, fun _ => rfl, fun _ => rfl, fun _ => rfl, fun _ => rfl, fun _ => rfl, fun _ => rfl, fun _ => rfl, fun _ => rfl, fun _ => rfl, fun _ => rfl, fun _ => rfl, fun _ => rfl, fun _ => rfl, fun _ => rfl, fun _ => rfl, fun _ => rfl, fun _ => rfl, fun _ => rfl, trivial⟩
        · exact ⟨⟨rfl, rfl, rfl, fun _ => rfl⟩, OP.push_blk o1 [s.b] rfl c2 k2 (fun _ => rfl), ⟨rfl, rfl, rfl, fun _ => rfl⟩, trivial⟩
      have u1 : eqB s.b.v t.a.v = false := u1
      conv => whnf
      refine bcase_intro (fun u2 => ?_) (fun u2 => ?_)
      · have u2 : eqB s.b.v t.b.v = true := u2
        conv => whnf
        refine ⟨rfl, ?_⟩
        conv => whnf
        refine ⟨o1.app (app3 e1), fun c2 k2 => ?_⟩
        conv => whnf
        have he := cmn_y1 (isP2 u1 u2)
        refine ⟨[0, 5, 2], [3, 4, 5, 8, 9], [0, 1, 2], fun vs3 => ?_⟩
        conv => whnf
        refine ⟨fun _ _ => rfl, pureL_append o1.new.1 (fun _ _ => rfl), o2.new.1, ?_⟩
        conv => whnf
        refine ⟨_, _, ?_, ?_, ⟨(2, (o1.push [s.b] rfl c2 k2), o2, vs3), (by decide : 2 ≤ 3), push_l e1 he.1, e2.trans he.2.symm⟩, (by decide : 3 - 2 < 3 - 1), rfl, rfl⟩
        · exact ⟨fun _ => rfl, fun _ => rfl, fun _ => rfl, fun _ => rfl, fun ρ => OP.push_sl o1 [s.b] rfl c2 k2 1 ρ, fun _ => rfl, fun _ => rfl, fun _ => rfl, fun _ => rfl, fun _ => rfl, fun _ => rfl, fun _ => rfl, fun _ => rfl, fun _ => rfl, fun _ => rfl, fun _ => rfl, fun _ => rfl, fun _ => rfl, fun _ => rfl, fun _ => rfl, fun _ => rfl, fun _ => rfl, fun _ => rfl, fun _ => rfl, fun _ => rfl, fun _ => rfl, fun _ => rfl, fun _ => rfl, fun _ => rfl, fun _ => rfl, fun _ => rfl, fun _ => rfl, fun _ => rfl, fun _ => rfl, fun _ => rfl, fun _ => rfl, fun _ => rfl, fun _ => rfl, fun _ => rfl, trivial⟩
        · exact ⟨⟨rfl, rfl, rfl, fun _ => rfl⟩, OP.push_blk o1 [s.b] rfl c2 k2 (fun _ => rfl), ⟨rfl, rfl, rfl, fun _ => rfl⟩, trivial⟩
      have u2 : eqB s.b.v t.b.v = false := u2
      conv => whnf
      refine bcase_intro (fun u3 => ?_) (fun u3 => ?_)
      · have u3 : isP s.b t = true := (isP3 u1 u2).symm.trans u3
        conv => whnf
        refine ⟨rfl, ?_⟩
        conv => whnf
        refine ⟨o1.app (app3 e1), fun c2 k2 => ?_⟩
        conv => whnf
        have he := cmn_y1 u3
        refine ⟨[0, 5, 2], [3, 4, 5, 8, 9], [0, 1, 2], fun vs3 => ?_⟩
        conv => whnf
        refine ⟨fun _ _ => rfl, pureL_append o1.new.1 (fun _ _ => rfl), o2.new.1, ?_⟩
        conv => whnf
        refine ⟨_, _, ?_, ?_, ⟨(2, (o1.push [s.b] rfl c2 k2), o2, vs3), (by decide : 2 ≤ 3), push_l e1 he.1, e2.trans he.2.symm⟩, (by decide : 3 - 2 < 3 - 1), rfl, rfl⟩
        · exact ⟨fun _ => rfl, fun _ => rfl, fun _ => rfl, fun _ => rfl, fun ρ => OP.push_sl o1 [s.b] rfl c2 k2 1 ρ, fun _ => rfl, fun _ => rfl, fun _ => rfl, fun _ => rfl, fun _ => rfl, fun _ => rfl, fun _ => rfl, fun _ => rfl, fun _ => rfl, fun _ => rfl, fun _ => rfl, fun _ => rfl, fun _ => rfl, fun _ => rfl, fun _ => rfl, fun _ => rfl, fun _ => rfl, fun _ => rfl, fun _ => rfl, fun _ => rfl, fun _ => rfl, fun _ => rfl, fun _ => rfl, fun _ => rfl, fun _ => rfl, fun _ => rfl, fun _ => rfl, fun _ => rfl, fun _ => rfl, fun _ => rfl, fun _ => rfl, fun _ => rfl, fun _ => rfl, fun _ => rfl, trivial⟩
        · exact ⟨⟨rfl, rfl, rfl, fun _ => rfl⟩, OP.push_blk o1 [s.b] rfl c2 k2 (fun _ => rfl), ⟨rfl, rfl, rfl, fun _ => rfl⟩, trivial⟩
      · have u3 : isP s.b t = false := (isP3 u1 u2).symm.trans u3
        conv => whnf
        refine ⟨rfl, ?_⟩
        conv => whnf
        refine ⟨o2.app (app3 e2), fun c2 k2 => ?_⟩
        conv => whnf
        have he := cmn_n1 u3
        refine ⟨[0, 1, 5], [3, 4, 5, 8, 9], [0, 1, 2], fun vs3 => ?_⟩
        conv => whnf
        refine ⟨fun _ _ => rfl, o1.new.1, pureL_append o2.new.1 (fun _ _ => rfl), ?_⟩
        conv => whnf
        refine ⟨_, _, ?_, ?_, ⟨(2, o1, (o2.push [s.b] rfl c2 k2), vs3), (by decide : 2 ≤ 3), e1.trans he.1.symm, push_l e2 he.2⟩, (by decide : 3 - 2 < 3 - 1), rfl, rfl⟩
        · exact ⟨fun _ => rfl, fun _ => rfl, fun _ => rfl, fun _ => rfl, fun _ => rfl, fun ρ => OP.push_sl o2 [s.b] rfl c2 k2 2 ρ, fun _ => rfl, fun _ => rfl, fun _ => rfl, fun _ => rfl, fun _ => rfl, fun _ => rfl, fun _ => rfl, fun _ => rfl, fun _ => rfl, fun _ => rfl, fun _ => rfl, fun _ => rfl, fun _ => rfl, fun _ => rfl, fun _ => rfl, fun _ => rfl, fun _ => rfl, fun _ => rfl, fun _ => rfl, fun _ => rfl, fun _ => rfl, fun _ => rfl, fun _ => rfl, fun _ => rfl, fun _ => rfl, fun _ => rfl, fun _ => rfl, fun _ => rfl, fun _ => rfl, fun _ => rfl, fun _ => rfl, fun _ => rfl, fun _ => rfl, trivial⟩
        · exact ⟨⟨rfl, rfl, rfl, fun _ => rfl⟩, ⟨rfl, rfl, rfl, fun _ => rfl⟩, OP.push_blk o2 [s.b] rfl c2 k2 (fun _ => rfl), trivial⟩
    · conv => whnf
      refine bcase_intro (fun u1 => ?_) (fun u1 => ?_)
      · have u1 : eqB s.c.v t.a.v = true := u1
        conv => whnf
        refine ⟨rfl, ?_⟩
        conv => whnf
        refine ⟨o1.app (app3 e1), fun c2 k2 => ?_⟩
        conv => whnf
        have he := cmn_y2 (isP1 u1)
        refine ⟨[0, 5, 2], [3, 4, 5, 8, 9], [0, 1, 2], fun vs3 => ?_⟩
        conv => whnf
        refine ⟨fun _ _ => rfl, pureL_append o1.new.1 (fun _ _ => rfl), o2.new.1, ?_⟩
        conv => whnf
        refine ⟨_, _, ?_, ?_, ⟨(3, (o1.push [s.c] rfl c2 k2), o2, vs3), (by decide : 3 ≤ 3), push_l e1 he.1, e2.trans he.2.symm⟩, (by decide : 3 - 3 < 3 - 2), rfl, rfl⟩
        · exact ⟨fun _ => rfl, fun _ => rfl, fun _ => rfl, fun _ => rfl, fun ρ => OP.push_sl o1 [s.c] rfl c2 k2 1 ρ, fun _ => rfl, fun _ => rfl, fun _ => rfl, fun _ => rfl, fun _ => rfl, fun _ => rfl, fun _ => rfl, fun _ => rfl, fun _ => rfl, fun _ => rfl, fun _ => rfl, fun _ => rfl, fun _ => rfl, fun _ => rfl, fun _ => rfl, fun _ => rfl, fun _ => rfl, fun _ => rfl, fun _ => rfl, fun _ => rfl, fun _ => rfl, fun _ => rfl, fun _ => rfl, fun _ => rfl, fun _ => rfl, fun _ => rfl, fun _ => rfl, fun _ => rfl, fun _ => rfl, fun _ => rfl, fun _ => rfl, fun _ => rfl, fun _ => rfl, fun _ => rfl, trivial⟩
        · exact ⟨⟨rfl, rfl, rfl, fun _ => rfl⟩, OP.push_blk o1 [s.c] rfl c2 k2 (fun _ => rfl), ⟨rfl, rfl, rfl, fun _ => rfl⟩, trivial⟩
      have u1 : eqB s.c.v t.a.v = false := u1
      conv => whnf
      refine bcase_intro (fun u2 => ?_) (fun u2 => ?_)
      · have u2 : eqB s.c.v t.b.v = true := u2
        conv => whnf
        refine ⟨rfl, ?_⟩
        conv => whnf
        refine ⟨o1.app (app3 e1), fun c2 k2 => ?_⟩
        conv => whnf
        have he := cmn_y2 (isP2 u1 u2)
        refine ⟨[0, 5, 2], [3, 4, 5, 8, 9], [0, 1, 2], fun vs3 => ?_⟩
        conv => whnf
        refine ⟨fun _ _ => rfl, pureL_append o1.new.1 (fun _ _ => rfl), o2.new.1, ?_⟩
        conv => whnf
        refine ⟨_, _, ?_, ?_, ⟨(3, (o1.push [s.c] rfl c2 k2), o2, vs3), (by decide : 3 ≤ 3), push_l e1 he.1, e2.trans he.2.symm⟩, (by decide : 3 - 3 < 3 - 2), rfl, rfl⟩
        · exact ⟨fun _ => rfl, fun _ => rfl, fun _ => rfl, fun _ => rfl, fun ρ => OP.push_sl o1 [s.c] rfl c2 k2 1 ρ, fun _ => rfl, fun _ => rfl, fun _ => rfl, fun _ => rfl, fun _ => rfl, fun _ => rfl, fun _ => rfl, fun _ => rfl, fun _ => rfl, fun _ => rfl, fun _ => rfl, fun _ => rfl, fun _ => rfl, fun _ => rfl, fun _ => rfl, fun _ => rfl, fun _ => rfl, fun _ => rfl, fun _ => rfl, fun _ => rfl, fun _ => rfl, fun _ => rfl, fun _ => rfl, fun _ => rfl, fun _ => rfl, fun _ => rfl, fun _ => rfl, fun _ => rfl, fun _ => rfl, fun _ => rfl, fun _ => rfl, fun _ => rfl, fun _ => rfl, fun _ => rfl, trivial⟩
        · exact ⟨⟨rfl, rfl, rfl, fun _ => rfl⟩, OP.push_blk o1 [s.c] rfl c2 k2 (fun _ => rfl), ⟨rfl, rfl, rfl, fun _ => rfl⟩, trivial⟩
      have u2 : eqB s.c.v t.b.v = false := u2
      conv => whnf
      refine bcase_intro (fun u3 => ?_) (fun u3 => ?_)
      · have u3 : isP s.c t = true := (isP3 u1 u2).symm.trans u3
        conv => whnf
        refine ⟨rfl, ?_⟩
        conv => whnf
        refine ⟨o1.app (app3 e1), fun c2 k2 => ?_⟩
        conv => whnf
        have he := cmn_y2 u3
        refine ⟨[0, 5, 2], [3, 4, 5, 8, 9], [0, 1, 2], fun vs3 => ?_⟩
        conv => whnf
        refine ⟨fun _ _ => rfl, pureL_append o1.new.1 (fun _ _ => rfl), o2.new.1, ?_⟩
        conv => whnf
        refine ⟨_, _, ?_, ?_, ⟨(3, (o1.push [s.c] rfl c2 k2), o2, vs3), (by decide : 3 ≤ 3), push_l e1 he.1, e2.trans he.2.symm⟩, (by decide : 3 - 3 < 3 - 2), rfl, rfl⟩
        · exact ⟨fun _ => rfl, fun _ => rfl, fun _ => rfl, fun _ => rfl, fun ρ => OP.push_sl o1 [s.c] rfl c2 k2 1 ρ, fun _ => rfl, fun _ => rfl, fun _ => rfl, fun _ => rfl, fun _ => rfl, fun _ => rfl, fun _ => rfl, fun _ => rfl, fun _ => rfl, fun _ => rfl, fun _ => rfl, fun _ => rfl, fun _ => rfl, fun _ => rfl, fun _ => rfl, fun _ => rfl, fun _ => rfl, fun _ => rfl, fun _ => rfl, fun _ => rfl, fun _ => rfl, fun _ => rfl, fun _ => rfl, fun _ => rfl, fun _ => rfl, fun _ => rfl, fun _ => rfl, fun _ => rfl, fun _ => rfl, fun _ => rfl, fun _ => rfl, fun _ => rfl, fun _ => rfl, fun _ => rfl, trivial⟩
        · exact ⟨⟨rfl, rfl, rfl, fun _ => rfl⟩, OP.push_blk o1 [s.c] rfl c2 k2 (fun _ => rfl), ⟨rfl, rfl, rfl, fun _ => rfl⟩, trivial⟩
      · have u3 : isP s.c t = false := (isP3 u1 u2).symm.trans u3
        conv => whnf
        refine ⟨rfl, ?_⟩
        conv => whnf
        refine ⟨o2.app (app3 e2), fun c2 k2 => ?_⟩
        conv => whnf
        have he := cmn_n2 u3
        refine ⟨[0, 1, 5], [3, 4, 5, 8, 9], [0, 1, 2], fun vs3 => ?_⟩
        conv => whnf
        refine ⟨fun _ _ => rfl, o1.new.1, pureL_append o2.new.1 (fun _ _ => rfl), ?_⟩
        conv => whnf
        refine ⟨_, _, ?_, ?_, ⟨(3, o1, (o2.push [s.c] rfl c2 k2), vs3), (by decide : 3 ≤ 3), e1.trans he.1.symm, push_l e2 he.2⟩, (by decide : 3 - 3 < 3 - 2), rfl, rfl⟩
        · exact ⟨fun _ => rfl, fun _ => rfl, fun _ => rfl, fun _ => rfl, fun _ => rfl, fun ρ => OP.push_sl o2 [s.c] rfl c2 k2 2 ρ, fun _ => rfl, fun _ => rfl, fun _ => rfl, fun _ => rfl, fun _ => rfl, fun _ => rfl, fun _ => rfl, fun _ => rfl, fun _ => rfl, fun _ => rfl, fun _ => rfl, fun _ => rfl, fun _ => rfl, fun _ => rfl, fun _ => rfl, fun _ => rfl, fun _ => rfl, fun _ => rfl, fun _ => rfl, fun _ => rfl, fun _ => rfl, fun _ => rfl, fun _ => rfl, fun _ => rfl, fun _ => rfl, fun _ => rfl, fun _ => rfl, fun _ => rfl, fun _ => rfl, fun _ => rfl, fun _ => rfl, fun _ => rfl, fun _ => rfl, trivial⟩
        · exact ⟨⟨rfl, rfl, rfl, fun _ => rfl⟩, ⟨rfl, rfl, rfl, fun _ => rfl⟩, OP.push_blk o2 [s.c] rfl c2 k2 (fun _ => rfl), trivial⟩
end Go.Proofs.YtmooplnklcgfjaaGreatDoor
