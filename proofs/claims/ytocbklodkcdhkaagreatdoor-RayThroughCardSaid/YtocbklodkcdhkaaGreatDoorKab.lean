/- Lists of points and of edges; the order of points. Corners: an ordered list of points, by the reckoner. Corners, by the reckoner. Edges, how often an edge occurs, by the reckoner. The border of a list, by the reckoner. -/
import Derived.Test.YtocbklodkcdhkaaGreatDoorTrd
import Derived.Test.YtocbklodkcdhkaaGreatDoorBas
namespace Go.Proofs.YtocbklodkcdhkaaGreatDoor
open Go.RowKit
set_option maxRecDepth 100000

def eqP (p q : PT) : Bool := decide (p.x = q.x) && (decide (p.y = q.y) && decide (p.z = q.z))
/-! the order of points -/
def lessI (x1 y1 z1 x2 y2 z2 : Int) : Bool := cond (!decide (x1 = x2)) (decide (x1 < x2)) (cond (!decide (y1 = y2)) (decide (y1 < y2)) (decide (z1 < z2)))
def lessP (p q : PT) : Bool := lessI p.x p.y p.z q.x q.y q.z
def LtP (p q : PT) : Prop := p.x < q.x ∨ (p.x = q.x ∧ (p.y < q.y ∨ (p.y = q.y ∧ p.z < q.z)))
theorem lessP_iff (p q : PT) : lessP p q = true ↔ LtP p q := by
 unfold lessP lessI LtP
 by_cases hx : p.x = q.x
 ·by_cases hy : p.y = q.y
  ·simp [hx, hy]
  ·simp [hx, hy]
 ·simp [hx]
theorem PT.ext' {p q : PT} (hx : p.x = q.x) (hy : p.y = q.y) (hz : p.z = q.z) : p = q := by
 cases p; cases q; simp only at hx hy hz; subst hx hy hz; rfl
theorem eqP_iff (p q : PT) : eqP p q = true ↔ p = q := by
 unfold eqP
 simp only [Bool.and_eq_true, decide_eq_true_eq]
 exact ⟨fun ⟨a, b, c⟩ => PT.ext' a b c, fun h => by subst h; exact ⟨rfl,rfl,rfl⟩⟩
theorem less_trans {p q r : PT} (h : lessP p q = true) (h' : lessP q r = true) : lessP p r = true := by
 rw [lessP_iff] at *; unfold LtP at *; omega
theorem less_tot {p q : PT} (h : lessP p q = false) (hn : p ≠ q) : lessP q p = true := by
 have h1 : ¬ LtP p q := fun hh => by rw [(lessP_iff p q).2 hh] at h; cases h
 have h2 : ¬ (p.x = q.x ∧ p.y = q.y ∧ p.z = q.z) := fun ⟨a, b, c⟩ => hn (PT.ext' a b c)
 rw [lessP_iff]; unfold LtP at *; omega
def Srt (l : List PT) : Prop := l.Pairwise fun p q => lessP p q = true
theorem srt_at {l : List PT} (h : Srt l) {i j : Nat} (hi : i < l.length) (hj : j < l.length) (hij : i < j) : lessP l[i] l[j] = true := List.pairwise_iff_getElem.1 h i j hi hj hij
theorem srt_ins {l : List PT} (h : Srt l) {k : Nat} {p : PT} (hk : k ≤ l.length) (h1 : ∀ i (hi : i < l.length), i < k → lessP l[i] p = true) (h2 : ∀ hk : k < l.length, lessP p l[k] = true) : Srt (l.take k ++ p :: l.drop k) := by
 unfold Srt
 rw [List.pairwise_append, List.pairwise_cons]
 have hd : ∀ x ∈ l.drop k, lessP p x = true := fun x hx => by
  obtain ⟨i, hi, rfl⟩ := List.getElem_of_mem hx
  have hlen : k + i < l.length := by simp at hi; omega
  rw [List.getElem_drop]
  have hkl : k < l.length := by omega
  by_cases h0 : i = 0
  ·subst h0; exact h2 hkl
  ·exact less_trans (h2 hkl) (srt_at h hkl hlen (by omega))
 have ht : ∀ x ∈ l.take k, lessP x p = true := fun x hx => by
  obtain ⟨i, hi, rfl⟩ := List.getElem_of_mem hx
  have hlen : i < k ∧ i < l.length := by simp at hi; omega
  rw [List.getElem_take]
  exact h1 i hlen.2 hlen.1
 have hs : Srt (l.take k ++ l.drop k) := by rw [List.take_append_drop]; exact h
 unfold Srt at hs
 rw [List.pairwise_append] at hs
 refine ⟨hs.1, ⟨hd, hs.2.1⟩, fun a ha b hb => ?_⟩
 rcases List.mem_cons.1 hb with rfl | hb
 ·exact ht a ha
 ·exact hs.2.2 a ha b hb
theorem mem_ins {l : List PT} {k : Nat} {p q : PT} : q ∈ l.take k ++ p :: l.drop k ↔ q = p ∨ q ∈ l := by
 conv => rhs; rhs; rw [← List.take_append_drop k l]
 simp only [List.mem_append, List.mem_cons]
 constructor
 ·rintro (h | rfl | h)
  ·exact .inr (.inl h)
  ·exact .inl rfl
  ·exact .inr (.inr h)
 ·rintro (rfl | h | h)
  ·exact .inr (.inl rfl)
  ·exact .inl h
  ·exact .inr (.inr h)
def corT (t : TR) : List PT := [t.a, t.b, t.c]
def cor (l : List TR) : List PT := l.flatMap corT
def ptsC : List PT → List C
 | [] => []
 | p :: l => ptC p ++ ptsC l
theorem ptsC_size : ∀ l : List PT, sizeC (ptsC l) = 3 * l.length
 | [] => rfl
 | _ :: l => by rw [ptsC, sizeC_append, ptsC_size l, List.length_cons]; show 3 + _ = _; omega
theorem ptsC_append : ∀ a b : List PT, ptsC (a ++ b) = ptsC a ++ ptsC b
 | [], _ => rfl
 | _ :: l, b => by rw [List.cons_append, ptsC, ptsC_append l b, ptsC, List.append_assoc]
theorem ptsC_pure : ∀ l : List PT, PureL (ptsC l)
 | [] => fun _ _=>rfl
 | _ :: l => pureL_append (fun _ _=>rfl) (ptsC_pure l)
theorem allOne_pts : ∀ l : List PT, allOne (ptsC l) = true
 | [] => rfl
 | _ :: l => by rw [ptsC, allOne_append, allOne_pts l]; rfl
theorem subC_pts (l : List PT) {k : Nat} (hk : k < l.length) : subC (ptsC l) (k * 3) 3 = some (ptC l[k]) := by
 have e : ptsC l = ptsC (l.take k) ++ (ptC l[k] ++ ptsC (l.drop (k + 1))) := by
  have h : l = l.take k ++ (l[k] :: l.drop (k + 1)) := by rw [← List.drop_eq_getElem_cons hk, List.take_append_drop]
  rw [show ptsC l = ptsC (l.take k ++ (l[k] :: l.drop (k + 1))) by rw [← h], ptsC_append]
  rfl
 have s : sizeC (ptsC (l.take k)) = k * 3 := by rw [ptsC_size]; simp; omega
 rw [e, ← s]
 exact subC_app _ (ptC l[k]) _
theorem subC_pts_take (l : List PT) {k : Nat} (hk : k ≤ l.length) : subC (ptsC l) 0 (k * 3) = some (ptsC (l.take k)) := by
 have h := subC_app [] (ptsC (l.take k)) (ptsC (l.drop k))
 rw [ptsC_size, List.length_take, Nat.min_eq_left hk, List.nil_append, ← ptsC_append, List.take_append_drop, Nat.mul_comm] at h
 exact h
theorem subC_pts_drop (l : List PT) {k cap : Nat} (hk : k ≤ l.length) (hc : l.length ≤ cap) : subC (ptsC l) (slOff 0 3 k cap) ((l.length - k) * 3) = some (ptsC (l.drop k)) := by
 have h := subC_app (ptsC (l.take k)) (ptsC (l.drop k)) []
 rw [List.append_nil, ← ptsC_append, List.take_append_drop, ptsC_size, ptsC_size, List.length_take, Nat.min_eq_left hk, List.length_drop] at h
 cases k with
 | zero => simpa [slOff, Nat.mul_comm] using h
 | succ k =>
  show subC (ptsC l) (if cap = k + 1 then 0 else 0 + (k + 1) * 3) _ = _
  split
  ·rename_i e
   have : l.length = k + 1 := by omega
   rw [this, Nat.sub_self, Nat.zero_mul, subC_nil, List.drop_eq_nil_of_le (by omega)]; rfl
  ·rw [Nat.zero_add, Nat.mul_comm (k + 1), Nat.mul_comm (l.length - (k + 1))]; exact h
structure OP where
 l : List PT
 nl : Bool
 cap : Nat
 ok : SliOk nl l.length cap
def OP.sl (o : OP) (b : Nat) : SV := .c (.sli o.nl b 0 o.l.length o.cap o.ok)
def OP.blk (o : OP) : Blk := ⟨35, o.nl, ptsC o.l, (o.cap - o.l.length) * 3⟩
def OP.none : OP := ⟨[], true, 0, by unfold SliOk; decide⟩
theorem OP.new (o : OP) : NewB o.blk := by
 refine ⟨ptsC_pure o.l, ?_⟩
 cases h : o.nl with
 | false => exact .inl h
 | true =>
  right
  have h1 := o.ok.1; have h2 := o.ok.2.2 h
  have : o.l = [] := List.eq_nil_of_length_eq_zero (by omega)
  unfold OP.blk Blk.void
  rw [h, this]; rfl
theorem OP.app (o : OP) {m : Nat} (hm : (o.l.length + m) * 3 ≤ 5000000000000) : o.blk.ty = 35 ∧ o.blk.ro = o.nl ∧ sizeC o.blk.cs = o.l.length * 3 ∧ (o.nl = false → sizeC o.blk.cs + o.blk.tl = o.cap * 3) ∧ (o.l.length + m) * 3 ≤ 5000000000000 := by
 have h1 : sizeC o.blk.cs = o.l.length * 3 := by show sizeC (ptsC o.l) = _; rw [ptsC_size]; omega
 refine ⟨rfl,rfl,h1, fun _ => ?_, hm⟩
 rw [h1]
 show o.l.length * 3 + (o.cap - o.l.length) * 3 = o.cap * 3
 have := o.ok.1
 omega
def OP.push (o : OP) (m : List PT) {n : Nat} (hn : m.length = n) (cap2 : Nat) (h2 : SliOk (o.nl && decide (n = 0)) (o.l.length + n) cap2) : OP := ⟨o.l ++ m, o.nl && decide (n = 0), cap2, by rw [List.length_append, hn]; exact h2⟩
theorem OP.push_sl (o : OP) (m : List PT) {n : Nat} (hn : m.length = n) (cap2 : Nat) (h2 : SliOk (o.nl && decide (n = 0)) (o.l.length + n) cap2) (b : Nat) (ρ : Rho) : (SV.c (.sli (o.nl && decide (n = 0)) b 0 (o.l.length + n) cap2 h2)).den ρ = ((o.push m hn cap2 h2).sl b).den ρ := by
 simp only [OP.sl, OP.push, SV.den, C.den, C.cells, List.length_append, hn]
theorem OP.push_blk (o : OP) (m : List PT) {n : Nat} (hn : m.length = n) (cap2 : Nat) (h2 : SliOk (o.nl && decide (n = 0)) (o.l.length + n) cap2) {cs : List C} (hcs : ∀ ρ, cellsL ρ cs = cellsL ρ (ptsC m)) :
  35 = (o.push m hn cap2 h2).blk.ty ∧ (o.nl && decide (n = 0)) = (o.push m hn cap2 h2).blk.ro ∧ (cap2 - (o.l.length + n)) * 3 = (o.push m hn cap2 h2).blk.tl ∧ ∀ ρ, cellsL ρ (ptsC o.l ++ cs) = cellsL ρ (o.push m hn cap2 h2).blk.cs := by
 refine ⟨rfl,rfl,?_, fun ρ => ?_⟩
 ·simp only [OP.push, OP.blk, List.length_append, hn]
 ·show _ = cellsL ρ (ptsC (o.l ++ m))
  rw [ptsC_append, cellsL_append, cellsL_append, hcs]
structure ED where
 a : PT
 b : PT
def edC (e : ED) : List C := [.int e.a.x e.a.hx, .int e.a.y e.a.hy, .int e.a.z e.a.hz, .int e.b.x e.b.hx, .int e.b.y e.b.hy, .int e.b.z e.b.hz]
def edsC : List ED → List C
 | [] => []
 | p :: l => edC p ++ edsC l
theorem edsC_size : ∀ l : List ED, sizeC (edsC l) = 6 * l.length
 | [] => rfl
 | _ :: l => by rw [edsC, sizeC_append, edsC_size l, List.length_cons]; show 6 + _ = _; omega
theorem edsC_append : ∀ a b : List ED, edsC (a ++ b) = edsC a ++ edsC b
 | [], _ => rfl
 | _ :: l, b => by rw [List.cons_append, edsC, edsC_append l b, edsC, List.append_assoc]
theorem edsC_pure : ∀ l : List ED, PureL (edsC l)
 | [] => fun _ _=>rfl
 | _ :: l => pureL_append (fun _ _=>rfl) (edsC_pure l)
theorem allOne_eds : ∀ l : List ED, allOne (edsC l) = true
 | [] => rfl
 | _ :: l => by rw [edsC, allOne_append, allOne_eds l]; rfl
theorem subC_eds (l : List ED) {k : Nat} (hk : k < l.length) : subC (edsC l) (k * 6) 6 = some (edC l[k]) := by
 have e : edsC l = edsC (l.take k) ++ (edC l[k] ++ edsC (l.drop (k + 1))) := by
  have h : l = l.take k ++ (l[k] :: l.drop (k + 1)) := by rw [← List.drop_eq_getElem_cons hk, List.take_append_drop]
  rw [show edsC l = edsC (l.take k ++ (l[k] :: l.drop (k + 1))) by rw [← h], edsC_append]
  rfl
 have s : sizeC (edsC (l.take k)) = k * 6 := by rw [edsC_size]; simp; omega
 rw [e, ← s]
 exact subC_app _ (edC l[k]) _
theorem subC_eds_take (l : List ED) {k : Nat} (hk : k ≤ l.length) : subC (edsC l) 0 (k * 6) = some (edsC (l.take k)) := by
 have h := subC_app [] (edsC (l.take k)) (edsC (l.drop k))
 rw [edsC_size, List.length_take, Nat.min_eq_left hk, List.nil_append, ← edsC_append, List.take_append_drop, Nat.mul_comm] at h
 exact h
theorem subC_eds_drop (l : List ED) {k cap : Nat} (hk : k ≤ l.length) (hc : l.length ≤ cap) : subC (edsC l) (slOff 0 6 k cap) ((l.length - k) * 6) = some (edsC (l.drop k)) := by
 have h := subC_app (edsC (l.take k)) (edsC (l.drop k)) []
 rw [List.append_nil, ← edsC_append, List.take_append_drop, edsC_size, edsC_size, List.length_take, Nat.min_eq_left hk, List.length_drop] at h
 cases k with
 | zero => simpa [slOff, Nat.mul_comm] using h
 | succ k =>
  show subC (edsC l) (if cap = k + 1 then 0 else 0 + (k + 1) * 6) _ = _
  split
  ·rename_i e
   have : l.length = k + 1 := by omega
   rw [this, Nat.sub_self, Nat.zero_mul, subC_nil, List.drop_eq_nil_of_le (by omega)]; rfl
  ·rw [Nat.zero_add, Nat.mul_comm (k + 1), Nat.mul_comm (l.length - (k + 1))]; exact h
structure OE where
 l : List ED
 nl : Bool
 cap : Nat
 ok : SliOk nl l.length cap
def OE.sl (o : OE) (b : Nat) : SV := .c (.sli o.nl b 0 o.l.length o.cap o.ok)
def OE.blk (o : OE) : Blk := ⟨82, o.nl, edsC o.l, (o.cap - o.l.length) * 6⟩
def OE.none : OE := ⟨[], true, 0, by unfold SliOk; decide⟩
theorem OE.new (o : OE) : NewB o.blk := by
 refine ⟨edsC_pure o.l, ?_⟩
 cases h : o.nl with
 | false => exact .inl h
 | true =>
  right
  have h1 := o.ok.1; have h2 := o.ok.2.2 h
  have : o.l = [] := List.eq_nil_of_length_eq_zero (by omega)
  unfold OE.blk Blk.void
  rw [h, this]; rfl
theorem OE.app (o : OE) {m : Nat} (hm : (o.l.length + m) * 6 ≤ 5000000000000) : o.blk.ty = 82 ∧ o.blk.ro = o.nl ∧ sizeC o.blk.cs = o.l.length * 6 ∧ (o.nl = false → sizeC o.blk.cs + o.blk.tl = o.cap * 6) ∧ (o.l.length + m) * 6 ≤ 5000000000000 := by
 have h1 : sizeC o.blk.cs = o.l.length * 6 := by show sizeC (edsC o.l) = _; rw [edsC_size]; omega
 refine ⟨rfl,rfl,h1, fun _ => ?_, hm⟩
 rw [h1]
 show o.l.length * 6 + (o.cap - o.l.length) * 6 = o.cap * 6
 have := o.ok.1
 omega
def OE.push (o : OE) (m : List ED) {n : Nat} (hn : m.length = n) (cap2 : Nat) (h2 : SliOk (o.nl && decide (n = 0)) (o.l.length + n) cap2) : OE := ⟨o.l ++ m, o.nl && decide (n = 0), cap2, by rw [List.length_append, hn]; exact h2⟩
theorem OE.push_sl (o : OE) (m : List ED) {n : Nat} (hn : m.length = n) (cap2 : Nat) (h2 : SliOk (o.nl && decide (n = 0)) (o.l.length + n) cap2) (b : Nat) (ρ : Rho) : (SV.c (.sli (o.nl && decide (n = 0)) b 0 (o.l.length + n) cap2 h2)).den ρ = ((o.push m hn cap2 h2).sl b).den ρ := by
 simp only [OE.sl, OE.push, SV.den, C.den, C.cells, List.length_append, hn]
theorem OE.push_blk (o : OE) (m : List ED) {n : Nat} (hn : m.length = n) (cap2 : Nat) (h2 : SliOk (o.nl && decide (n = 0)) (o.l.length + n) cap2) {cs : List C} (hcs : ∀ ρ, cellsL ρ cs = cellsL ρ (edsC m)) :
  82 = (o.push m hn cap2 h2).blk.ty ∧ (o.nl && decide (n = 0)) = (o.push m hn cap2 h2).blk.ro ∧ (cap2 - (o.l.length + n)) * 6 = (o.push m hn cap2 h2).blk.tl ∧ ∀ ρ, cellsL ρ (edsC o.l ++ cs) = cellsL ρ (o.push m hn cap2 h2).blk.cs := by
 refine ⟨rfl,rfl,?_, fun ρ => ?_⟩
 ·simp only [OE.push, OE.blk, List.length_append, hn]
 ·show _ = cellsL ρ (edsC (o.l ++ m))
  rw [edsC_append, cellsL_append, cellsL_append, hcs]
theorem sint_k {a b : Int} {ha : IR a} {hb : IR b} (e : a = b) (ρ : Rho) : (SV.c (.int a ha)).den ρ = (SV.c (.int b hb)).den ρ := by subst e; rfl
theorem lt_ir {nl : Bool} {k n cap : Nat} (h : SliOk nl n cap) (hk : k ≤ n) : IR k := by have := h.ir; unfold IR at *; omega
def dLess : Dn
 | [.agg [.int x1 _, .int y1 _, .int z1 _], .agg [.int x2 _, .int y2 _, .int z2 _]] =>
  some (none, .c (.val (.bool (lessI x1 y1 z1 x2 y2 z2))))
 | _ => none
theorem spLess : SpOk Tryz.prog 38 dLess := sp_of2 (un := 20) (n := 0) ⟨Tryz.func38, by kernel_rfl, by kernel_rfl⟩ base_ok noF_ok fun args p v hd => by
 unfold dLess at hd
 split at hd
 ·rename_i x1 hx1 y1 hy1 z1 hz1 x2 hx2 y2 hy2 z2 hz2
  cases hd
  refine ⟨[.agg [.int x1 hx1, .int y1 hy1, .int z1 hz1], .agg [.int x2 hx2, .int y2 hy2, .int z2 hz2]], fun _=>rfl,fun _ _=>rfl,fun _ _=>rfl,fun _ => ?_⟩
  conv => whnf
  refine bcase_intro (fun h1 => ?_) (fun h1 => ?_)
  ·conv => whnf
   intro ρ
   rw [lessI, h1]; rfl
  ·conv => whnf
   refine bcase_intro (fun h2 => ?_) (fun h2 => ?_)
   ·conv => whnf
    intro ρ
    rw [lessI, h1, h2]; rfl
   ·conv => whnf
    intro ρ
    rw [lessI, h1, h2]; rfl
 ·cases hd
def baseW : List (FuncId × Dn) := (38, dLess) :: base
theorem baseW_ok : AllOk baseW := .cons spLess <| base_ok
def dLessE : Dn
 | [.agg [.int x1 _, .int y1 _, .int z1 _, .int x2 _, .int y2 _, .int z2 _], .agg [.int u1 _, .int v1 _, .int w1 _, .int u2 _, .int v2 _, .int w2 _]] =>
  some (none, .c (.val (.bool (cond (!(decide (x1 = u1) && (decide (y1 = v1) && decide (z1 = w1)))) (lessI x1 y1 z1 u1 v1 w1) (lessI x2 y2 z2 u2 v2 w2)))))
 | _ => none
theorem spLessE : SpOk Tryz.prog 60 dLessE := sp_of2 (un := 20) (n := 0) ⟨Tryz.func60, by kernel_rfl, by kernel_rfl⟩ baseW_ok noF_ok fun args p v hd => by
 unfold dLessE at hd
 split at hd
 ·rename_i x1 hx1 y1 hy1 z1 hz1 x2 hx2 y2 hy2 z2 hz2 u1 hu1 v1 hv1 w1 hw1 u2 hu2 v2 hv2 w2 hw2
  cases hd
  refine ⟨[.agg [.int x1 hx1, .int y1 hy1, .int z1 hz1, .int x2 hx2, .int y2 hy2, .int z2 hz2], .agg [.int u1 hu1, .int v1 hv1, .int w1 hw1, .int u2 hu2, .int v2 hv2, .int w2 hw2]], fun _=>rfl,fun _ _=>rfl,fun _ _=>rfl,fun _ => ?_⟩
  conv => whnf
  refine bcase_intro (fun h1 => ?_) (fun h1 => ?_)
  ·conv => whnf
   intro ρ
   rw [h1]; rfl
  ·conv => whnf
   intro ρ
   rw [h1]; rfl
 ·cases hd
def baseWE : List (FuncId × Dn) := (60, dLessE) :: baseW
theorem baseWE_ok : AllOk baseWE := .cons spLessE <| baseW_ok
end Go.Proofs.YtocbklodkcdhkaaGreatDoor

namespace Go.Proofs.YtocbklodkcdhkaaGreatDoor
open Go.RowKit
set_option maxRecDepth 100000

def cWith : NewC := fun args ros K => ∃ nl len cap h ty l p, args = [.c (.sli nl 0 0 len cap h), .agg (ptC p)] ∧ ros = [⟨ty, true, ptsC l, 0⟩] ∧ l.length = len ∧ len ≤ 1000000 ∧ Srt l ∧
 (p ∈ l → K (.c (.sli nl 0 0 len cap h)) []) ∧ ∀ o : OP, Srt o.l → (∀ q, q ∈ o.l ↔ q = p ∨ q ∈ l) → o.l.length = l.length + 1 → K (o.sl 1) [o.blk]
theorem less_upto {l : List PT} {p : PT} {k : Nat} {hlt : k < l.length} (h : ∀ i (hi : i < l.length), i < k → lessP l[i] p = true) (hk : lessP l[k] p = true) : ∀ i (hi : i < l.length), i < k + 1 → lessP l[i] p = true := fun i hi hik => by
 by_cases e : i = k
 ·subst e; exact hk
 ·exact h i hi (by omega)
set_option maxHeartbeats 8000000 in
theorem csWith : CSp Tryz.prog 16 cWith := csp_of (env_ok baseW_ok 0) mixed (inl_ok (env_ok baseW_ok 0) mixed noF_ok 0) ⟨Tryz.func16, by kernel_rfl, by kernel_rfl⟩ fun args ros K hc => by
 obtain ⟨nl, _, cap, hl, ty, l, p, rfl,rfl,rfl, hlen, hs, hc, hn⟩ := hc
 refine ⟨fun ρ ρ' e => ?_, ?_⟩
 ·have := e 0 (Nat.zero_lt_one)
  simp only [List.map, SV.den, C.den, C.cells, this]
  rfl
 conv => whnf
 refine loop_st (G := {k : Nat // k ≤ l.length ∧ ∀ i (hi : i < l.length), i < k → lessP l[i] p = true} × (Nat → Value)) (fun g => [.c (.sli nl 0 0 l.length cap hl), .c (.val (g.2 1)), .c (.val (g.2 2)), .c (.ptr 1 0), .c (.val (g.2 4)), .c (.int (g.1.1 : Nat) (lt_ir hl g.1.2.1)), .c (.val (g.2 6)), .c (.val (g.2 7)), .c (.val (g.2 8)), .c (.val (g.2 9)), .c (.val (g.2 10)), .c (.val (g.2 11)), .c (.val (g.2 12)), .c (.val (g.2 13)), .c (.val (g.2 14)), .c (.val (g.2 15)), .c (.val (g.2 16)), .c (.val (g.2 17)), .c (.val (g.2 18)), .c (.val (g.2 19)), .c (.val (g.2 20)), .c (.val (g.2 21)), .c (.val (g.2 22)), .c (.val (g.2 23)), .c (.val (g.2 24)), .c (.val (g.2 25)), .c (.val (g.2 26)), .c (.val (g.2 27)), .c (.val (g.2 28)), .c (.val (g.2 29)), .c (.val (g.2 30)), .c (.val (g.2 31)), .c (.val (g.2 32)), .c (.val (g.2 33)), .c (.val (g.2 34)), .c (.val (g.2 35)), .c (.val (g.2 36)), .c (.val (g.2 37)), .c (.val (g.2 38)), .c (.val (g.2 39)), .c (.val (g.2 40)), .c (.val (g.2 41)), .c (.val (g.2 42)), .c (.val (g.2 43)), .c (.val (g.2 44)), .c (.val (g.2 45)), .c (.val (g.2 46)), .c (.val (g.2 47)), .c (.val (g.2 48))]) (fun _ => [⟨ty, true, ptsC l, 0⟩, ⟨35, false, ptC p, 0⟩]) (fun g => l.length - g.1.1) ?_ ?_
 ·refine ⟨[0,1], [0,3,5], [0], fun vs => ?_⟩
  conv => whnf
  refine ⟨ptsC_pure l, ?_⟩
  conv => whnf
  refine ⟨_, _, ?_, ?_, (⟨0, Nat.zero_le _, fun i _ h => by omega⟩, vs), rfl, rfl⟩
  ·exact ⟨fun _=>rfl,fun _=>rfl,fun _=>rfl,fun _=>rfl,fun _=>rfl,fun _=>rfl,fun _=>rfl,fun _=>rfl,fun _=>rfl,fun _=>rfl,fun _=>rfl,fun _=>rfl,fun _=>rfl,fun _=>rfl,fun _=>rfl,fun _=>rfl,fun _=>rfl,fun _=>rfl,fun _=>rfl,fun _=>rfl,fun _=>rfl,fun _=>rfl,fun _=>rfl,fun _=>rfl,fun _=>rfl,fun _=>rfl,fun _=>rfl,fun _=>rfl,fun _=>rfl,fun _=>rfl,fun _=>rfl,fun _=>rfl,fun _=>rfl,fun _=>rfl,fun _=>rfl,fun _=>rfl,fun _=>rfl,fun _=>rfl,fun _=>rfl,fun _=>rfl,fun _=>rfl,fun _=>rfl,fun _=>rfl,fun _=>rfl,fun _=>rfl,fun _=>rfl,fun _=>rfl,fun _=>rfl,fun _=>rfl,trivial⟩
  ·exact ⟨⟨rfl,rfl,rfl, fun _=>rfl⟩, ⟨rfl,rfl,rfl, fun _=>rfl⟩, trivial⟩
 ·rintro ⟨⟨k, hk, hbe⟩, vs⟩
  conv => whnf
  refine bcase_intro (fun hlt => ?_) (fun hge => ?_)
  ·have hlt : k < l.length := n_lt hlt
   conv => whnf
   rw [eff_index_sli (ho := ?hoi1) (hT := ?hTi1) (hx := ?hxi1) (hk := ?hki1) (hlt := ?hlti1)]
   case hoi1 => rfl
   case hTi1 => rfl
   case hxi1 => rfl
   case hki1 => rfl
   case hlti1 => exact hlt
   conv => whnf
   rw [eff_load_sub (ho := ?hol1) (hT := ?hTl1) (hx := ?hxl1) (hb := ?hbl1) (hm := ?hml1) (hv := ?hvl1)]
   case hol1 => rfl
   case hTl1 => rfl
   case hxl1 => rfl
   case hbl1 => rfl
   case hml1 => exact (by rw [Nat.zero_add]; exact subC_pts l hlt : subC (ptsC l) (0 + k * 3) 3 = some (ptC l[k]))
   case hvl1 => rfl
   conv => whnf
   refine bcase_intro (fun hle => ?_) (fun hle => ?_)
   ·have hle : lessP l[k] p = false := by rw [← Bool.not_eq_true']; exact hle
    conv => whnf
    refine bcase_true (n_lt' hlt) ?_
    conv => whnf
    rw [eff_index_sli (ho := ?hoi2) (hT := ?hTi2) (hx := ?hxi2) (hk := ?hki2) (hlt := ?hlti2)]
    case hoi2 => rfl
    case hTi2 => rfl
    case hxi2 => rfl
    case hki2 => rfl
    case hlti2 => exact hlt
    conv => whnf
    rw [eff_load_sub (ho := ?hol2) (hT := ?hTl2) (hx := ?hxl2) (hb := ?hbl2) (hm := ?hml2) (hv := ?hvl2)]
    case hol2 => rfl
    case hTl2 => rfl
    case hxl2 => rfl
    case hbl2 => rfl
    case hml2 => exact (by rw [Nat.zero_add]; exact subC_pts l hlt : subC (ptsC l) (0 + k * 3) 3 = some (ptC l[k]))
    case hvl2 => rfl
    conv => whnf
    refine bcase_intro (fun he => ?_) (fun he => ?_)
    ·have he : l[k] = p := (eqP_iff _ _).1 he
     have hm : p ∈ l := he ▸ List.getElem_mem hlt
     conv => whnf
     refine ⟨[0], [0], fun vs2 => ?_⟩
     conv => whnf
     refine ⟨ptsC_pure l, ?_⟩
     conv => whnf
     exact ⟨_, [], rfl, ⟨⟨rfl,rfl,rfl, fun _=>rfl⟩, trivial⟩, trivial, _, fun _=>rfl,hc hm⟩
    ·have he : l[k] ≠ p := fun e => by have h2 := (eqP_iff _ _).2 e; rw [show eqP l[k] p = false from he] at h2; cases h2
     have haf : ∀ h : k < l.length, lessP p l[k] = true := fun _ => less_tot hle he
     conv => whnf
     rw [eff_slice_hi (h2 := sliOk_le2 hl hk) (ho := ?hosa) (hT := ?hTsa) (hx := ?hxsa) (hk := ?hksa) (hlt := ?hltsa)]
     case hosa => rfl
     case hTsa => rfl
     case hxsa => rfl
     case hksa => rfl
     case hltsa => exact Nat.le_trans hk hl.1
     conv => whnf
     rw [subC_pts_take l hk]
     conv => whnf
     refine ⟨allOne_pts _, ?_⟩
     conv => whnf
     refine ⟨by omega, fun c2 k2 => ?_⟩
     have hsz : sizeC (ptsC (l.take k)) = k * 3 := by rw [ptsC_size, List.length_take]; omega
     have hp3 : sizeC (ptC p) = 3 := rfl
     conv => whnf
     refine ⟨rfl, ?_⟩
     conv => whnf
     refine ⟨⟨rfl,rfl,hsz, fun _ => by have := k2.1; show sizeC (ptsC (l.take k)) + (c2 - k) * 3 = c2 * 3; omega, by omega⟩, fun c3 k3 => ?_⟩
     have hsz2 : sizeC (ptsC (l.take k) ++ ptC p) = (k + 1) * 3 := by rw [sizeC_append, hsz, hp3]; omega
     conv => whnf
     rw [eff_slice_lo (ho := ?hota) (hT := ?hTta) (hx := ?hxta) (hk := ?hkta) (hlt := ?hltta)]
     case hota => rfl
     case hTta => rfl
     case hxta => rfl
     case hkta => rfl
     case hltta => exact hk
     conv => whnf
     rw [subC_pts_drop l hk hl.1]
     conv => whnf
     refine ⟨allOne_pts _, ?_⟩
     conv => whnf
     refine ⟨⟨rfl,rfl,hsz2, fun _ => by have := k3.1; show sizeC (ptsC (l.take k) ++ ptC p) + (c3 - (k + 1)) * 3 = c3 * 3; omega, by omega⟩, fun c4 k4 => ?_⟩
     conv => whnf
     refine ⟨[0,5], [0,1], fun vs2 => ?_⟩
     conv => whnf
     refine ⟨ptsC_pure l, pureL_append (pureL_append (ptsC_pure _) (fun _ _=>rfl)) (ptsC_pure _), ?_⟩
     conv => whnf
     have hl2 : (l.take k ++ p :: l.drop k).length = k + 1 + (l.length - k) := by simp only [List.length_append, List.length_take, List.length_cons, List.length_drop]; omega
     have h4 : SliOk ((decide (k = 0) && decide (1 = 0)) && decide (l.length - k = 0)) (l.take k ++ p :: l.drop k).length c4 := by rw [hl2]; exact k4
     refine ⟨_, [(OP.mk _ _ c4 h4).blk], rfl, ⟨⟨rfl,rfl,rfl, fun _=>rfl⟩, ⟨rfl,rfl,?_, fun ρ => ?_⟩, trivial⟩, ⟨OP.new _, trivial⟩, (OP.mk _ _ c4 h4).sl 1, fun ρ => ?_, hn _ (srt_ins hs hk hbe haf) (fun q => mem_ins) ?_⟩
     ·simp only [OP.blk, hl2]
     ·simp only [OP.blk, ptsC_append, ptsC, List.append_assoc]; rfl
     ·simp only [OP.sl, SV.den, C.den, C.cells, hl2]
     ·show (l.take k ++ p :: l.drop k).length = _; omega
   ·have hle : lessP l[k] p = true := by rw [← Bool.not_eq_false']; exact hle
    conv => whnf
    refine ⟨[0,1], [0,3,5], [0], fun vs2 => ?_⟩
    conv => whnf
    refine ⟨ptsC_pure l, ?_⟩
    conv => whnf
    refine ⟨_, _, ?_, ?_, (⟨k + 1, hlt, fun i hi hik => less_upto hbe hle i hi hik⟩, vs2), (by omega : l.length - (k + 1) < l.length - k), rfl, rfl⟩
    ·exact ⟨fun _=>rfl,fun _=>rfl,fun _=>rfl,fun _=>rfl,fun _=>rfl,sint_eq (wrap_add1 hlt hl.ir) _ _, fun _=>rfl,fun _=>rfl,fun _=>rfl,fun _=>rfl,fun _=>rfl,fun _=>rfl,fun _=>rfl,fun _=>rfl,fun _=>rfl,fun _=>rfl,fun _=>rfl,fun _=>rfl,fun _=>rfl,fun _=>rfl,fun _=>rfl,fun _=>rfl,fun _=>rfl,fun _=>rfl,fun _=>rfl,fun _=>rfl,fun _=>rfl,fun _=>rfl,fun _=>rfl,fun _=>rfl,fun _=>rfl,fun _=>rfl,fun _=>rfl,fun _=>rfl,fun _=>rfl,fun _=>rfl,fun _=>rfl,fun _=>rfl,fun _=>rfl,fun _=>rfl,fun _=>rfl,fun _=>rfl,fun _=>rfl,fun _=>rfl,fun _=>rfl,fun _=>rfl,fun _=>rfl,fun _=>rfl,fun _=>rfl,trivial⟩
    ·exact ⟨⟨rfl,rfl,rfl, fun _=>rfl⟩, ⟨rfl,rfl,rfl, fun _=>rfl⟩, trivial⟩
  ·have hge : l.length ≤ k := n_ge hge
   have haf : ∀ h : k < l.length, lessP p l[k] = true := fun h => by omega
   conv => whnf
   refine bcase_false (n_ge' hge) ?_
   conv => whnf
   rw [eff_slice_hi (h2 := sliOk_le2 hl hk) (ho := ?hosb) (hT := ?hTsb) (hx := ?hxsb) (hk := ?hksb) (hlt := ?hltsb)]
   case hosb => rfl
   case hTsb => rfl
   case hxsb => rfl
   case hksb => rfl
   case hltsb => exact Nat.le_trans hk hl.1
   conv => whnf
   rw [subC_pts_take l hk]
   conv => whnf
   refine ⟨allOne_pts _, ?_⟩
   conv => whnf
   refine ⟨by omega, fun c2 k2 => ?_⟩
   have hsz : sizeC (ptsC (l.take k)) = k * 3 := by rw [ptsC_size, List.length_take]; omega
   have hp3 : sizeC (ptC p) = 3 := rfl
   conv => whnf
   refine ⟨rfl, ?_⟩
   conv => whnf
   refine ⟨⟨rfl,rfl,hsz, fun _ => by have := k2.1; show sizeC (ptsC (l.take k)) + (c2 - k) * 3 = c2 * 3; omega, by omega⟩, fun c3 k3 => ?_⟩
   have hsz2 : sizeC (ptsC (l.take k) ++ ptC p) = (k + 1) * 3 := by rw [sizeC_append, hsz, hp3]; omega
   conv => whnf
   rw [eff_slice_lo (ho := ?hotb) (hT := ?hTtb) (hx := ?hxtb) (hk := ?hktb) (hlt := ?hlttb)]
   case hotb => rfl
   case hTtb => rfl
   case hxtb => rfl
   case hktb => rfl
   case hlttb => exact hk
   conv => whnf
   rw [subC_pts_drop l hk hl.1]
   conv => whnf
   refine ⟨allOne_pts _, ?_⟩
   conv => whnf
   refine ⟨⟨rfl,rfl,hsz2, fun _ => by have := k3.1; show sizeC (ptsC (l.take k) ++ ptC p) + (c3 - (k + 1)) * 3 = c3 * 3; omega, by omega⟩, fun c4 k4 => ?_⟩
   conv => whnf
   refine ⟨[0,5], [0,1], fun vs2 => ?_⟩
   conv => whnf
   refine ⟨ptsC_pure l, pureL_append (pureL_append (ptsC_pure _) (fun _ _=>rfl)) (ptsC_pure _), ?_⟩
   conv => whnf
   have hl2 : (l.take k ++ p :: l.drop k).length = k + 1 + (l.length - k) := by simp only [List.length_append, List.length_take, List.length_cons, List.length_drop]; omega
   have h4 : SliOk ((decide (k = 0) && decide (1 = 0)) && decide (l.length - k = 0)) (l.take k ++ p :: l.drop k).length c4 := by rw [hl2]; exact k4
   refine ⟨_, [(OP.mk _ _ c4 h4).blk], rfl, ⟨⟨rfl,rfl,rfl, fun _=>rfl⟩, ⟨rfl,rfl,?_, fun ρ => ?_⟩, trivial⟩, ⟨OP.new _, trivial⟩, (OP.mk _ _ c4 h4).sl 1, fun ρ => ?_, hn _ (srt_ins hs hk hbe haf) (fun q => mem_ins) ?_⟩
   ·simp only [OP.blk, hl2]
   ·simp only [OP.blk, ptsC_append, ptsC, List.append_assoc]; rfl
   ·simp only [OP.sl, SV.den, C.den, C.cells, hl2]
   ·show (l.take k ++ p :: l.drop k).length = _; omega
end Go.Proofs.YtocbklodkcdhkaaGreatDoor

namespace Go.Proofs.YtocbklodkcdhkaaGreatDoor
open Go.RowKit
set_option maxRecDepth 100000

theorem subC_sub {l m r : List C} {i n o k : Nat} (h1 : subC l i n = some m) (h2 : subC m o k = some r) : subC l (i + o) k = some r := by
 obtain ⟨a, b, rfl, e1, _⟩ := subC_spec h1
 obtain ⟨x, y, rfl, e2, e3⟩ := subC_spec h2
 have e : a ++ (x ++ (r ++ y) ++ b) = (a ++ x) ++ (r ++ (y ++ b)) := by simp [List.append_assoc]
 rw [e, ← e1, ← e2, ← e3, ← sizeC_append]
 exact subC_app _ _ _
theorem subC_pt (l : List TR) {k : Nat} (hk : k < l.length) (o : Nat) {r : List C} (h : subC (trC l[k]) o 3 = some r) : subC (trsC l) (0 + k * 9 + o) 3 = some r := by
 rw [Nat.zero_add]
 exact subC_sub (subC_trs l hk) h
theorem cor_take (l : List TR) {k : Nat} (hk : k < l.length) (q : PT) : q ∈ cor (l.take (k + 1)) ↔ q ∈ cor (l.take k) ∨ q ∈ corT l[k] := by
 rw [List.take_succ_eq_append_getElem hk]
 unfold cor
 rw [List.flatMap_append, List.mem_append]
 simp
theorem mem_same {l T : List PT} {C : PT → Prop} {j : Nat} (hj : j < T.length) (h : ∀ q, q ∈ l ↔ C q ∨ q ∈ T.take j) (hm : T[j] ∈ l) (q : PT) : q ∈ l ↔ C q ∨ q ∈ T.take (j + 1) := by
 rw [List.take_succ_eq_append_getElem hj, List.mem_append, List.mem_singleton]
 constructor
 ·intro hq
  rcases (h q).1 hq with h1 | h1
  ·exact .inl h1
  ·exact .inr (.inl h1)
 ·rintro (h1 | h1 | rfl)
  ·exact (h q).2 (.inl h1)
  ·exact (h q).2 (.inr h1)
  ·exact hm
theorem mem_new {l l3 T : List PT} {C : PT → Prop} {j : Nat} (hj : j < T.length) (h : ∀ q, q ∈ l ↔ C q ∨ q ∈ T.take j) (h3 : ∀ q, q ∈ l3 ↔ q = T[j] ∨ q ∈ l) (q : PT) : q ∈ l3 ↔ C q ∨ q ∈ T.take (j + 1) := by
 rw [List.take_succ_eq_append_getElem hj, List.mem_append, List.mem_singleton, h3, h]
 constructor
 ·rintro (h1 | h1 | h1)
  ·exact .inr (.inr h1)
  ·exact .inl h1
  ·exact .inr (.inl h1)
 ·rintro (h1 | h1 | h1)
  ·exact .inr (.inl h1)
  ·exact .inr (.inr h1)
  ·exact .inl h1
def cCorners : NewC := fun args ros K => ∃ nl len cap h ty l, args = [.c (.sli nl 0 0 len cap h)] ∧ ros = [⟨ty, true, trsC l, 0⟩] ∧ l.length = len ∧ len ≤ 300000 ∧
 ∀ o : OP, Srt o.l → (∀ q, q ∈ o.l ↔ q ∈ cor l) → o.l.length ≤ 3 * len → K (o.sl 1) [o.blk]
def withC : List (FuncId × NewC) := [(16, cWith)]
theorem withC_ok : AllC Tryz.prog withC := .cons csWith .nil
theorem ir3 {j : Nat} (h : j ≤ 3) : IR j := by unfold IR; omega
def CorO (l : List TR) (k : Nat) (o : OP) : Prop := Srt o.l ∧ (∀ q, q ∈ o.l ↔ q ∈ cor (l.take k)) ∧ o.l.length ≤ 3 * k
def CorI (l : List TR) (k : Nat) (T : List PT) (j : Nat) (o : OP) : Prop := Srt o.l ∧ (∀ q, q ∈ o.l ↔ q ∈ cor (l.take k) ∨ q ∈ T.take j) ∧ o.l.length ≤ 3 * k + j
theorem CorI.len {l : List TR} {k : Nat} {T : List PT} {j : Nat} {o : OP} (h : CorI l k T j o) (hk : k < l.length) (hl : l.length ≤ 300000) (hj : j ≤ 3) : o.l.length ≤ 1000000 := by have := h.2.2; omega
set_option maxHeartbeats 8000000 in
theorem csCorners : CSp Tryz.prog 6 cCorners := csp_of (env_ok baseW_ok 0) mixed (hnew_ok withC_ok (inl_ok (env_ok baseW_ok 0) mixed noF_ok 0)) ⟨Tryz.func6, by kernel_rfl, by kernel_rfl⟩ fun args ros K hc => by
 obtain ⟨nl, _, cap, hl, ty, l, rfl,rfl,rfl, hlen, hc⟩ := hc
 refine ⟨fun ρ ρ' e => ?_, ?_⟩
 ·have := e 0 (Nat.zero_lt_one)
  simp only [List.map, SV.den, C.den, C.cells, this]
 conv => whnf
 refine loop_st (G := {g : Nat × OP × (Nat → Value) // g.1 ≤ l.length ∧ CorO l g.1 g.2.1}) (fun g => [.c (.sli nl 0 0 l.length cap hl), .c (.val (g.1.2.2 1)), .c (.val (g.1.2.2 2)), g.1.2.1.sl 1, .c (.int (g.1.1 : Nat) (lt_ir hl g.2.1)), .c (.val (g.1.2.2 5)), .c (.val (g.1.2.2 6)), .c (.val (g.1.2.2 7)), .c (.val (g.1.2.2 8)), .c (.val (g.1.2.2 9)), .c (.val (g.1.2.2 10)), .c (.val (g.1.2.2 11)), .c (.val (g.1.2.2 12)), .c (.val (g.1.2.2 13)), .c (.val (g.1.2.2 14)), .c (.val (g.1.2.2 15)), .c (.val (g.1.2.2 16)), .c (.val (g.1.2.2 17)), .c (.val (g.1.2.2 18)), .c (.val (g.1.2.2 19)), .c (.val (g.1.2.2 20)), .c (.val (g.1.2.2 21)), .c (.val (g.1.2.2 22)), .c (.val (g.1.2.2 23)), .c (.val (g.1.2.2 24))]) (fun g => [⟨ty, true, trsC l, 0⟩, g.1.2.1.blk]) (fun g => l.length - g.1.1) ?_ ?_
 ·refine ⟨[0, 1000 + 35], [0,3,4], [0], fun vs => ?_⟩
  conv => whnf
  refine ⟨pureL_trs l, ?_⟩
  conv => whnf
  refine ⟨_, _, ?_, ?_, ⟨(0, OP.none, vs), Nat.zero_le _, List.Pairwise.nil, fun q => Iff.rfl, Nat.zero_le _⟩, rfl, rfl⟩
  ·exact ⟨fun _=>rfl,fun _=>rfl,fun _=>rfl,fun _=>rfl,fun _=>rfl,fun _=>rfl,fun _=>rfl,fun _=>rfl,fun _=>rfl,fun _=>rfl,fun _=>rfl,fun _=>rfl,fun _=>rfl,fun _=>rfl,fun _=>rfl,fun _=>rfl,fun _=>rfl,fun _=>rfl,fun _=>rfl,fun _=>rfl,fun _=>rfl,fun _=>rfl,fun _=>rfl,fun _=>rfl,fun _=>rfl,trivial⟩
  ·exact ⟨⟨rfl,rfl,rfl, fun _=>rfl⟩, ⟨rfl,rfl,rfl, fun _=>rfl⟩, trivial⟩
 ·rintro ⟨⟨k, o, vs⟩, hk, ho⟩
  have hk : k ≤ l.length := hk
  have ho : CorO l k o := ho
  conv => whnf
  refine bcase_intro (fun hlt => ?_) (fun hge => ?_)
  ·have hlt : k < l.length := n_lt hlt
   conv => whnf
   refine loop_st (G := {g : Nat × OP × (Nat → Value) // g.1 ≤ 3 ∧ CorI l k (corT l[k]) g.1 g.2.1}) (fun g => [.c (.sli nl 0 0 l.length cap hl), .c (.val (g.1.2.2 1)), .c (.val (g.1.2.2 2)), g.1.2.1.sl 1, .c (.int (k : Nat) (lt_ir hl hk)), .c (.int (g.1.1 : Nat) (ir3 g.2.1)), .c (.val (g.1.2.2 6)), .c (.val (g.1.2.2 7)), .c (.val (g.1.2.2 8)), .c (.val (g.1.2.2 9)), .c (.val (g.1.2.2 10)), .c (.val (g.1.2.2 11)), .c (.val (g.1.2.2 12)), .c (.val (g.1.2.2 13)), .c (.val (g.1.2.2 14)), .c (.val (g.1.2.2 15)), .c (.val (g.1.2.2 16)), .c (.val (g.1.2.2 17)), .c (.val (g.1.2.2 18)), .c (.val (g.1.2.2 19)), .c (.val (g.1.2.2 20)), .c (.val (g.1.2.2 21)), .c (.val (g.1.2.2 22)), .c (.val (g.1.2.2 23)), .c (.val (g.1.2.2 24))]) (fun g => [⟨ty, true, trsC l, 0⟩, g.1.2.1.blk]) (fun g => 3 - g.1.1) ?_ ?_
   ·refine ⟨[0,1], [0,3,4,5], [0,1], fun vs2 => ?_⟩
    conv => whnf
    refine ⟨pureL_trs l, o.new.1, ?_⟩
    conv => whnf
    refine ⟨_, _, ?_, ?_, ⟨(0, o, vs2), Nat.zero_le _, ho.1, fun q => by rw [ho.2.1]; simp, ho.2.2⟩, rfl, rfl⟩
    ·exact ⟨fun _=>rfl,fun _=>rfl,fun _=>rfl,fun _=>rfl,fun _=>rfl,fun _=>rfl,fun _=>rfl,fun _=>rfl,fun _=>rfl,fun _=>rfl,fun _=>rfl,fun _=>rfl,fun _=>rfl,fun _=>rfl,fun _=>rfl,fun _=>rfl,fun _=>rfl,fun _=>rfl,fun _=>rfl,fun _=>rfl,fun _=>rfl,fun _=>rfl,fun _=>rfl,fun _=>rfl,fun _=>rfl,trivial⟩
    ·exact ⟨⟨rfl,rfl,rfl, fun _=>rfl⟩, ⟨rfl,rfl,rfl, fun _=>rfl⟩, trivial⟩
   ·rintro ⟨⟨j, o2, vs2⟩, hj, ho2⟩
    have hj : j ≤ 3 := hj
    have ho2 : CorI l k (corT l[k]) j o2 := ho2
    have hcase : j = 3 ∨ j = 0 ∨ j = 1 ∨ j = 2 := by omega
    rcases hcase with rfl | rfl | rfl | rfl
    ·conv => whnf
     refine ⟨[0,1], [0,3,4], [0,1], fun vs3 => ?_⟩
     conv => whnf
     refine ⟨pureL_trs l, o2.new.1, ?_⟩
     conv => whnf
     refine ⟨_, _, ?_, ?_, ⟨(k + 1, o2, vs3), hlt, ho2.1, fun q => by rw [cor_take l hlt]; exact ho2.2.1 q, by have := ho2.2.2; show o2.l.length ≤ 3 * (k + 1); omega⟩, (by omega : l.length - (k + 1) < l.length - k), rfl, rfl⟩
     ·exact ⟨fun _=>rfl,fun _=>rfl,fun _=>rfl,fun _=>rfl,sint_eq (wrap_add1 hlt hl.ir) _ _, fun _=>rfl,fun _=>rfl,fun _=>rfl,fun _=>rfl,fun _=>rfl,fun _=>rfl,fun _=>rfl,fun _=>rfl,fun _=>rfl,fun _=>rfl,fun _=>rfl,fun _=>rfl,fun _=>rfl,fun _=>rfl,fun _=>rfl,fun _=>rfl,fun _=>rfl,fun _=>rfl,fun _=>rfl,fun _=>rfl,trivial⟩
     ·exact ⟨⟨rfl,rfl,rfl, fun _=>rfl⟩, ⟨rfl,rfl,rfl, fun _=>rfl⟩, trivial⟩
    ·conv => whnf
     rw [eff_index_sli (ho := ?hoi0) (hT := ?hTi0) (hx := ?hxi0) (hk := ?hki0) (hlt := ?hlti0)]
     case hoi0 => rfl
     case hTi0 => rfl
     case hxi0 => rfl
     case hki0 => rfl
     case hlti0 => exact hlt
     conv => whnf
     rw [eff_load_sub (ho := ?hol0) (hT := ?hTl0) (hx := ?hxl0) (hb := ?hbl0) (hm := ?hml0) (hv := ?hvl0)]
     case hol0 => rfl
     case hTl0 => rfl
     case hxl0 => rfl
     case hbl0 => rfl
     case hml0 => exact subC_pt l hlt _ (r := ptC l[k].a) rfl
     case hvl0 => rfl
     conv => whnf
     refine ⟨fun _ _=>rfl,?_⟩
     conv => whnf
     refine ⟨⟨ptsC_pure o2.l, trivial⟩, ⟨_, _, _, _, _, o2.l, l[k].a, rfl,rfl,rfl, ho2.len hlt hlen (by decide), ho2.1, fun hm => ?_, fun o3 h3 hq hlen => ?_⟩⟩
     ·conv => whnf
      refine ⟨[0,1], [0,3,4,5], [0,1], fun vs3 => ?_⟩
      conv => whnf
      refine ⟨pureL_trs l, o2.new.1, ?_⟩
      conv => whnf
      refine ⟨_, _, ?_, ?_, ⟨(1, o2, vs3), (by decide : 1 ≤ 3), ho2.1, mem_same (T := corT l[k]) (C := fun q => q ∈ cor (l.take k)) (j := 0) (show 0 < 3 by decide) ho2.2.1 hm, Nat.le_succ_of_le ho2.2.2⟩, (by decide : 3 - 1 < 3 - 0), rfl, rfl⟩
      ·exact ⟨fun _=>rfl,fun _=>rfl,fun _=>rfl,fun _=>rfl,fun _=>rfl,fun _=>rfl,fun _=>rfl,fun _=>rfl,fun _=>rfl,fun _=>rfl,fun _=>rfl,fun _=>rfl,fun _=>rfl,fun _=>rfl,fun _=>rfl,fun _=>rfl,fun _=>rfl,fun _=>rfl,fun _=>rfl,fun _=>rfl,fun _=>rfl,fun _=>rfl,fun _=>rfl,fun _=>rfl,fun _=>rfl,trivial⟩
      ·exact ⟨⟨rfl,rfl,rfl, fun _=>rfl⟩, ⟨rfl,rfl,rfl, fun _=>rfl⟩, trivial⟩
     ·conv => whnf
      refine ⟨[0,2], [0,3,4,5], [0,1], fun vs3 => ?_⟩
      conv => whnf
      refine ⟨pureL_trs l, o3.new.1, ?_⟩
      conv => whnf
      refine ⟨_, _, ?_, ?_, ⟨(1, o3, vs3), (by decide : 1 ≤ 3), h3, mem_new (T := corT l[k]) (C := fun q => q ∈ cor (l.take k)) (j := 0) (show 0 < 3 by decide) ho2.2.1 hq, by have := ho2.2.2; show o3.l.length ≤ 3 * k + 1; omega⟩, (by decide : 3 - 1 < 3 - 0), rfl, rfl⟩
      ·exact ⟨fun _=>rfl,fun _=>rfl,fun _=>rfl,fun _=>rfl,fun _=>rfl,fun _=>rfl,fun _=>rfl,fun _=>rfl,fun _=>rfl,fun _=>rfl,fun _=>rfl,fun _=>rfl,fun _=>rfl,fun _=>rfl,fun _=>rfl,fun _=>rfl,fun _=>rfl,fun _=>rfl,fun _=>rfl,fun _=>rfl,fun _=>rfl,fun _=>rfl,fun _=>rfl,fun _=>rfl,fun _=>rfl,trivial⟩
      ·exact ⟨⟨rfl,rfl,rfl, fun _=>rfl⟩, ⟨rfl,rfl,rfl, fun _=>rfl⟩, trivial⟩
    ·conv => whnf
     rw [eff_index_sli (ho := ?hoi1) (hT := ?hTi1) (hx := ?hxi1) (hk := ?hki1) (hlt := ?hlti1)]
     case hoi1 => rfl
     case hTi1 => rfl
     case hxi1 => rfl
     case hki1 => rfl
     case hlti1 => exact hlt
     conv => whnf
     rw [eff_load_sub (ho := ?hol1) (hT := ?hTl1) (hx := ?hxl1) (hb := ?hbl1) (hm := ?hml1) (hv := ?hvl1)]
     case hol1 => rfl
     case hTl1 => rfl
     case hxl1 => rfl
     case hbl1 => rfl
     case hml1 => exact subC_pt l hlt _ (r := ptC l[k].b) rfl
     case hvl1 => rfl
     conv => whnf
     refine ⟨fun _ _=>rfl,?_⟩
     conv => whnf
     refine ⟨⟨ptsC_pure o2.l, trivial⟩, ⟨_, _, _, _, _, o2.l, l[k].b, rfl,rfl,rfl, ho2.len hlt hlen (by decide), ho2.1, fun hm => ?_, fun o3 h3 hq hlen => ?_⟩⟩
     ·conv => whnf
      refine ⟨[0,1], [0,3,4,5], [0,1], fun vs3 => ?_⟩
      conv => whnf
      refine ⟨pureL_trs l, o2.new.1, ?_⟩
      conv => whnf
      refine ⟨_, _, ?_, ?_, ⟨(2, o2, vs3), (by decide : 2 ≤ 3), ho2.1, mem_same (T := corT l[k]) (C := fun q => q ∈ cor (l.take k)) (j := 1) (show 1 < 3 by decide) ho2.2.1 hm, Nat.le_succ_of_le ho2.2.2⟩, (by decide : 3 - 2 < 3 - 1), rfl, rfl⟩
      ·exact ⟨fun _=>rfl,fun _=>rfl,fun _=>rfl,fun _=>rfl,fun _=>rfl,fun _=>rfl,fun _=>rfl,fun _=>rfl,fun _=>rfl,fun _=>rfl,fun _=>rfl,fun _=>rfl,fun _=>rfl,fun _=>rfl,fun _=>rfl,fun _=>rfl,fun _=>rfl,fun _=>rfl,fun _=>rfl,fun _=>rfl,fun _=>rfl,fun _=>rfl,fun _=>rfl,fun _=>rfl,fun _=>rfl,trivial⟩
      ·exact ⟨⟨rfl,rfl,rfl, fun _=>rfl⟩, ⟨rfl,rfl,rfl, fun _=>rfl⟩, trivial⟩
     ·conv => whnf
      refine ⟨[0,2], [0,3,4,5], [0,1], fun vs3 => ?_⟩
      conv => whnf
      refine ⟨pureL_trs l, o3.new.1, ?_⟩
      conv => whnf
      refine ⟨_, _, ?_, ?_, ⟨(2, o3, vs3), (by decide : 2 ≤ 3), h3, mem_new (T := corT l[k]) (C := fun q => q ∈ cor (l.take k)) (j := 1) (show 1 < 3 by decide) ho2.2.1 hq, by have := ho2.2.2; show o3.l.length ≤ 3 * k + 2; omega⟩, (by decide : 3 - 2 < 3 - 1), rfl, rfl⟩
      ·exact ⟨fun _=>rfl,fun _=>rfl,fun _=>rfl,fun _=>rfl,fun _=>rfl,fun _=>rfl,fun _=>rfl,fun _=>rfl,fun _=>rfl,fun _=>rfl,fun _=>rfl,fun _=>rfl,fun _=>rfl,fun _=>rfl,fun _=>rfl,fun _=>rfl,fun _=>rfl,fun _=>rfl,fun _=>rfl,fun _=>rfl,fun _=>rfl,fun _=>rfl,fun _=>rfl,fun _=>rfl,fun _=>rfl,trivial⟩
      ·exact ⟨⟨rfl,rfl,rfl, fun _=>rfl⟩, ⟨rfl,rfl,rfl, fun _=>rfl⟩, trivial⟩
    ·conv => whnf
     rw [eff_index_sli (ho := ?hoi2) (hT := ?hTi2) (hx := ?hxi2) (hk := ?hki2) (hlt := ?hlti2)]
     case hoi2 => rfl
     case hTi2 => rfl
     case hxi2 => rfl
     case hki2 => rfl
     case hlti2 => exact hlt
     conv => whnf
     rw [eff_load_sub (ho := ?hol2) (hT := ?hTl2) (hx := ?hxl2) (hb := ?hbl2) (hm := ?hml2) (hv := ?hvl2)]
     case hol2 => rfl
     case hTl2 => rfl
     case hxl2 => rfl
     case hbl2 => rfl
     case hml2 => exact subC_pt l hlt _ (r := ptC l[k].c) rfl
     case hvl2 => rfl
     conv => whnf
     refine ⟨fun _ _=>rfl,?_⟩
     conv => whnf
     refine ⟨⟨ptsC_pure o2.l, trivial⟩, ⟨_, _, _, _, _, o2.l, l[k].c, rfl,rfl,rfl, ho2.len hlt hlen (by decide), ho2.1, fun hm => ?_, fun o3 h3 hq hlen => ?_⟩⟩
     ·conv => whnf
      refine ⟨[0,1], [0,3,4,5], [0,1], fun vs3 => ?_⟩
      conv => whnf
      refine ⟨pureL_trs l, o2.new.1, ?_⟩
      conv => whnf
      refine ⟨_, _, ?_, ?_, ⟨(3, o2, vs3), (by decide : 3 ≤ 3), ho2.1, mem_same (T := corT l[k]) (C := fun q => q ∈ cor (l.take k)) (j := 2) (show 2 < 3 by decide) ho2.2.1 hm, Nat.le_succ_of_le ho2.2.2⟩, (by decide : 3 - 3 < 3 - 2), rfl, rfl⟩
      ·exact ⟨fun _=>rfl,fun _=>rfl,fun _=>rfl,fun _=>rfl,fun _=>rfl,fun _=>rfl,fun _=>rfl,fun _=>rfl,fun _=>rfl,fun _=>rfl,fun _=>rfl,fun _=>rfl,fun _=>rfl,fun _=>rfl,fun _=>rfl,fun _=>rfl,fun _=>rfl,fun _=>rfl,fun _=>rfl,fun _=>rfl,fun _=>rfl,fun _=>rfl,fun _=>rfl,fun _=>rfl,fun _=>rfl,trivial⟩
      ·exact ⟨⟨rfl,rfl,rfl, fun _=>rfl⟩, ⟨rfl,rfl,rfl, fun _=>rfl⟩, trivial⟩
     ·conv => whnf
      refine ⟨[0,2], [0,3,4,5], [0,1], fun vs3 => ?_⟩
      conv => whnf
      refine ⟨pureL_trs l, o3.new.1, ?_⟩
      conv => whnf
      refine ⟨_, _, ?_, ?_, ⟨(3, o3, vs3), (by decide : 3 ≤ 3), h3, mem_new (T := corT l[k]) (C := fun q => q ∈ cor (l.take k)) (j := 2) (show 2 < 3 by decide) ho2.2.1 hq, by have := ho2.2.2; show o3.l.length ≤ 3 * k + 3; omega⟩, (by decide : 3 - 3 < 3 - 2), rfl, rfl⟩
      ·exact ⟨fun _=>rfl,fun _=>rfl,fun _=>rfl,fun _=>rfl,fun _=>rfl,fun _=>rfl,fun _=>rfl,fun _=>rfl,fun _=>rfl,fun _=>rfl,fun _=>rfl,fun _=>rfl,fun _=>rfl,fun _=>rfl,fun _=>rfl,fun _=>rfl,fun _=>rfl,fun _=>rfl,fun _=>rfl,fun _=>rfl,fun _=>rfl,fun _=>rfl,fun _=>rfl,fun _=>rfl,fun _=>rfl,trivial⟩
      ·exact ⟨⟨rfl,rfl,rfl, fun _=>rfl⟩, ⟨rfl,rfl,rfl, fun _=>rfl⟩, trivial⟩
  ·have hge : k = l.length := Nat.le_antisymm hk (n_ge hge)
   subst hge
   conv => whnf
   refine ⟨[0,1], [0,1], fun vs3 => ?_⟩
   conv => whnf
   refine ⟨pureL_trs l, o.new.1, ?_⟩
   conv => whnf
   exact ⟨_, [o.blk], rfl, ⟨⟨rfl,rfl,rfl, fun _=>rfl⟩, ⟨rfl,rfl,rfl, fun _=>rfl⟩, trivial⟩, ⟨o.new, trivial⟩, o.sl 1, fun _=>rfl,hc o ho.1 (fun q => by rw [ho.2.1 q, List.take_length]) ho.2.2⟩
end Go.Proofs.YtocbklodkcdhkaaGreatDoor

namespace Go.Proofs.YtocbklodkcdhkaaGreatDoor
open Go.RowKit
set_option maxRecDepth 100000

def cEdges : NewC := fun args ros K => ∃ nl len cap h ty l, args = [.c (.sli nl 0 0 len cap h)] ∧ ros = [⟨ty, true, trsC l, 0⟩] ∧ l.length = len ∧ len ≤ 300000 ∧ ∀ o : OE, o.l.length = 3 * len → K (o.sl 1) [o.blk]
theorem subC_tr9 (l : List TR) {k : Nat} (hk : k < l.length) : subC (trsC l) (0 + k * 9) 9 = some (trC l[k]) := by rw [Nat.zero_add]; exact subC_trs l hk
theorem subC_ed6 (l : List ED) {k : Nat} (hk : k < l.length) : subC (edsC l) (0 + k * 6) 6 = some (edC l[k]) := by rw [Nat.zero_add]; exact subC_eds l hk
def trE (t : TR) : List ED := [⟨t.a, t.b⟩, ⟨t.b, t.c⟩, ⟨t.c, t.a⟩]
set_option maxHeartbeats 8000000 in
theorem csEdges : CSp Tryz.prog 39 cEdges := csp_of (env_ok baseWE_ok 0) mixed (inl_ok (env_ok baseWE_ok 0) mixed noF_ok 0) ⟨Tryz.func39, by kernel_rfl, by kernel_rfl⟩ fun args ros K hc => by
 obtain ⟨nl, _, cap, hl, ty, l, rfl,rfl,rfl, hlen, hc⟩ := hc
 refine ⟨fun ρ ρ' e => ?_, ?_⟩
 ·have e0 := e 0 (Nat.zero_lt_succ _)
  simp only [List.map, SV.den, C.den, C.cells, e0]
 conv => whnf
 refine loop_st (G := {g : Nat × OE // g.1 ≤ l.length ∧ g.2.l.length = 3 * g.1} × (Nat → Value)) (fun g => (.c (.sli nl 0 0 l.length cap hl) :: .c (.val (g.2 1)) :: .c (.val (g.2 2)) :: g.1.1.2.sl 1 :: .c (.int (g.1.1.1 : Nat) (lt_ir hl g.1.2.1)) :: .c (.val (g.2 5)) :: .c (.val (g.2 6)) :: .c (.val (g.2 7)) :: .c (.val (g.2 8)) :: .c (.val (g.2 9)) :: .c (.val (g.2 10)) :: .c (.val (g.2 11)) :: .c (.val (g.2 12)) :: .c (.val (g.2 13)) :: .c (.val (g.2 14)) :: .c (.val (g.2 15)) :: .c (.val (g.2 16)) :: .c (.val (g.2 17)) :: .c (.val (g.2 18)) :: .c (.val (g.2 19)) :: .c (.val (g.2 20)) :: .c (.val (g.2 21)) :: .c (.val (g.2 22)) :: .c (.val (g.2 23)) :: .c (.val (g.2 24)) :: .c (.val (g.2 25)) :: .c (.val (g.2 26)) :: .c (.val (g.2 27)) :: .c (.val (g.2 28)) :: .c (.val (g.2 29)) :: .c (.val (g.2 30)) :: .c (.val (g.2 31)) :: .c (.val (g.2 32)) :: .c (.val (g.2 33)) :: .c (.val (g.2 34)) :: [])) (fun g => [⟨ty, true, trsC l, 0⟩, g.1.1.2.blk]) (fun g => l.length - g.1.1.1) ?_ ?_
 ·refine ⟨[0, 1000 + 82], [0,3,4], [0], fun vs => ?_⟩
  conv => whnf
  refine ⟨pureL_trs l, ?_⟩
  conv => whnf
  refine ⟨_, _, ?_, ?_, (⟨(0, OE.none), Nat.zero_le _, rfl⟩, vs), rfl, rfl⟩
  ·exact ⟨fun _=>rfl,fun _=>rfl,fun _=>rfl,fun _=>rfl,fun _=>rfl,stm _⟩
  ·exact ⟨⟨rfl,rfl,rfl, fun _=>rfl⟩, ⟨rfl,rfl,rfl, fun _=>rfl⟩, trivial⟩
 ·rintro ⟨⟨⟨k, o⟩, hk, ho⟩, vs⟩
  have hk : k ≤ l.length := hk
  have ho : o.l.length = 3 * k := ho
  dsimp only
  conv => whnf
  refine bcase_intro (fun hlt => ?_) (fun hlt => ?_)
  ·have hlt : k < l.length := n_lt hlt
   obtain ⟨T, hT⟩ : ∃ T, T = l[k] := ⟨_, rfl⟩
   have pT : subC (trsC l) (0 + k * 9) 9 = some (trC T) := by rw [hT]; exact subC_tr9 l hlt
   conv => whnf
   conv =>
    arg 2
    tactic' =>
     apply eff_index_sli (k := k) (hi := (lt_ir hl hk)) (ho := ?how1) (hT := ?hTw1) (hx := ?hxw1) (hk := ?hkw1) (hlt := ?hltw1)
     case how1 => rfl
     case hTw1 => rfl
     case hxw1 => rfl
     case hkw1 => rfl
     case hltw1 => exact hlt
   conv => whnf
   conv =>
    arg 2
    tactic' =>
     apply eff_load_sub (ho := ?how2) (hT := ?hTw2) (hx := ?hxw2) (hb := ?hbw2) (hm := ?hmw2) (hv := ?hvw2)
     case how2 => rfl
     case hTw2 => rfl
     case hxw2 => rfl
     case hbw2 => rfl
     case hmw2 => exact pT
     case hvw2 => rfl
   conv => whnf
   refine ⟨rfl, ?_⟩
   conv => whnf
   refine ⟨OE.app o (m := 3) (by rw [ho]; omega), fun c2 k2 => ?_⟩
   conv => whnf
   refine ⟨[0,4], [0,3,4], [0,1], fun vs2 => ?_⟩
   conv => whnf
   refine ⟨pureL_trs l, pureL_append (edsC_pure _) (fun _ _=>rfl), ?_⟩
   conv => whnf
   refine ⟨_, _, ?_, ?_, (⟨(k + 1, o.push (trE T) rfl c2 k2), hlt, by show (o.l ++ _).length = _; rw [List.length_append, ho]; show 3 * k + 3 = _; omega⟩, vs2), (by omega : l.length - (k + 1) < l.length - k), rfl, rfl⟩
   ·exact ⟨fun _=>rfl,fun _=>rfl,fun _=>rfl,fun ρ => o.push_sl (n := 3) (trE T) rfl c2 k2 1 ρ, fun ρ => sint_k (wrap_add1 hlt hl.ir) ρ, stm _⟩
   ·exact ⟨⟨rfl,rfl,rfl, fun _=>rfl⟩, o.push_blk (n := 3) (trE T) rfl c2 k2 (fun _=>rfl), trivial⟩
  ·have hlt : l.length ≤ k := n_ge hlt
   obtain rfl : k = l.length := Nat.le_antisymm hk hlt
   conv => whnf
   refine ⟨[0,1], [0,1], fun vs2 => ?_⟩
   conv => whnf
   refine ⟨pureL_trs l, o.new.1, ?_⟩
   conv => whnf
   exact ⟨_, [o.blk], rfl, ⟨⟨rfl,rfl,rfl, fun _=>rfl⟩, ⟨rfl,rfl,rfl, fun _=>rfl⟩, trivial⟩, ⟨o.new, trivial⟩, o.sl 1, fun _=>rfl,hc o ho⟩
def cCount : NewC := fun args ros K => ∃ nl len cap h ty l e, args = [.c (.sli nl 0 0 len cap h), .agg (edC e)] ∧ ros = [⟨ty, true, edsC l, 0⟩] ∧ l.length = len ∧ ∀ (c : Nat) (hc : IR c), K (.c (.int (c : Nat) hc)) []
theorem ir_cl {nl : Bool} {c k n cap : Nat} (h : SliOk nl n cap) (hk : k ≤ n) (hc : c ≤ k) : IR (c : Nat) := lt_ir h (Nat.le_trans hc hk)
set_option maxHeartbeats 8000000 in
theorem csCount : CSp Tryz.prog 40 cCount := csp_of (env_ok baseWE_ok 0) mixed (inl_ok (env_ok baseWE_ok 0) mixed noF_ok 0) ⟨Tryz.func40, by kernel_rfl, by kernel_rfl⟩ fun args ros K hc => by
 obtain ⟨nl, _, cap, hl, ty, l, e, rfl,rfl,rfl, hc⟩ := hc
 refine ⟨fun ρ ρ' he => ?_, ?_⟩
 ·have e0 := he 0 (Nat.zero_lt_succ _)
  simp only [List.map, SV.den, C.den, C.cells, e0]
  rfl
 conv => whnf
 refine loop_st (G := {g : Nat × Nat // g.1 ≤ l.length ∧ g.2 ≤ g.1} × (Nat → Value)) (fun g => (.c (.sli nl 0 0 l.length cap hl) :: .c (.val (g.2 1)) :: .c (.val (g.2 2)) :: .c (.ptr 1 0) :: .c (.val (g.2 4)) :: .c (.int (g.1.1.2 : Nat) (ir_cl hl g.1.2.1 g.1.2.2)) :: .c (.int (g.1.1.1 : Nat) (lt_ir hl g.1.2.1)) :: .c (.val (g.2 7)) :: .c (.val (g.2 8)) :: .c (.val (g.2 9)) :: .c (.val (g.2 10)) :: .c (.val (g.2 11)) :: .c (.val (g.2 12)) :: .c (.val (g.2 13)) :: .c (.val (g.2 14)) :: .c (.val (g.2 15)) :: .c (.val (g.2 16)) :: .c (.val (g.2 17)) :: .c (.val (g.2 18)) :: .c (.val (g.2 19)) :: .c (.val (g.2 20)) :: .c (.val (g.2 21)) :: [])) (fun g => [⟨ty, true, edsC l, 0⟩, ⟨82, false, edC e, 0⟩]) (fun g => l.length - g.1.1.1) ?_ ?_
 ·refine ⟨[0,1], [0,3,5,6], [0], fun vs => ?_⟩
  conv => whnf
  refine ⟨edsC_pure l, ?_⟩
  conv => whnf
  refine ⟨_, _, ?_, ?_, (⟨(0, 0), Nat.zero_le _, Nat.zero_le _⟩, vs), rfl, rfl⟩
  ·exact ⟨fun _=>rfl,fun _=>rfl,fun _=>rfl,fun _=>rfl,fun _=>rfl,fun _=>rfl,fun _=>rfl,stm _⟩
  ·exact ⟨⟨rfl,rfl,rfl, fun _=>rfl⟩, ⟨rfl,rfl,rfl, fun _=>rfl⟩, trivial⟩
 ·rintro ⟨⟨⟨k, c⟩, hk, hck⟩, vs⟩
  have hk : k ≤ l.length := hk
  have hck : c ≤ k := hck
  dsimp only
  conv => whnf
  refine bcase_intro (fun hlt => ?_) (fun hlt => ?_)
  ·have hlt : k < l.length := n_lt hlt
   conv => whnf
   conv =>
    arg 2
    tactic' =>
     apply eff_index_sli (k := k) (hi := (lt_ir hl hk)) (ho := ?how3) (hT := ?hTw3) (hx := ?hxw3) (hk := ?hkw3) (hlt := ?hltw3)
     case how3 => rfl
     case hTw3 => rfl
     case hxw3 => rfl
     case hkw3 => rfl
     case hltw3 => exact hlt
   conv => whnf
   conv =>
    arg 2
    tactic' =>
     apply eff_load_sub (ho := ?how4) (hT := ?hTw4) (hx := ?hxw4) (hb := ?hbw4) (hm := ?hmw4) (hv := ?hvw4)
     case how4 => rfl
     case hTw4 => rfl
     case hxw4 => rfl
     case hbw4 => rfl
     case hmw4 => exact subC_ed6 l hlt
     case hvw4 => rfl
   conv => whnf
   refine bcase_intro (fun _ => ?_) (fun _ => ?_)
   ·conv => whnf
    refine ⟨[0,1], [0,3,5,6], [0], fun vs2 => ?_⟩
    conv => whnf
    refine ⟨edsC_pure l, ?_⟩
    conv => whnf
    refine ⟨_, _, ?_, ?_, (⟨(k + 1, c + 1), hlt, by omega⟩, vs2), (by omega : l.length - (k + 1) < l.length - k), rfl, rfl⟩
    ·exact ⟨fun _=>rfl,fun _=>rfl,fun _=>rfl,fun _=>rfl,fun _=>rfl,fun ρ => sint_k (wrap_add1 (Nat.lt_of_le_of_lt hck hlt) hl.ir) ρ, fun ρ => sint_k (wrap_add1 hlt hl.ir) ρ, stm _⟩
    ·exact ⟨⟨rfl,rfl,rfl, fun _=>rfl⟩, ⟨rfl,rfl,rfl, fun _=>rfl⟩, trivial⟩
   ·conv => whnf
    refine ⟨[0,1], [0,3,5,6], [0], fun vs2 => ?_⟩
    conv => whnf
    refine ⟨edsC_pure l, ?_⟩
    conv => whnf
    refine ⟨_, _, ?_, ?_, (⟨(k + 1, c), hlt, by omega⟩, vs2), (by omega : l.length - (k + 1) < l.length - k), rfl, rfl⟩
    ·exact ⟨fun _=>rfl,fun _=>rfl,fun _=>rfl,fun _=>rfl,fun _=>rfl,fun _=>rfl,fun ρ => sint_k (wrap_add1 hlt hl.ir) ρ, stm _⟩
    ·exact ⟨⟨rfl,rfl,rfl, fun _=>rfl⟩, ⟨rfl,rfl,rfl, fun _=>rfl⟩, trivial⟩
  ·conv => whnf
   refine ⟨[0], [0], fun vs2 => ?_⟩
   conv => whnf
   refine ⟨edsC_pure l, ?_⟩
   conv => whnf
   exact ⟨_, [], rfl, ⟨⟨rfl,rfl,rfl, fun _=>rfl⟩, trivial⟩, trivial, _, fun _=>rfl,hc c (ir_cl hl hk hck)⟩
end Go.Proofs.YtocbklodkcdhkaaGreatDoor

namespace Go.Proofs.YtocbklodkcdhkaaGreatDoor
open Go.RowKit
set_option maxRecDepth 100000

def insL (l : List ED) (j : Nat) (e : ED) : List ED := l.take j ++ e :: l.drop j
theorem insL_len {l : List ED} {j : Nat} {e : ED} (h : j ≤ l.length) : (insL l j e).length = j + 1 + (l.length - j) := by
 unfold insL; simp only [List.length_append, List.length_take, List.length_cons, List.length_drop]; omega
theorem insE_ok {l : List ED} {j c : Nat} {e : ED} {nl : Bool} (hj : j ≤ l.length) (h : SliOk nl (j + 1 + (l.length - j)) c) : SliOk nl (insL l j e).length c := by rw [insL_len hj]; exact h
theorem insE_sl {l : List ED} {j c : Nat} {e : ED} {nl : Bool} {b : Nat} (hj : j ≤ l.length) (h : SliOk nl (j + 1 + (l.length - j)) c) (ρ : Rho) : (SV.c (.sli nl b 0 (j + 1 + (l.length - j)) c h)).den ρ = ((OE.mk (insL l j e) nl c (insE_ok hj h)).sl b).den ρ := by
 simp only [OE.sl, SV.den, C.den, C.cells, insL_len hj]
theorem insE_blk {l : List ED} {j c : Nat} {e : ED} {nl : Bool} (hj : j ≤ l.length) (h : SliOk nl (j + 1 + (l.length - j)) c) : 82 = (OE.mk (insL l j e) nl c (insE_ok hj h)).blk.ty ∧ nl = (OE.mk (insL l j e) nl c (insE_ok hj h)).blk.ro ∧ (c - (j + 1 + (l.length - j))) * 6 = (OE.mk (insL l j e) nl c (insE_ok hj h)).blk.tl ∧ ∀ ρ, cellsL ρ ((edsC (l.take j) ++ edC e) ++ edsC (l.drop j)) = cellsL ρ (OE.mk (insL l j e) nl c (insE_ok hj h)).blk.cs := by
 refine ⟨rfl,rfl,?_, fun ρ => ?_⟩
 ·simp only [OE.blk, insL_len hj]
 ·show _ = cellsL ρ (edsC (insL l j e))
  unfold insL
  rw [edsC_append, List.append_assoc]; rfl
def cBorder : NewC := fun args ros K => ∃ nl len cap h ty l, args = [.c (.sli nl 0 0 len cap h)] ∧ ros = [⟨ty, true, trsC l, 0⟩] ∧ l.length = len ∧ len ≤ 300000 ∧ ∀ o : OE, o.l.length ≤ 3 * len → K (o.sl 1) [o.blk]
def borC : List (FuncId × NewC) := [(39, cEdges), (40, cCount)]
theorem borC_ok : AllC Tryz.prog borC := .cons csEdges <| .cons csCount .nil
theorem eo_ir {n k : Nat} (h : k ≤ 3 * n) (hn : n ≤ 300000) : IR (k : Nat) := by unfold IR; omega
set_option maxHeartbeats 8000000 in
theorem csBorder : CSp Tryz.prog 41 cBorder := csp_of (env_ok baseWE_ok 0) mixed (hnew_ok borC_ok (inl_ok (env_ok baseWE_ok 0) mixed noF_ok 0)) ⟨Tryz.func41, by kernel_rfl, by kernel_rfl⟩ fun args ros K hc => by
 obtain ⟨nl, _, cap, hl, ty, l, rfl,rfl,rfl, hlen, hc⟩ := hc
 refine ⟨fun ρ ρ' e => ?_, ?_⟩
 ·have e0 := e 0 (Nat.zero_lt_succ _)
  simp only [List.map, SV.den, C.den, C.cells, e0]
 conv => whnf
 refine ⟨⟨pureL_trs l, trivial⟩, ⟨_, _, _, _, _, l, rfl,rfl,rfl, hlen, fun eo he => ?_⟩⟩
 conv => whnf
 refine loop_st (G := {g : Nat × OE // g.1 ≤ eo.l.length ∧ g.2.l.length ≤ g.1} × (Nat → Value)) (fun g => (.c (.val (g.2 0)) :: .c (.val (g.2 1)) :: .c (.val (g.2 2)) :: eo.sl 1 :: g.1.1.2.sl 2 :: .c (.int (g.1.1.1 : Nat) (eo_ir (by have := g.1.2.1; omega : g.1.1.1 ≤ 3 * l.length) hlen)) :: .c (.val (g.2 6)) :: .c (.val (g.2 7)) :: .c (.val (g.2 8)) :: .c (.val (g.2 9)) :: .c (.val (g.2 10)) :: .c (.val (g.2 11)) :: .c (.val (g.2 12)) :: .c (.val (g.2 13)) :: .c (.val (g.2 14)) :: .c (.val (g.2 15)) :: .c (.val (g.2 16)) :: .c (.val (g.2 17)) :: .c (.val (g.2 18)) :: .c (.val (g.2 19)) :: .c (.val (g.2 20)) :: .c (.val (g.2 21)) :: .c (.val (g.2 22)) :: .c (.val (g.2 23)) :: .c (.val (g.2 24)) :: .c (.val (g.2 25)) :: .c (.val (g.2 26)) :: .c (.val (g.2 27)) :: .c (.val (g.2 28)) :: .c (.val (g.2 29)) :: .c (.val (g.2 30)) :: .c (.val (g.2 31)) :: .c (.val (g.2 32)) :: .c (.val (g.2 33)) :: .c (.val (g.2 34)) :: .c (.val (g.2 35)) :: .c (.val (g.2 36)) :: .c (.val (g.2 37)) :: .c (.val (g.2 38)) :: .c (.val (g.2 39)) :: .c (.val (g.2 40)) :: .c (.val (g.2 41)) :: .c (.val (g.2 42)) :: .c (.val (g.2 43)) :: .c (.val (g.2 44)) :: .c (.val (g.2 45)) :: .c (.val (g.2 46)) :: .c (.val (g.2 47)) :: .c (.val (g.2 48)) :: .c (.val (g.2 49)) :: .c (.val (g.2 50)) :: .c (.val (g.2 51)) :: .c (.val (g.2 52)) :: .c (.val (g.2 53)) :: .c (.val (g.2 54)) :: .c (.val (g.2 55)) :: .c (.val (g.2 56)) :: .c (.val (g.2 57)) :: .c (.val (g.2 58)) :: .c (.val (g.2 59)) :: .c (.val (g.2 60)) :: .c (.val (g.2 61)) :: .c (.val (g.2 62)) :: .c (.val (g.2 63)) :: .c (.val (g.2 64)) :: [])) (fun g => [⟨ty, true, trsC l, 0⟩, eo.blk, g.1.1.2.blk]) (fun g => eo.l.length - g.1.1.1) ?_ ?_
 ·refine ⟨[0, 1, 1000 + 82], [3,4,5], [0,1], fun vs => ?_⟩
  conv => whnf
  refine ⟨pureL_trs l, eo.new.1, ?_⟩
  conv => whnf
  refine ⟨_, _, ?_, ?_, (⟨(0, OE.none), Nat.zero_le _, Nat.zero_le _⟩, vs), rfl, rfl⟩
  ·exact ⟨fun _=>rfl,fun _=>rfl,fun _=>rfl,fun _=>rfl,fun _=>rfl,fun _=>rfl,stm _⟩
  ·exact ⟨⟨rfl,rfl,rfl, fun _=>rfl⟩, ⟨rfl,rfl,rfl, fun _=>rfl⟩, ⟨rfl,rfl,rfl, fun _=>rfl⟩, trivial⟩
 ·rintro ⟨⟨⟨k, o⟩, hk, ho⟩, vs⟩
  have hk : k ≤ eo.l.length := hk
  have ho : o.l.length ≤ k := ho
  dsimp only
  conv => whnf
  refine bcase_intro (fun hlt => ?_) (fun hlt => ?_)
  ·have hlt : k < eo.l.length := n_lt hlt
   obtain ⟨e, he2⟩ : ∃ e, e = eo.l[k] := ⟨_, rfl⟩
   have pe : subC (edsC eo.l) (0 + k * 6) 6 = some (edC e) := by rw [he2]; exact subC_ed6 eo.l hlt
   conv => whnf
   conv =>
    arg 2
    tactic' =>
     apply eff_index_sli (k := k) (hi := (eo_ir (by omega : k ≤ 3 * l.length) hlen)) (ho := ?how5) (hT := ?hTw5) (hx := ?hxw5) (hk := ?hkw5) (hlt := ?hltw5)
     case how5 => rfl
     case hTw5 => rfl
     case hxw5 => rfl
     case hkw5 => rfl
     case hltw5 => exact hlt
   conv => whnf
   conv =>
    arg 2
    tactic' =>
     apply eff_load_sub (ho := ?how6) (hT := ?hTw6) (hx := ?hxw6) (hb := ?hbw6) (hm := ?hmw6) (hv := ?hvw6)
     case how6 => rfl
     case hTw6 => rfl
     case hxw6 => rfl
     case hbw6 => rfl
     case hmw6 => exact pe
     case hvw6 => rfl
   conv => whnf
   refine ⟨fun _ _=>rfl,?_⟩
   conv => whnf
   refine ⟨⟨edsC_pure eo.l, trivial⟩, ⟨_, _, _, _, _, eo.l, ⟨e.b, e.a⟩, rfl,rfl,rfl, fun c1 hc1 => ?_⟩⟩
   conv => whnf
   refine bcase_intro (fun _ => ?_) (fun _ => ?_)
   ·conv => whnf
    refine ⟨[0,1,2], [3,4,5], [0,1,2], fun vs2 => ?_⟩
    conv => whnf
    refine ⟨pureL_trs l, eo.new.1, o.new.1, ?_⟩
    conv => whnf
    refine ⟨_, _, ?_, ?_, (⟨(k + 1, o), hlt, Nat.le_succ_of_le ho⟩, vs2), (by omega : eo.l.length - (k + 1) < eo.l.length - k), rfl, rfl⟩
    ·exact ⟨fun _=>rfl,fun _=>rfl,fun _=>rfl,fun _=>rfl,fun _=>rfl,fun ρ => sint_k (wrap_add1 hlt eo.ok.ir) ρ, stm _⟩
    ·exact ⟨⟨rfl,rfl,rfl, fun _=>rfl⟩, ⟨rfl,rfl,rfl, fun _=>rfl⟩, ⟨rfl,rfl,rfl, fun _=>rfl⟩, trivial⟩
   ·conv => whnf
    refine ⟨fun _ _=>rfl,?_⟩
    conv => whnf
    refine ⟨⟨edsC_pure o.l, trivial⟩, ⟨_, _, _, _, _, o.l, e, rfl,rfl,rfl, fun c2 hc2 => ?_⟩⟩
    conv => whnf
    refine bcase_intro (fun _ => ?_) (fun _ => ?_)
    ·conv => whnf
     refine ⟨[0,1,2], [3,4,5], [0,1,2], fun vs2 => ?_⟩
     conv => whnf
     refine ⟨pureL_trs l, eo.new.1, o.new.1, ?_⟩
     conv => whnf
     refine ⟨_, _, ?_, ?_, (⟨(k + 1, o), hlt, Nat.le_succ_of_le ho⟩, vs2), (by omega : eo.l.length - (k + 1) < eo.l.length - k), rfl, rfl⟩
     ·exact ⟨fun _=>rfl,fun _=>rfl,fun _=>rfl,fun _=>rfl,fun _=>rfl,fun ρ => sint_k (wrap_add1 hlt eo.ok.ir) ρ, stm _⟩
     ·exact ⟨⟨rfl,rfl,rfl, fun _=>rfl⟩, ⟨rfl,rfl,rfl, fun _=>rfl⟩, ⟨rfl,rfl,rfl, fun _=>rfl⟩, trivial⟩
    ·conv => whnf
     refine loop_st (G := {j : Nat // j ≤ o.l.length} × (Nat → Value)) (fun g => (.c (.val (g.2 0)) :: .c (.val (g.2 1)) :: .c (.val (g.2 2)) :: eo.sl 1 :: o.sl 2 :: .c (.int (k : Nat) (eo_ir (by omega : k ≤ 3 * l.length) hlen)) :: .c (.ptr 3 0) :: .c (.int (g.1.1 : Nat) (lt_ir o.ok g.1.2)) :: .c (.val (g.2 8)) :: .c (.val (g.2 9)) :: .c (.val (g.2 10)) :: .c (.val (g.2 11)) :: .c (.val (g.2 12)) :: .c (.val (g.2 13)) :: .c (.val (g.2 14)) :: .c (.val (g.2 15)) :: .c (.val (g.2 16)) :: .c (.val (g.2 17)) :: .c (.val (g.2 18)) :: .c (.val (g.2 19)) :: .c (.val (g.2 20)) :: .c (.val (g.2 21)) :: .c (.val (g.2 22)) :: .c (.val (g.2 23)) :: .c (.val (g.2 24)) :: .c (.val (g.2 25)) :: .c (.val (g.2 26)) :: .c (.val (g.2 27)) :: .c (.val (g.2 28)) :: .c (.val (g.2 29)) :: .c (.val (g.2 30)) :: .c (.val (g.2 31)) :: .c (.val (g.2 32)) :: .c (.val (g.2 33)) :: .c (.val (g.2 34)) :: .c (.val (g.2 35)) :: .c (.val (g.2 36)) :: .c (.val (g.2 37)) :: .c (.val (g.2 38)) :: .c (.val (g.2 39)) :: .c (.val (g.2 40)) :: .c (.val (g.2 41)) :: .c (.val (g.2 42)) :: .c (.val (g.2 43)) :: .c (.val (g.2 44)) :: .c (.val (g.2 45)) :: .c (.val (g.2 46)) :: .c (.val (g.2 47)) :: .c (.val (g.2 48)) :: .c (.val (g.2 49)) :: .c (.val (g.2 50)) :: .c (.val (g.2 51)) :: .c (.val (g.2 52)) :: .c (.val (g.2 53)) :: .c (.val (g.2 54)) :: .c (.val (g.2 55)) :: .c (.val (g.2 56)) :: .c (.val (g.2 57)) :: .c (.val (g.2 58)) :: .c (.val (g.2 59)) :: .c (.val (g.2 60)) :: .c (.val (g.2 61)) :: .c (.val (g.2 62)) :: .c (.val (g.2 63)) :: .c (.val (g.2 64)) :: [])) (fun g => [⟨ty, true, trsC l, 0⟩, eo.blk, o.blk, ⟨82, false, edC e, 0⟩]) (fun g => o.l.length - g.1.1) ?_ ?_
     ·refine ⟨[0,1,2,3], [3,4,5,6,7], [0,1,2], fun vs2 => ?_⟩
      conv => whnf
      refine ⟨pureL_trs l, eo.new.1, o.new.1, ?_⟩
      conv => whnf
      refine ⟨_, _, ?_, ?_, (⟨0, Nat.zero_le _⟩, vs2), rfl, rfl⟩
      ·exact ⟨fun _=>rfl,fun _=>rfl,fun _=>rfl,fun _=>rfl,fun _=>rfl,fun _=>rfl,fun _=>rfl,fun _=>rfl,stm _⟩
      ·exact ⟨⟨rfl,rfl,rfl, fun _=>rfl⟩, ⟨rfl,rfl,rfl, fun _=>rfl⟩, ⟨rfl,rfl,rfl, fun _=>rfl⟩, ⟨rfl,rfl,rfl, fun _=>rfl⟩, trivial⟩
     ·rintro ⟨⟨j, hj⟩, vs2⟩
      have hj : j ≤ o.l.length := hj
      dsimp only
      conv => whnf
      refine bcase_intro (fun hjl => ?_) (fun hjl => ?_)
      ·have hjl : j < o.l.length := n_lt hjl
       conv => whnf
       conv =>
        arg 2
        tactic' =>
         apply eff_index_sli (k := j) (hi := (lt_ir o.ok hj)) (ho := ?how7) (hT := ?hTw7) (hx := ?hxw7) (hk := ?hkw7) (hlt := ?hltw7)
         case how7 => rfl
         case hTw7 => rfl
         case hxw7 => rfl
         case hkw7 => rfl
         case hltw7 => exact hjl
       conv => whnf
       conv =>
        arg 2
        tactic' =>
         apply eff_load_sub (ho := ?how8) (hT := ?hTw8) (hx := ?hxw8) (hb := ?hbw8) (hm := ?hmw8) (hv := ?hvw8)
         case how8 => rfl
         case hTw8 => rfl
         case hxw8 => rfl
         case hbw8 => rfl
         case hmw8 => exact subC_ed6 o.l hjl
         case hvw8 => rfl
       conv => whnf
       refine bcase_intro (fun _ => ?_) (fun _ => ?_)
       ·have hsz : sizeC (edsC (o.l.take j)) = j * 6 := by rw [edsC_size, List.length_take]; omega
        have hp6 : sizeC (edC e) = 6 := rfl
        have hsz2 : sizeC (edsC (o.l.take j) ++ edC e) = (j + 1) * 6 := by rw [sizeC_append, hsz, hp6]; omega
        conv => whnf
        conv =>
         arg 2
         tactic' =>
          apply eff_slice_hi (k := j) (hi := lt_ir o.ok hj) (h2 := sliOk_le2 o.ok hj) (ho := ?how9) (hT := ?hTw9) (hx := ?hxw9) (hk := ?hkw9) (hlt := ?hltw9)
          case how9 => rfl
          case hTw9 => rfl
          case hxw9 => rfl
          case hkw9 => rfl
          case hltw9 => exact Nat.le_trans hj o.ok.1
        conv => whnf
        conv =>
         arg 2
         tactic' => exact subC_eds_take o.l hj
        conv => whnf
        refine ⟨allOne_eds _, ?_⟩
        conv => whnf
        refine ⟨by omega, fun c2 k2 => ?_⟩
        conv => whnf
        refine ⟨rfl, ?_⟩
        conv => whnf
        refine ⟨⟨rfl,rfl,hsz, fun _ => by have := k2.1; show sizeC (edsC (o.l.take j)) + (c2 - j) * 6 = c2 * 6; omega, by omega⟩, fun c3 k3 => ?_⟩
        conv => whnf
        conv =>
         arg 2
         tactic' =>
          apply eff_slice_lo (hi := lt_ir o.ok hj) (ho := ?how10) (hT := ?hTw10) (hx := ?hxw10) (hk := ?hkw10) (hlt := ?hltw10)
          case how10 => rfl
          case hTw10 => rfl
          case hxw10 => rfl
          case hkw10 => rfl
          case hltw10 => exact hj
        conv => whnf
        conv =>
         arg 2
         tactic' => exact subC_eds_drop o.l hj o.ok.1
        conv => whnf
        refine ⟨allOne_eds _, ?_⟩
        conv => whnf
        refine ⟨⟨rfl,rfl,hsz2, fun _ => by have := k3.1; show sizeC (edsC (o.l.take j) ++ edC e) + (c3 - (j + 1)) * 6 = c3 * 6; omega, by omega⟩, fun c4 k4 => ?_⟩
        conv => whnf
        refine ⟨[0,1,7], [3,4,5], [0,1,2], fun vs2 => ?_⟩
        conv => whnf
        refine ⟨pureL_trs l, eo.new.1, pureL_append (pureL_append (edsC_pure _) (fun _ _=>rfl)) (edsC_pure _), ?_⟩
        conv => whnf
        refine ⟨_, _, ?_, ?_, (⟨(k + 1, OE.mk (insL o.l j e) _ c4 (insE_ok hj k4)), hlt, by show (insL o.l j e).length ≤ k + 1; rw [insL_len hj]; omega⟩, vs2), (by omega : eo.l.length - (k + 1) < eo.l.length - k), rfl, rfl⟩
        ·exact ⟨fun _=>rfl,fun _=>rfl,fun _=>rfl,fun _=>rfl,fun ρ => insE_sl hj k4 ρ, fun ρ => sint_k (wrap_add1 hlt eo.ok.ir) ρ, stm _⟩
        ·exact ⟨⟨rfl,rfl,rfl, fun _=>rfl⟩, ⟨rfl,rfl,rfl, fun _=>rfl⟩, insE_blk hj k4, trivial⟩
       ·conv => whnf
        refine ⟨[0,1,2,3], [3,4,5,6,7], [0,1,2], fun vs3 => ?_⟩
        conv => whnf
        refine ⟨pureL_trs l, eo.new.1, o.new.1, ?_⟩
        conv => whnf
        refine ⟨_, _, ?_, ?_, (⟨j + 1, hjl⟩, vs3), (by omega : o.l.length - (j + 1) < o.l.length - j), rfl, rfl⟩
        ·exact ⟨fun _=>rfl,fun _=>rfl,fun _=>rfl,fun _=>rfl,fun _=>rfl,fun _=>rfl,fun _=>rfl,fun ρ => sint_k (wrap_add1 hjl o.ok.ir) ρ, stm _⟩
        ·exact ⟨⟨rfl,rfl,rfl, fun _=>rfl⟩, ⟨rfl,rfl,rfl, fun _=>rfl⟩, ⟨rfl,rfl,rfl, fun _=>rfl⟩, ⟨rfl,rfl,rfl, fun _=>rfl⟩, trivial⟩
      ·have hsz : sizeC (edsC (o.l.take j)) = j * 6 := by rw [edsC_size, List.length_take]; omega
       have hp6 : sizeC (edC e) = 6 := rfl
       have hsz2 : sizeC (edsC (o.l.take j) ++ edC e) = (j + 1) * 6 := by rw [sizeC_append, hsz, hp6]; omega
       conv => whnf
       conv =>
        arg 2
        tactic' =>
         apply eff_slice_hi (k := j) (hi := lt_ir o.ok hj) (h2 := sliOk_le2 o.ok hj) (ho := ?how11) (hT := ?hTw11) (hx := ?hxw11) (hk := ?hkw11) (hlt := ?hltw11)
         case how11 => rfl
         case hTw11 => rfl
         case hxw11 => rfl
         case hkw11 => rfl
         case hltw11 => exact Nat.le_trans hj o.ok.1
       conv => whnf
       conv =>
        arg 2
        tactic' => exact subC_eds_take o.l hj
       conv => whnf
       refine ⟨allOne_eds _, ?_⟩
       conv => whnf
       refine ⟨by omega, fun c2 k2 => ?_⟩
       conv => whnf
       refine ⟨rfl, ?_⟩
       conv => whnf
       refine ⟨⟨rfl,rfl,hsz, fun _ => by have := k2.1; show sizeC (edsC (o.l.take j)) + (c2 - j) * 6 = c2 * 6; omega, by omega⟩, fun c3 k3 => ?_⟩
       conv => whnf
       conv =>
        arg 2
        tactic' =>
         apply eff_slice_lo (hi := lt_ir o.ok hj) (ho := ?how12) (hT := ?hTw12) (hx := ?hxw12) (hk := ?hkw12) (hlt := ?hltw12)
         case how12 => rfl
         case hTw12 => rfl
         case hxw12 => rfl
         case hkw12 => rfl
         case hltw12 => exact hj
       conv => whnf
       conv =>
        arg 2
        tactic' => exact subC_eds_drop o.l hj o.ok.1
       conv => whnf
       refine ⟨allOne_eds _, ?_⟩
       conv => whnf
       refine ⟨⟨rfl,rfl,hsz2, fun _ => by have := k3.1; show sizeC (edsC (o.l.take j) ++ edC e) + (c3 - (j + 1)) * 6 = c3 * 6; omega, by omega⟩, fun c4 k4 => ?_⟩
       conv => whnf
       refine ⟨[0,1,7], [3,4,5], [0,1,2], fun vs2 => ?_⟩
       conv => whnf
       refine ⟨pureL_trs l, eo.new.1, pureL_append (pureL_append (edsC_pure _) (fun _ _=>rfl)) (edsC_pure _), ?_⟩
       conv => whnf
       refine ⟨_, _, ?_, ?_, (⟨(k + 1, OE.mk (insL o.l j e) _ c4 (insE_ok hj k4)), hlt, by show (insL o.l j e).length ≤ k + 1; rw [insL_len hj]; omega⟩, vs2), (by omega : eo.l.length - (k + 1) < eo.l.length - k), rfl, rfl⟩
       ·exact ⟨fun _=>rfl,fun _=>rfl,fun _=>rfl,fun _=>rfl,fun ρ => insE_sl hj k4 ρ, fun ρ => sint_k (wrap_add1 hlt eo.ok.ir) ρ, stm _⟩
       ·exact ⟨⟨rfl,rfl,rfl, fun _=>rfl⟩, ⟨rfl,rfl,rfl, fun _=>rfl⟩, insE_blk hj k4, trivial⟩
  ·have hlt : eo.l.length ≤ k := n_ge hlt
   obtain rfl : k = eo.l.length := Nat.le_antisymm hk hlt
   conv => whnf
   refine ⟨[0,2], [0,1], fun vs2 => ?_⟩
   conv => whnf
   refine ⟨pureL_trs l, o.new.1, ?_⟩
   conv => whnf
   exact ⟨_, [o.blk], rfl, ⟨⟨rfl,rfl,rfl, fun _=>rfl⟩, ⟨rfl,rfl,rfl, fun _=>rfl⟩, trivial⟩, ⟨o.new, trivial⟩, o.sl 1, fun _=>rfl,hc o (by rw [← he]; exact ho)⟩
end Go.Proofs.YtocbklodkcdhkaaGreatDoor
