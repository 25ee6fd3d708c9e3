/- Digits of the reference, as the words: what they are. Digits of the reference, by the reckoner: trim. Digits of the reference, by the reckoner: times, by. Digits of the reference, by the reckoner: plus. Digits of the reference, by the reckoner: minus. Digits of the reference, by the reckoner: digits. Digits of the reference, by the reckoner: by, compare as a reader. -/
import Derived.Test.YtocbklodkcdhkaaGreatDoorNac
import Derived.Test.YtocbklodkcdhkaaGreatDoorWkb
namespace Go.Proofs.YtocbklodkcdhkaaGreatDoor
open Go.RowKit
set_option maxRecDepth 100000

theorem ir16 (n : Nat) : IR ((n % 65536 : Nat) : Int) := by unfold IR; omega
def iC (n : Nat) : C := .int ((n % 65536 : Nat) : Int) (ir16 n)
theorem c_int {a b : Int} {ha : IR a} {hb : IR b} (e : a = b) : C.int a ha = C.int b hb := by subst e; rfl
theorem iC_eq {n : Nat} (h : n < 65536) {z : Int} {hz : IR z} (e : z = n) : C.int z hz = iC n := c_int (by rw [e, Nat.mod_eq_of_lt h])
theorem ir_dig {n : Nat} (h : n < 65536) : IR (n : Int) := by unfold IR; omega
def isC : List Nat → List C
 | [] => []
 | n :: l => iC n :: isC l
theorem isC_size : ∀ l : List Nat, sizeC (isC l) = l.length
 | [] => rfl
 | _ :: l => by rw [isC, List.length_cons, ← isC_size l]; show 1 + _ = _; omega
theorem isC_append : ∀ a b : List Nat, isC (a ++ b) = isC a ++ isC b
 | [], _ => rfl
 | _ :: l, b => by rw [List.cons_append, isC, isC_append l b]; rfl
theorem isC_pure : ∀ l : List Nat, PureL (isC l)
 | [] => fun _ _=>rfl
 | n :: l => fun ρ ρ' => by
  have h := isC_pure l ρ ρ'
  rw [isC, List.flatMap_cons, List.flatMap_cons, h]; rfl
theorem isC_one : ∀ l : List Nat, allOne (isC l) = true
 | [] => rfl
 | _ :: l => by show (true && allOne (isC l)) = true; rw [isC_one l]; rfl
theorem isC_rep : ∀ n, repX n (iC 0) = isC (List.replicate n 0)
 | 0 => rfl
 | n + 1 => by
  show iC 0 :: repX n (iC 0) = iC 0 :: isC (List.replicate n 0)
  rw [isC_rep n]
def IAt (cs : List C) (off : Nat) (l : List Nat) : Prop := PureL cs ∧ ∃ A B, cs = A ++ (isC l ++ B) ∧ sizeC A = off
theorem IAt.get {cs : List C} {off : Nat} {l : List Nat} (h : IAt cs off l) {k : Nat} (hk : k < l.length) : subC cs (off + k * 1) 1 = some [iC l[k]] := by
 obtain ⟨_, A, B, rfl, rfl⟩ := h
 have e : isC l = isC (l.take k) ++ ([iC l[k]] ++ isC (l.drop (k + 1))) := by
  have h : l = l.take k ++ (l[k] :: l.drop (k + 1)) := by rw [← List.drop_eq_getElem_cons hk, List.take_append_drop]
  rw [show isC l = isC (l.take k ++ (l[k] :: l.drop (k + 1))) by rw [← h], isC_append]
  rfl
 have e2 : A ++ (isC l ++ B) = (A ++ isC (l.take k)) ++ ([iC l[k]] ++ (isC (l.drop (k + 1)) ++ B)) := by rw [e]; simp only [List.append_assoc]
 have s : sizeC (A ++ isC (l.take k)) = sizeC A + k * 1 := by rw [sizeC_append, isC_size, List.length_take]; omega
 rw [e2, ← s]
 exact subC_app _ [iC l[k]] _
theorem IAt.self (l r : List Nat) : IAt (isC (l ++ r)) 0 l := ⟨isC_pure _, [], isC r, by rw [isC_append]; rfl, rfl⟩
structure OI where
 l : List Nat
 r : List Nat
 nl : Bool
 cap : Nat
 ok : SliOk nl l.length cap
 hr : (l ++ r).length ≤ cap
def OI.sl (o : OI) (b : Nat) : SV := .c (.sli o.nl b 0 o.l.length o.cap o.ok)
def OI.blk (o : OI) : Blk := ⟨3, o.nl, isC (o.l ++ o.r), o.cap - (o.l ++ o.r).length⟩
theorem OI.new (o : OI) : NewB o.blk := by
 refine ⟨isC_pure _, ?_⟩
 cases h : o.nl with
 | false => exact .inl h
 | true =>
  right
  have h1 := o.ok.1; have h2 := o.ok.2.2 h; have h3 := o.hr
  have : o.l ++ o.r = [] := List.eq_nil_of_length_eq_zero (by omega)
  unfold OI.blk Blk.void
  rw [h, this]; rfl
def OI.ofTrim (lo : List Nat) (cap : Nat) (h : SliOk false (tlen lo) cap) (hr : lo.length ≤ cap) : OI := ⟨lo.take (tlen lo), lo.drop (tlen lo), false, cap, by rw [List.length_take, Nat.min_eq_left (tlen_le lo)]; exact h, by rw [List.take_append_drop]; exact hr⟩
theorem OI.ofTrim_l {lo : List Nat} {cap : Nat} {h : SliOk false (tlen lo) cap} {hr : lo.length ≤ cap} (hd : Dl RB lo) : (OI.ofTrim lo cap h hr).l = dig RB (val RB lo) := take_tlen RB_two hd
theorem OI.ofTrim_blk {lo : List Nat} {cap : Nat} {h : SliOk false (tlen lo) cap} {hr : lo.length ≤ cap} : (OI.ofTrim lo cap h hr).blk = ⟨3, false, isC lo, cap - lo.length⟩ := by
 simp only [OI.blk, OI.ofTrim, List.take_append_drop]
theorem OI.ofTrim_sl {lo : List Nat} {cap : Nat} {h : SliOk false (tlen lo) cap} {hr : lo.length ≤ cap} (b : Nat) (ρ : Rho) : (SV.c (.sli false b 0 (tlen lo) cap h)).den ρ = ((OI.ofTrim lo cap h hr).sl b).den ρ := by
 simp only [OI.sl, OI.ofTrim, SV.den, C.den, C.cells, List.length_take, Nat.min_eq_left (tlen_le lo)]
theorem splice_is {lo : List Nat} {k : Nat} (hk : k < lo.length) (v : Nat) : spliceC (isC lo) (0 + k * 1) [iC v] = some (isC (lo.set k v)) := by
 have e : isC lo = isC (lo.take k) ++ ([iC lo[k]] ++ isC (lo.drop (k + 1))) := by
  have h : lo = lo.take k ++ (lo[k] :: lo.drop (k + 1)) := by rw [← List.drop_eq_getElem_cons hk, List.take_append_drop]
  rw [show isC lo = isC (lo.take k ++ (lo[k] :: lo.drop (k + 1))) by rw [← h], isC_append]
  rfl
 have s : sizeC (isC (lo.take k)) = 0 + k * 1 := by rw [isC_size, List.length_take]; omega
 rw [e, ← s, spliceC_app (isC (lo.take k)) [iC lo[k]] (isC (lo.drop (k + 1))) [iC v] rfl, List.set_eq_take_append_cons_drop, if_pos hk, isC_append]
 rfl
def OI.t (o : OI) (b : Nat) : T1 := .c (.sli o.nl b 0 o.l.length o.cap o.ok)
theorem IAt.all {cs : List C} {off : Nat} {l : List Nat} (h : IAt cs off l) {n : Nat} (hn : n = l.length) : subC cs off (n * 1) = some (isC l) := by
 obtain ⟨_, A, B, rfl, rfl⟩ := h
 rw [Nat.mul_one, hn, ← isC_size l]
 exact subC_app A (isC l) B
theorem IAt.norm (l : List Nat) : IAt (isC l) 0 (l.take (tlen l)) := by
 have := IAt.self (l.take (tlen l)) (l.drop (tlen l))
 rwa [List.take_append_drop] at this
theorem IAt.ow (o : OI) : IAt (isC (o.l ++ o.r)) 0 o.l := IAt.self o.l o.r
theorem tlen_rdig {l : List Nat} (h : Dl RB l) : (dig RB (val RB l)).length = tlen l := by
 rw [← take_tlen RB_two h, List.length_take, Nat.min_eq_left (tlen_le l)]
theorem IAt.normd {l : List Nat} (h : Dl RB l) : IAt (isC l) 0 (dig RB (val RB l)) := by
 rw [← take_tlen RB_two h]; exact IAt.norm l
theorem IAt.mk' (l : List Nat) : IAt (isC l) 0 l := ⟨isC_pure l, [], [], by rw [List.append_nil]; rfl, rfl⟩
theorem IAt.all1 {cs : List C} {off : Nat} {l : List Nat} (h : IAt cs off l) : subC cs off l.length = some (isC l) := by
 have := h.all rfl
 rwa [Nat.mul_one] at this
def OI.nil : OI := ⟨[], [], true, 0, ⟨Nat.le_refl _, by decide, fun _=>rfl⟩, Nat.le_refl _⟩
theorem ofTrim_t {lo : List Nat} {cap : Nat} {h : SliOk false (tlen lo) cap} {hr : lo.length ≤ cap} (b : Nat) (ρ : Rho) : (T1.c (.sli false b 0 (tlen lo) cap h)).den ρ = ((OI.ofTrim lo cap h hr).t b).den ρ := OI.ofTrim_sl b ρ
theorem iat_eq (o : OI) {n : Nat} (h : o.l = dig RB n) : IAt (isC (o.l ++ o.r)) 0 (dig RB n) := by rw [← h]; exact IAt.ow o
theorem rdl_eq {o : OI} {n : Nat} (h : o.l = dig RB n) : Dl RB o.l := by rw [h]; exact dig_Dl RB_two n
theorem isC_cells (ρ : Rho) : ∀ {l : List Nat}, Dl RB l → cellsL ρ (isC l) = l.map fun d : Nat => Value.int .i64 (d : Int)
 | [], _ => rfl
 | d :: l, hd => by
  have h : d < 65536 := by have := hd.head; rwa [RB_eq] at this
  rw [isC, cellsL_cons, List.map_cons, ← isC_cells ρ hd.tail]
  show [Value.int .i64 ((d % 65536 : Nat) : Int)] ++ _ = _
  rw [Nat.mod_eq_of_lt h]; rfl
theorem IAt.int {cs : List C} {off : Nat} {l : List Nat} (h : IAt cs off l) (hd : Dl RB l) {k : Nat} (hk : k < l.length) : subC cs (off + k * 1) 1 = some [.int (l[k] : Int) (ir_dig (hd.get k hk))] :=
 (h.get hk).trans (congrArg (fun z => some [z]) (iC_eq (hd.get k hk) rfl).symm)
theorem iat_wd {ρ : Rho} {w : World} {b off cap : Nat} {cs : List C} {l : List Nat} {nl : Bool} (hr : w.rangeAt (ρ b).1 (ρ b).2 (cellsL ρ cs)) (hw : IAt cs off l) (hd : Dl RB l) (hs : SliOk nl l.length cap) : Wd .i64 w w.heap.size (nlA nl ⟨(ρ b).1, (ρ b).2 + off, none⟩) l := fun hn => by
 obtain ⟨_, A, B, rfl, rfl⟩ := hw
 rw [cellsL_append, cellsL_append, isC_cells ρ hd] at hr
 have h2 := range_sub hr
 rw [← sizeC_eq] at h2
 have hnl : nl = false := hs.pos hn
 subst hnl
 have hcell : ∀ k, k < l.length → w.cell? ((Addr.mk (ρ b).1 ((ρ b).2 + sizeC A) none).add k) = some (.int .i64 ((l[k]?.getD 0 : Nat) : Int)) := fun k hk => by
  rw [Addr.add_mid]
  exact h2 k _ (by rw [List.getElem?_map, List.getElem?_eq_getElem hk]; rfl)
 exact ⟨_, rfl, block_lt_of_cell (h2 0 _ (List.getElem?_eq_getElem (by rw [List.length_map]; exact hn))), hcell⟩
def unI : List C → List Nat
 | .int n _ :: l => n.toNat :: unI l
 | _ => []
theorem unI_is : ∀ {l : List Nat}, Dl RB l → unI (isC l) = l
 | [], _ => rfl
 | d :: l, hd => by
  have h : d < 65536 := by have := hd.head; rwa [RB_eq] at this
  show ((d % 65536 : Nat) : Int).toNat :: unI (isC l) = _
  rw [unI_is hd.tail, Nat.mod_eq_of_lt h]; simp
def isOf (cs : List C) (off len : Nat) : List Nat := match subC cs off (len * 1) with | some m => unI m | none => []
theorem isOf_eq {cs : List C} {off : Nat} {l : List Nat} (h : IAt cs off l) (hd : Dl RB l) : isOf cs off l.length = l := by
 unfold isOf; rw [h.all rfl]; exact unI_is hd
theorem isOf_oi (o : OI) (hd : Dl RB o.l) : isOf o.blk.cs 0 o.l.length = o.l := isOf_eq (IAt.ow o) hd
def dRWideN : Dr
 | [.c (.val (.bool neg)), .c (.sli _ b off len _ _)], hf => (match hf b with
  | some blk => some (some (∃ l, IAt blk.cs off l ∧ l.length = len ∧ Dl RB l ∧ len ≤ 1000000000), .agg (wvC neg (val RB (isOf blk.cs off len))))
  | none => none)
 | [.c (.val (.bool _)), .c (.val (.slice none 0 0))], _ => some (none, .agg (wvC false 0))
 | _, _ => none
theorem spRWideN : SpR Tryz.prog 59 dRWideN := by
 refine ⟨⟨_, Tryz.func59, by kernel_rfl, by kernel_rfl⟩, fun args hf p v hd => ?_⟩
 unfold dRWideN at hd
 split at hd
 ·rename_i neg nl b off len cap hs
  split at hd
  ·rename_i blk hb
   cases hd
   refine ⟨fun _ _=>rfl,fun hp ρ w hh => ?_⟩
   obtain ⟨l, hw, hlen, dl, hle⟩ := hp _ rfl
   subst hlen
   have hr := (hh b blk hb).1
   rw [wvC_den, isOf_eq hw dl]
   exact rwide_any l (nlA nl ⟨(ρ b).1, (ρ b).2 + off, none⟩) l.length cap neg w dl (iat_wd hr hw dl hs) rfl hle hs.1 hs.2.1
  ·cases hd
 ·rename_i neg
  cases hd
  refine ⟨fun _ _=>rfl,fun _ ρ w _ => ?_⟩
  have := rwide_any [] none 0 0 neg w (Dl.nil _) (Wd.nil _ _ _ _) rfl (by decide) (by decide) (by decide)
  have e : wv (neg && decide (val RB [] ≠ 0)) (val RB []) = wv (false && decide (0 ≠ 0)) 0 := by simp [val]
  rw [wvC_den]
  rw [e] at this
  exact this
 ·cases hd
end Go.Proofs.YtocbklodkcdhkaaGreatDoor

namespace Go.Proofs.YtocbklodkcdhkaaGreatDoor
open Go.RowKit
set_option maxRecDepth 100000

def cTrim : NewC := fun args ros K => ∃ nl off len cap h ty cs l, args = [.c (.sli nl 0 off len cap h)] ∧ ros = [⟨ty, true, cs, 0⟩] ∧ l.length = len ∧ IAt cs off l ∧ Dl RB l ∧ ∀ h2, K (.c (.sli nl 0 off (tlen l) cap h2)) []
theorem eq0 {k : Nat} (h : decide ((k : Int) = 0) = true) : k = 0 := by have := of_decide_eq_true h; omega
theorem ne0 {k : Nat} (h : decide ((k : Int) = 0) = false) : k ≠ 0 := by have := of_decide_eq_false h; omega
set_option maxHeartbeats 8000000 in
theorem csTrim : CSp Tryz.prog 76 cTrim := csp_of (envA_ok 0) mixed (mix_ok .nil (envA_ok 0) mixed noF_ok 0) ⟨Tryz.func76, by kernel_rfl, by kernel_rfl⟩ fun args ros K hc => by
 obtain ⟨nl, off, _, cap, hl, ty, cs, l, rfl,rfl,rfl, hw, dl, hc⟩ := hc
 refine ⟨fun ρ ρ' e => ?_, ?_⟩
 ·have e0 := e 0 (show 0 < 1 by decide)
  simp only [List.map, SV.den, C.den, C.cells, e0]
 conv => whnf
 refine loop_st (G := {g : Nat × (Nat → Value) // g.1 ≤ l.length ∧ ∀ j, g.1 ≤ j → l.getD j 0 = 0}) (fun g => (.c (.sli nl 0 off g.1.1 cap (sliOk_le2 hl g.2.1)) :: .c (.val (g.1.2 1)) :: .c (.val (g.1.2 2)) :: .c (.val (g.1.2 3)) :: .c (.val (g.1.2 4)) :: .c (.val (g.1.2 5)) :: .c (.val (g.1.2 6)) :: .c (.val (g.1.2 7)) :: .c (.val (g.1.2 8)) :: .c (.val (g.1.2 9)) :: .c (.val (g.1.2 10)) :: .c (.val (g.1.2 11)) :: .c (.val (g.1.2 12)) :: .c (.val (g.1.2 13)) :: .c (.val (g.1.2 14)) :: .c (.val (g.1.2 15)) :: .c (.val (g.1.2 16)) :: .c (.val (g.1.2 17)) :: .c (.val (g.1.2 18)) :: .c (.val (g.1.2 19)) :: .c (.val (g.1.2 20)) :: [])) (fun g => [⟨ty, true, cs, 0⟩]) (fun g => g.1.1) ?_ ?_
 ·refine ⟨[0], [0], [0], fun vs => ?_⟩
  conv => whnf
  refine ⟨hw.1, ?_⟩
  conv => whnf
  refine ⟨_, _, ?_, ?_, ⟨(l.length, vs), Nat.le_refl _, fun j hj => by rw [List.getD_eq_getElem?_getD, List.getElem?_eq_none hj]; rfl⟩, rfl, rfl⟩
  ·exact ⟨fun _=>rfl,fun _=>rfl,fun _=>rfl,fun _=>rfl,fun _=>rfl,fun _=>rfl,fun _=>rfl,fun _=>rfl,fun _=>rfl,fun _=>rfl,fun _=>rfl,fun _=>rfl,stm _⟩
  ·exact ⟨⟨rfl,rfl,rfl, fun _=>rfl⟩, trivial⟩
 ·rintro ⟨⟨k, vs⟩, hk, hz⟩
  have hk : k ≤ l.length := hk
  have hz : ∀ j, k ≤ j → l.getD j 0 = 0 := hz
  conv => whnf
  refine bcase_intro (fun hlt => ?_) (fun hlt => ?_)
  ·have hpos : 0 < k := nz_gt hlt
   have hkl : k - 1 < l.length := by omega
   have hir : IR ((k - 1 : Nat) : Int) := ltI hl (by omega)
   conv => whnf
   conv =>
    arg 2
    tactic' =>
     apply eff_index_sli (hi := hir) (ho := ?how1) (hT := ?hTw1) (hx := ?hxw1) (hk := ?hkw1) (hlt := ?hltw1)
     case how1 => rfl
     case hTw1 => rfl
     case hxw1 => rfl
     case hkw1 => exact cint (wrap_pred hpos (sliOk_le2 hl hk).ir) hir
     case hltw1 => exact Nat.sub_lt hpos Nat.one_pos
   conv => whnf
   conv =>
    arg 2
    tactic' =>
     apply eff_load_sub (m := [.int (l[k - 1] : Int) (ir_dig (dl.get (k - 1) hkl))]) (ho := ?how2) (hT := ?hTw2) (hx := ?hxw2) (hb := ?hbw2) (hm := ?hmw2) (hv := ?hvw2)
     case how2 => rfl
     case hTw2 => rfl
     case hxw2 => rfl
     case hbw2 => rfl
     case hmw2 => exact hw.int dl hkl
     case hvw2 => rfl
   conv => whnf
   refine bcase_intro (fun h0 => ?_) (fun h0 => ?_)
   ·have hx : l[k - 1] = 0 := eq0 h0
    conv => whnf
    conv =>
     arg 2
     tactic' =>
      apply eff_slice_hi (hi := hir) (h2 := sliOk_le2 hl (Nat.le_trans (Nat.sub_le k 1) hk)) (ho := ?how3) (hT := ?hTw3) (hx := ?hxw3) (hk := ?hkw3) (hlt := ?hltw3)
      case how3 => rfl
      case hTw3 => rfl
      case hxw3 => rfl
      case hkw3 => exact cint (wrap_pred hpos (sliOk_le2 hl hk).ir) hir
      case hltw3 => exact Nat.le_trans (Nat.sub_le k 1) (Nat.le_trans hk hl.1)
    conv => whnf
    refine ⟨[0], [0], [0], fun vs2 => ?_⟩
    conv => whnf
    refine ⟨hw.1, ?_⟩
    conv => whnf
    refine ⟨_, _, ?_, ?_, ⟨(k - 1, vs2), Nat.le_trans (Nat.sub_le k 1) hk, fun j hj => ?_⟩, Nat.sub_lt hpos Nat.one_pos, rfl, rfl⟩
    ·exact ⟨fun _=>rfl,fun _=>rfl,fun _=>rfl,fun _=>rfl,fun _=>rfl,fun _=>rfl,fun _=>rfl,fun _=>rfl,fun _=>rfl,fun _=>rfl,fun _=>rfl,fun _=>rfl,stm _⟩
    ·exact ⟨⟨rfl,rfl,rfl, fun _=>rfl⟩, trivial⟩
    ·by_cases e : j = k - 1
     ·rw [e, List.getD_eq_getElem?_getD, List.getElem?_eq_getElem hkl]; exact hx
     ·exact hz j (by omega)
   ·have hx : l[k - 1] ≠ 0 := ne0 h0
    conv => whnf
    have ht : tlen l = k := tlen_eq hk hz (.inr (by rw [List.getD_eq_getElem?_getD, List.getElem?_eq_getElem hkl]; exact hx))
    have h2 : SliOk nl (tlen l) cap := by rw [ht]; exact sliOk_le2 hl hk
    refine ⟨[0], [0], fun vs2 => ?_⟩
    conv => whnf
    refine ⟨hw.1, ?_⟩
    conv => whnf
    refine ⟨_, [], rfl, ⟨⟨rfl,rfl,rfl, fun _=>rfl⟩, trivial⟩, trivial, .c (.sli nl 0 off (tlen l) cap h2), fun ρ => ?_, hc _⟩
    simp only [SV.den, C.den, C.cells, ht]
  ·have hk0 : k = 0 := len_zero hlt
   conv => whnf
   have ht : tlen l = k := tlen_eq hk hz (.inl hk0)
   have h2 : SliOk nl (tlen l) cap := by rw [ht]; exact sliOk_le2 hl hk
   refine ⟨[0], [0], fun vs2 => ?_⟩
   conv => whnf
   refine ⟨hw.1, ?_⟩
   conv => whnf
   refine ⟨_, [], rfl, ⟨⟨rfl,rfl,rfl, fun _=>rfl⟩, trivial⟩, trivial, .c (.sli nl 0 off (tlen l) cap h2), fun ρ => ?_, hc _⟩
   simp only [SV.den, C.den, C.cells, ht]
end Go.Proofs.YtocbklodkcdhkaaGreatDoor

namespace Go.Proofs.YtocbklodkcdhkaaGreatDoor
open Go.RowKit
set_option maxRecDepth 100000

theorem rword {x y u c : Nat} (hx : x < 65536) (hy : y < 65536) (hu : u < 65536) (hc : c < 65536) : x * y ≤ 4294836225 ∧ u + x * y + c < 4294967296 := by
 have h : x * y ≤ 65535 * 65535 := Nat.mul_le_mul (by omega) (by omega)
 omega
theorem rword_raw {x y u c : Nat} (h1 : x * y ≤ 4294836225) (h2 : u + x * y + c < 4294967296) : IntKind.i64.wrap (IntKind.i64.wrap ((u : Int) + IntKind.i64.wrap ((x : Int) * (y : Int))) + (c : Int)) = ((u + x * y + c : Nat) : Int) := by
 rw [← Int.natCast_mul, wrap_id (z := ((x * y : Nat) : Int)) (by unfold IR; omega), wrap_id (z := (u : Int) + ((x * y : Nat) : Int)) (by unfold IR; omega), wrap_id (by unfold IR; omega)]
 omega
theorem rem_dig {z : Int} {d : Nat} (e : z = d) : z.tmod 65536 = ((d % 65536 : Nat) : Int) := by subst e; rw [Int.tmod_eq_emod_of_nonneg (by omega)]; omega
theorem quo_dig {z : Int} {d : Nat} (e : z = d) (h : d < 9223372036854775808) : IntKind.i64.wrap (z.tdiv 65536) = ((d / 65536 : Nat) : Int) := by
 subst e; rw [Int.tdiv_eq_ediv_of_nonneg (by omega), wrap_id (by unfold IR; omega)]; omega
theorem irep_pure (n : Nat) : PureL (repX n (iC 0)) := by rw [isC_rep]; exact isC_pure _
def TimO (la lb lo : List Nat) (i : Nat) : Prop := lo.length = la.length + lb.length ∧ Dl RB lo ∧ val RB lo = val RB (la.take i) * val RB lb ∧ ∀ j, i + lb.length ≤ j → lo[j]?.getD 0 = 0
def TimI (la lb lo : List Nat) (i x k c : Nat) : Prop := lo.length = la.length + lb.length ∧ Dl RB lo ∧ c < 65536 ∧ val RB lo + RB ^ (i + k) * c = val RB (la.take i) * val RB lb + x * val RB (lb.take k) * RB ^ i ∧ ∀ j, i + lb.length ≤ j → lo[j]?.getD 0 = 0
theorem TimI.start {la lb lo : List Nat} {i x : Nat} (h : TimO la lb lo i) : TimI la lb lo i x 0 0 := ⟨h.1, h.2.1, by omega, by have := h.2.2.1; simp [val, this], h.2.2.2⟩
theorem TimI.step {la lb lo : List Nat} {i x k c : Nat} (h : TimI la lb lo i x k c) (hk : k < lb.length) (hx : x < 65536) (hb : Dl RB lb) {hj : i + k < lo.length} :
  TimI la lb (lo.set (i + k) ((lo[i + k] + x * lb[k] + c) % 65536)) i x (k + 1) ((lo[i + k] + x * lb[k] + c) / 65536) ∧ x * lb[k] ≤ 4294836225 ∧ lo[i + k] + x * lb[k] + c < 4294967296 := by
 obtain ⟨h1, h2, h3, h4, h5⟩ := h
 have hw := rword hx (hb.get k hk) (h2.get (i + k) hj) h3
 have hm := mul_step hj h4
 rw [getD_get hj, getD_get hk] at hm
 exact ⟨⟨by rw [List.length_set]; exact h1, h2.set _ (Nat.mod_lt _ RB_pos), by have := hw.2; omega, hm, fun j hjj => by rw [List.getElem?_set_ne (by omega)]; exact h5 j hjj⟩, hw⟩
theorem TimI.last {la lb lo : List Nat} {i c : Nat} (hi : i < la.length) (h : TimI la lb lo i la[i] lb.length c) : TimO la lb (lo.set (i + lb.length) c) (i + 1) := by
 obtain ⟨h1, h2, h3, h4, h5⟩ := h
 refine ⟨by rw [List.length_set]; exact h1, h2.set _ (by rw [RB_eq]; exact h3), mul_row (a := la) (by omega) (h5 _ (Nat.le_refl _)) (by rw [getD_get hi]; exact h4), fun j hj => ?_⟩
 rw [List.getElem?_set_ne (by omega)]; exact h5 j (by omega)
def cDig2 (ok : List Nat → List Nat → Prop) (f : Nat → Nat → Nat) : NewC := fun args ros K => ∃ nla offa lena capa ha tya csa la nlb offb lenb capb hb tyb csb lb, args = [.c (.sli nla 0 offa lena capa ha), .c (.sli nlb 1 offb lenb capb hb)] ∧ ros = [⟨tya, true, csa, 0⟩, ⟨tyb, true, csb, 0⟩] ∧
 la.length = lena ∧ lb.length = lenb ∧ IAt csa offa la ∧ IAt csb offb lb ∧ Dl RB la ∧ Dl RB lb ∧ lena ≤ 200000000 ∧ lenb ≤ 200000000 ∧ ok la lb ∧ ∀ o : OI, o.nl = false → o.l = dig RB (f (val RB la) (val RB lb)) → K (o.sl 2) [o.blk]
def cTimes : NewC := cDig2 (fun _ _ => True) (· * ·)
def trimC : List (FuncId × NewC) := [(76, cTrim)]
theorem trimC_ok : AllC Tryz.prog trimC := .cons csTrim .nil
set_option maxHeartbeats 8000000 in
theorem csTimes : CSp Tryz.prog 107 cTimes := csp_of (envA_ok 0) mixed (mix_ok trimC_ok (envA_ok 0) mixed noF_ok 0) ⟨Tryz.func107, by kernel_rfl, by kernel_rfl⟩ fun args ros K hc => by
 obtain ⟨nla, offa, _, capa, ha, tya, csa, la, nlb, offb, _, capb, hb, tyb, csb, lb, rfl,rfl,rfl,rfl,hwa, hwb, da, db, sa, sb, -, hc⟩ := hc
 refine ⟨fun ρ ρ' e => ?_, ?_⟩
 ·have e0 := e 0 (show 0 < 2 by decide)
  have e1 := e 1 (show 1 < 2 by decide)
  simp only [List.map, SV.den, C.den, C.cells, e0, e1]
 conv => whnf
 have hsum : (la.length + lb.length) ≤ 1000000000 := by omega
 have hadd : IntKind.i64.wrap ((la.length : Int) + (lb.length : Int)) = (((la.length + lb.length) : Nat) : Int) := wrap_sum (Nat.le_refl _) hsum
 refine ⟨rfl, (la.length + lb.length), (la.length + lb.length), hadd, hadd, Nat.le_refl _, by omega, fun h2 => ?_⟩
 conv => whnf
 refine loop_st (G := {g : Nat × List Nat × (Nat → Value) // g.1 ≤ la.length ∧ TimO la lb g.2.1 g.1}) (fun g => (.c (.sli nla 0 offa la.length capa ha) :: .c (.sli nlb 1 offb lb.length capb hb) :: .c (.val (g.1.2.2 2)) :: .c (.val (g.1.2.2 3)) :: .c (.val (g.1.2.2 4)) :: .c (.sli false 2 0 (la.length + lb.length) (la.length + lb.length) h2) :: .c (.int (g.1.1 : Nat) (ltI ha g.2.1)) :: .c (.val (g.1.2.2 7)) :: .c (.val (g.1.2.2 8)) :: .c (.val (g.1.2.2 9)) :: .c (.val (g.1.2.2 10)) :: .c (.val (g.1.2.2 11)) :: .c (.val (g.1.2.2 12)) :: .c (.val (g.1.2.2 13)) :: .c (.val (g.1.2.2 14)) :: .c (.val (g.1.2.2 15)) :: .c (.val (g.1.2.2 16)) :: .c (.val (g.1.2.2 17)) :: .c (.val (g.1.2.2 18)) :: .c (.val (g.1.2.2 19)) :: .c (.val (g.1.2.2 20)) :: .c (.val (g.1.2.2 21)) :: .c (.val (g.1.2.2 22)) :: .c (.val (g.1.2.2 23)) :: .c (.val (g.1.2.2 24)) :: .c (.val (g.1.2.2 25)) :: .c (.val (g.1.2.2 26)) :: .c (.val (g.1.2.2 27)) :: .c (.val (g.1.2.2 28)) :: .c (.val (g.1.2.2 29)) :: .c (.val (g.1.2.2 30)) :: .c (.val (g.1.2.2 31)) :: .c (.val (g.1.2.2 32)) :: .c (.val (g.1.2.2 33)) :: .c (.val (g.1.2.2 34)) :: .c (.val (g.1.2.2 35)) :: .c (.val (g.1.2.2 36)) :: .c (.val (g.1.2.2 37)) :: .c (.val (g.1.2.2 38)) :: .c (.val (g.1.2.2 39)) :: .c (.val (g.1.2.2 40)) :: .c (.val (g.1.2.2 41)) :: .c (.val (g.1.2.2 42)) :: .c (.val (g.1.2.2 43)) :: .c (.val (g.1.2.2 44)) :: .c (.val (g.1.2.2 45)) :: .c (.val (g.1.2.2 46)) :: .c (.val (g.1.2.2 47)) :: .c (.val (g.1.2.2 48)) :: .c (.val (g.1.2.2 49)) :: .c (.val (g.1.2.2 50)) :: .c (.val (g.1.2.2 51)) :: .c (.val (g.1.2.2 52)) :: .c (.val (g.1.2.2 53)) :: .c (.val (g.1.2.2 54)) :: .c (.val (g.1.2.2 55)) :: .c (.val (g.1.2.2 56)) :: .c (.val (g.1.2.2 57)) :: .c (.val (g.1.2.2 58)) :: .c (.val (g.1.2.2 59)) :: .c (.val (g.1.2.2 60)) :: .c (.val (g.1.2.2 61)) :: .c (.val (g.1.2.2 62)) :: .c (.val (g.1.2.2 63)) :: [])) (fun g => [⟨tya, true, csa, 0⟩, ⟨tyb, true, csb, 0⟩, ⟨3, false, isC g.1.2.1, 0⟩]) (fun g => la.length - g.1.1) ?_ ?_
 ·refine ⟨[0,1,2], [0,1,5,6], [0,1,2], fun vs => ?_⟩
  conv => whnf
  refine ⟨hwa.1, hwb.1, irep_pure _, ?_⟩
  conv => whnf
  refine ⟨_, _, ?_, ?_, ⟨(0, List.replicate (la.length + lb.length) 0, vs), Nat.zero_le _, List.length_replicate, Dl.replicate RB_pos _, by simp [val, val_replicate], fun j _ => by rw [List.getElem?_replicate]; split <;> rfl⟩, rfl, rfl⟩
  ·exact ⟨fun _=>rfl,fun _=>rfl,fun _=>rfl,fun _=>rfl,fun _=>rfl,fun _=>rfl,fun _=>rfl,fun _=>rfl,fun _=>rfl,fun _=>rfl,fun _=>rfl,fun _=>rfl,stm _⟩
  ·exact ⟨⟨rfl,rfl,rfl, fun _=>rfl⟩, ⟨rfl,rfl,rfl, fun _=>rfl⟩, ⟨rfl,rfl,Nat.sub_self _, fun ρ => by rw [← isC_rep]; rfl⟩, trivial⟩
 ·rintro ⟨⟨i, lo, vs⟩, hi, ho⟩
  have hi : i ≤ la.length := hi
  have ho : TimO la lb lo i := ho
  conv => whnf
  refine bcase_intro (fun hlt => ?_) (fun hlt => ?_)
  ·have hlt : i < la.length := n_lt hlt
   have hx16 : (la[i]'hlt) < 65536 := da.get i hlt
   conv => whnf
   refine loop_st (G := {g : Nat × Nat × List Nat × (Nat → Value) // g.1 ≤ lb.length ∧ TimI la lb g.2.2.1 i (la[i]'hlt) g.1 g.2.1}) (fun g => (.c (.sli nla 0 offa la.length capa ha) :: .c (.sli nlb 1 offb lb.length capb hb) :: .c (.val (g.1.2.2.2 2)) :: .c (.val (g.1.2.2.2 3)) :: .c (.val (g.1.2.2.2 4)) :: .c (.sli false 2 0 (la.length + lb.length) (la.length + lb.length) h2) :: .c (.int (i : Nat) (ltI ha hi)) :: .c (.int (g.1.2.1 : Nat) (ir_dig g.2.2.2.2.1)) :: .c (.int (g.1.1 : Nat) (ltI hb g.2.1)) :: .c (.val (g.1.2.2.2 9)) :: .c (.val (g.1.2.2.2 10)) :: .c (.val (g.1.2.2.2 11)) :: .c (.val (g.1.2.2.2 12)) :: .c (.val (g.1.2.2.2 13)) :: .c (.val (g.1.2.2.2 14)) :: .c (.val (g.1.2.2.2 15)) :: .c (.val (g.1.2.2.2 16)) :: .c (.val (g.1.2.2.2 17)) :: .c (.val (g.1.2.2.2 18)) :: .c (.val (g.1.2.2.2 19)) :: .c (.val (g.1.2.2.2 20)) :: .c (.val (g.1.2.2.2 21)) :: .c (.val (g.1.2.2.2 22)) :: .c (.val (g.1.2.2.2 23)) :: .c (.val (g.1.2.2.2 24)) :: .c (.val (g.1.2.2.2 25)) :: .c (.val (g.1.2.2.2 26)) :: .c (.val (g.1.2.2.2 27)) :: .c (.val (g.1.2.2.2 28)) :: .c (.val (g.1.2.2.2 29)) :: .c (.val (g.1.2.2.2 30)) :: .c (.val (g.1.2.2.2 31)) :: .c (.val (g.1.2.2.2 32)) :: .c (.val (g.1.2.2.2 33)) :: .c (.val (g.1.2.2.2 34)) :: .c (.val (g.1.2.2.2 35)) :: .c (.val (g.1.2.2.2 36)) :: .c (.val (g.1.2.2.2 37)) :: .c (.val (g.1.2.2.2 38)) :: .c (.val (g.1.2.2.2 39)) :: .c (.val (g.1.2.2.2 40)) :: .c (.val (g.1.2.2.2 41)) :: .c (.val (g.1.2.2.2 42)) :: .c (.val (g.1.2.2.2 43)) :: .c (.val (g.1.2.2.2 44)) :: .c (.val (g.1.2.2.2 45)) :: .c (.val (g.1.2.2.2 46)) :: .c (.val (g.1.2.2.2 47)) :: .c (.val (g.1.2.2.2 48)) :: .c (.val (g.1.2.2.2 49)) :: .c (.val (g.1.2.2.2 50)) :: .c (.val (g.1.2.2.2 51)) :: .c (.val (g.1.2.2.2 52)) :: .c (.val (g.1.2.2.2 53)) :: .c (.val (g.1.2.2.2 54)) :: .c (.val (g.1.2.2.2 55)) :: .c (.val (g.1.2.2.2 56)) :: .c (.val (g.1.2.2.2 57)) :: .c (.val (g.1.2.2.2 58)) :: .c (.val (g.1.2.2.2 59)) :: .c (.val (g.1.2.2.2 60)) :: .c (.val (g.1.2.2.2 61)) :: .c (.val (g.1.2.2.2 62)) :: .c (.val (g.1.2.2.2 63)) :: [])) (fun g => [⟨tya, true, csa, 0⟩, ⟨tyb, true, csb, 0⟩, ⟨3, false, isC g.1.2.2.1, 0⟩]) (fun g => lb.length - g.1.1) ?_ ?_
   ·refine ⟨[0,1,2], [0,1,5,6,7,8], [0,1,2], fun vs2 => ?_⟩
    conv => whnf
    refine ⟨hwa.1, hwb.1, isC_pure _, ?_⟩
    conv => whnf
    refine ⟨_, _, ?_, ?_, ⟨(0, 0, lo, vs2), Nat.zero_le _, TimI.start ho⟩, rfl, rfl⟩
    ·exact ⟨fun _=>rfl,fun _=>rfl,fun _=>rfl,fun _=>rfl,fun _=>rfl,fun _=>rfl,fun _=>rfl,fun _=>rfl,fun _=>rfl,fun _=>rfl,fun _=>rfl,fun _=>rfl,stm _⟩
    ·exact ⟨⟨rfl,rfl,rfl, fun _=>rfl⟩, ⟨rfl,rfl,rfl, fun _=>rfl⟩, ⟨rfl,rfl,rfl, fun _=>rfl⟩, trivial⟩
   ·rintro ⟨⟨k, c, l2, vs2⟩, hk, hm⟩
    have hk : k ≤ lb.length := hk
    have hm : TimI la lb l2 i (la[i]'hlt) k c := hm
    conv => whnf
    refine bcase_intro (fun hly => ?_) (fun hly => ?_)
    ·have hly : k < lb.length := n_lt hly
     have hj : i + k < l2.length := by have := hm.1; omega
     have hj2 : i + k < (la.length + lb.length) := by omega
     obtain ⟨hm2, hw1, hw2⟩ := hm.step hly hx16 db (hj := hj)
     have e0 := rword_raw hw1 hw2
     have hI := wrap_sum (Nat.le_of_lt hj2) hsum
     have hir : IR ((i + k : Nat) : Int) := ir_sum (by omega)
     have hdl2 := hm.2.1
     conv => whnf
     conv =>
      arg 2
      tactic' =>
       apply eff_index_sli (hi := hir) (ho := ?how1) (hT := ?hTw1) (hx := ?hxw1) (hk := ?hkw1) (hlt := ?hltw1)
       case how1 => rfl
       case hTw1 => rfl
       case hxw1 => rfl
       case hkw1 => exact cint hI hir
       case hltw1 => exact hj2
     conv => whnf
     conv =>
      arg 2
      tactic' =>
       apply eff_load_sub (m := [.int (((l2[i + k]'hj) : Nat) : Int) (ir_dig (hdl2.get _ hj))]) (ho := ?how2) (hT := ?hTw2) (hx := ?hxw2) (hb := ?hbw2) (hm := ?hmw2) (hv := ?hvw2)
       case how2 => rfl
       case hTw2 => rfl
       case hxw2 => rfl
       case hbw2 => rfl
       case hmw2 => exact (IAt.mk' l2).int hdl2 hj
       case hvw2 => rfl
     conv => whnf
     conv =>
      arg 2
      tactic' =>
       apply eff_index_sli (ho := ?how3) (hT := ?hTw3) (hx := ?hxw3) (hk := ?hkw3) (hlt := ?hltw3)
       case how3 => rfl
       case hTw3 => rfl
       case hxw3 => rfl
       case hkw3 => rfl
       case hltw3 => exact hlt
     conv => whnf
     conv =>
      arg 2
      tactic' =>
       apply eff_load_sub (m := [.int (((la[i]'hlt) : Nat) : Int) (ir_dig (da.get _ hlt))]) (ho := ?how4) (hT := ?hTw4) (hx := ?hxw4) (hb := ?hbw4) (hm := ?hmw4) (hv := ?hvw4)
       case how4 => rfl
       case hTw4 => rfl
       case hxw4 => rfl
       case hbw4 => rfl
       case hmw4 => exact hwa.int da hlt
       case hvw4 => rfl
     conv => whnf
     conv =>
      arg 2
      tactic' =>
       apply eff_index_sli (ho := ?how5) (hT := ?hTw5) (hx := ?hxw5) (hk := ?hkw5) (hlt := ?hltw5)
       case how5 => rfl
       case hTw5 => rfl
       case hxw5 => rfl
       case hkw5 => rfl
       case hltw5 => exact hly
     conv => whnf
     conv =>
      arg 2
      tactic' =>
       apply eff_load_sub (m := [.int (((lb[k]'hly) : Nat) : Int) (ir_dig (db.get _ hly))]) (ho := ?how6) (hT := ?hTw6) (hx := ?hxw6) (hb := ?hbw6) (hm := ?hmw6) (hv := ?hvw6)
       case how6 => rfl
       case hTw6 => rfl
       case hxw6 => rfl
       case hbw6 => rfl
       case hmw6 => exact hwb.int db hly
       case hvw6 => rfl
     conv => whnf
     conv =>
      arg 2
      tactic' =>
       apply eff_index_sli (hi := hir) (ho := ?how7) (hT := ?hTw7) (hx := ?hxw7) (hk := ?hkw7) (hlt := ?hltw7)
       case how7 => rfl
       case hTw7 => rfl
       case hxw7 => rfl
       case hkw7 => exact cint hI hir
       case hltw7 => exact hj2
     conv => whnf
     conv =>
      arg 2
      tactic' =>
       apply eff_store_at (l := [iC (((l2[i + k]'hj) + (la[i]'hlt) * (lb[k]'hly) + c) % 65536)]) (cs := isC (l2.set (i + k) (((l2[i + k]'hj) + (la[i]'hlt) * (lb[k]'hly) + c) % 65536))) (ho := ?how8) (hT := ?hTw8) (hx := ?hxw8) (hy := ?hyw8) (hl := ?hlw8) (hb := ?hbw8) (hro := ?hrow8) (hs := ?hsw8)
       case how8 => rfl
       case hTw8 => rfl
       case hxw8 => rfl
       case hyw8 => exact congrArg (fun z => some [z]) (iC_eq (Nat.mod_lt _ (by decide)) (rem_dig e0))
       case hlw8 => exact ⟨rfl, rfl⟩
       case hbw8 => rfl
       case hrow8 => rfl
       case hsw8 => exact splice_is hj _
     conv => whnf
     rw [forceL_eq]
     conv => whnf
     refine ⟨[0,1,2], [0,1,5,6,7,8], [0,1,2], fun vs3 => ?_⟩
     conv => whnf
     refine ⟨hwa.1, hwb.1, isC_pure _, ?_⟩
     conv => whnf
     refine ⟨_, _, ?_, ?_, ⟨(k + 1, ((l2[i + k]'hj) + (la[i]'hlt) * (lb[k]'hly) + c) / 65536, l2.set (i + k) (((l2[i + k]'hj) + (la[i]'hlt) * (lb[k]'hly) + c) % 65536), vs3), hly, hm2⟩, (by omega : lb.length - (k + 1) < lb.length - k), rfl, rfl⟩
     ·exact ⟨fun _=>rfl,fun _=>rfl,fun _=>rfl,fun _=>rfl,fun _=>rfl,fun _=>rfl,fun _=>rfl,sint_eq (quo_dig e0 (by omega)) _ _, sint_eq (wrap_add1 hly hb.ir) _ _, fun _=>rfl,fun _=>rfl,fun _=>rfl,stm _⟩
     ·exact ⟨⟨rfl,rfl,rfl, fun _=>rfl⟩, ⟨rfl,rfl,rfl, fun _=>rfl⟩, ⟨rfl,rfl,rfl, fun _=>rfl⟩, trivial⟩
    ·have hke : k = lb.length := Nat.le_antisymm hk (n_ge hly)
     subst hke
     have hj : i + lb.length < l2.length := by have := hm.1; omega
     have hj2 : i + lb.length < (la.length + lb.length) := by omega
     have hI := wrap_sum (Nat.le_of_lt hj2) hsum
     have hir : IR ((i + lb.length : Nat) : Int) := ir_sum (by omega)
     have hc16 : c < 65536 := hm.2.2.1
     conv => whnf
     conv =>
      arg 2
      tactic' =>
       apply eff_index_sli (hi := hir) (ho := ?how9) (hT := ?hTw9) (hx := ?hxw9) (hk := ?hkw9) (hlt := ?hltw9)
       case how9 => rfl
       case hTw9 => rfl
       case hxw9 => rfl
       case hkw9 => exact cint hI hir
       case hltw9 => exact hj2
     conv => whnf
     conv =>
      arg 2
      tactic' =>
       apply eff_store_at (l := [iC (c)]) (cs := isC (l2.set (i + lb.length) c)) (ho := ?how10) (hT := ?hTw10) (hx := ?hxw10) (hy := ?hyw10) (hl := ?hlw10) (hb := ?hbw10) (hro := ?hrow10) (hs := ?hsw10)
       case how10 => rfl
       case hTw10 => rfl
       case hxw10 => rfl
       case hyw10 => exact congrArg (fun z => some [z]) (iC_eq hc16 rfl)
       case hlw10 => exact ⟨rfl, rfl⟩
       case hbw10 => rfl
       case hrow10 => rfl
       case hsw10 => exact splice_is hj _
     conv => whnf
     rw [forceL_eq]
     conv => whnf
     refine ⟨[0,1,2], [0,1,5,6], [0,1,2], fun vs3 => ?_⟩
     conv => whnf
     refine ⟨hwa.1, hwb.1, isC_pure _, ?_⟩
     conv => whnf
     refine ⟨_, _, ?_, ?_, ⟨(i + 1, l2.set (i + lb.length) c, vs3), hlt, hm.last hlt⟩, (by omega : la.length - (i + 1) < la.length - i), rfl, rfl⟩
     ·exact ⟨fun _=>rfl,fun _=>rfl,fun _=>rfl,fun _=>rfl,fun _=>rfl,fun _=>rfl,sint_eq (wrap_add1 hlt ha.ir) _ _, fun _=>rfl,fun _=>rfl,fun _=>rfl,fun _=>rfl,fun _=>rfl,stm _⟩
     ·exact ⟨⟨rfl,rfl,rfl, fun _=>rfl⟩, ⟨rfl,rfl,rfl, fun _=>rfl⟩, ⟨rfl,rfl,rfl, fun _=>rfl⟩, trivial⟩
  ·have hke : i = la.length := Nat.le_antisymm hi (n_ge hlt)
   subst hke
   conv => whnf
   refine ⟨⟨isC_pure (lo), trivial⟩, ⟨_, _, _, _, _, _, _, lo, rfl,rfl,ho.1, ⟨isC_pure (lo), [], [], by rw [List.append_nil]; rfl, rfl⟩, ho.2.1, fun h3 => ?_⟩⟩
   conv => whnf
   refine ⟨[0,1,2], [0,1,2], fun vs2 => ?_⟩
   conv => whnf
   refine ⟨hwa.1, hwb.1, isC_pure _, ?_⟩
   conv => whnf
   refine ⟨_, [(OI.ofTrim lo (la.length + lb.length) h3 (Nat.le_of_eq ho.1)).blk], rfl, ⟨⟨rfl,rfl,rfl, fun _=>rfl⟩, ⟨rfl,rfl,rfl, fun _=>rfl⟩, ⟨rfl,rfl,?_, fun ρ => ?_⟩, trivial⟩, ⟨OI.new _, trivial⟩, _, fun ρ => OI.ofTrim_sl 2 ρ, hc _ rfl ?_⟩
   ·rw [OI.ofTrim_blk]; have := ho.1; show 0 = (la.length + lb.length) - lo.length; omega
   ·rw [OI.ofTrim_blk]
   ·rw [OI.ofTrim_l ho.2.1, ho.2.2.1, List.take_length]
end Go.Proofs.YtocbklodkcdhkaaGreatDoor

namespace Go.Proofs.YtocbklodkcdhkaaGreatDoor
open Go.RowKit
set_option maxRecDepth 100000

def OI.out (l : List Nat) (nl : Bool) (cap : Nat) (ok : SliOk nl l.length cap) : OI := ⟨l, [], nl, cap, ok, by rw [List.append_nil]; exact ok.1⟩
def OI.snoc (l : List Nat) (d cap : Nat) (h : SliOk false (l.length + 1) cap) : OI := OI.out (l ++ [d]) false cap (by rw [List.length_append]; exact h)
theorem OI.size {o : OI} (hr : o.r = []) : sizeC (isC (o.l ++ o.r)) = o.l.length * 1 := by rw [hr, List.append_nil, isC_size, Nat.mul_one]
theorem OI.room {o : OI} (hr : o.r = []) : sizeC (isC (o.l ++ o.r)) + (o.cap - (o.l ++ o.r).length) = o.cap * 1 := by
 have := o.ok.1
 rw [isC_size, hr, List.append_nil]; omega
theorem slok_f {nl : Bool} {n c : Nat} (h : SliOk (nl && decide (1 = 0)) n c) : SliOk false n c := ⟨h.1, h.2.1, fun e => by cases e⟩
theorem andf (nl : Bool) : (nl && decide (1 = 0)) = false := by cases nl <;> rfl
theorem snoc_cells {o : OI} (hr : o.r = []) {z : Int} {hz : IR z} {d : Nat} (e : C.int z hz = iC d) (ρ : Rho) : cellsL ρ (isC (o.l ++ o.r) ++ [.int z hz]) = cellsL ρ (isC ((o.l ++ [d]) ++ [])) := by
 rw [hr, List.append_nil, List.append_nil, isC_append, e]; rfl
theorem snoc_tl {o : OI} {cap2 d : Nat} : (cap2 - (o.l.length + 1)) * 1 = cap2 - ((o.l ++ [d]) ++ []).length := by
 rw [List.append_nil, List.length_append, Nat.mul_one]; rfl
theorem snoc_den {l : List Nat} {d nl : Nat} {b cap2 : Nat} {nb : Bool} {h : SliOk (nb && decide (1 = 0)) (l.length + 1) cap2} (h' : SliOk false (l.length + 1) cap2) (e : nl = b) (ρ ρ' : Rho) (hρ : ρ nl = ρ' b) : (SV.c (.sli (nb && decide (1 = 0)) nl 0 (l.length + 1) cap2 h)).den ρ = ((OI.snoc l d cap2 h').sl b).den ρ' := by
 subst e
 show Value.slice (nlA (nb && decide (1 = 0)) _) _ _ = Value.slice (nlA false _) (l ++ [d]).length _
 rw [andf, hρ, List.length_append]; rfl
structure PluI (la lb : List Nat) (k c : Nat) (o : OI) : Prop where
 r : o.r = []
 len : o.l.length = k
 dl : Dl RB o.l
 hc : c ≤ 1
 hk : k ≤ max la.length lb.length + 1
 hk2 : c = 1 → k ≤ max la.length lb.length
 hv : val RB o.l + RB ^ k * c = val RB (la.take k) + val RB (lb.take k)
theorem PluI.start (la lb : List Nat) : PluI la lb 0 0 OI.nil := ⟨rfl,rfl,Dl.nil _, by decide, by omega, fun _ => Nat.zero_le _, by simp [val, OI.nil]⟩
theorem PluI.step {la lb : List Nat} {k c x y cap : Nat} {o : OI} (h : PluI la lb k c o) (hx : la[k]?.getD 0 = x) (hy : lb[k]?.getD 0 = y) (hx2 : x < 65536) (hy2 : y < 65536) (hlt : k < max la.length lb.length ∨ (c = 1 ∧ x = 0 ∧ y = 0)) {hs : SliOk false (o.l.length + 1) cap} :
  PluI la lb (k + 1) ((x + c + y) / 65536) (OI.snoc o.l ((x + c + y) % 65536) cap hs) ∧ 2 * (max la.length lb.length - (k + 1)) + (x + c + y) / 65536 < 2 * (max la.length lb.length - k) + c := by
 have hc := h.hc
 have hk2 := h.hk2
 refine ⟨⟨rfl, ?_, h.dl.append (Dl.one (Nat.mod_lt _ RB_pos)), by omega, by omega, fun e => by omega, plus_step h.len hx hy h.hv⟩, by omega⟩
 show (o.l ++ [_]).length = _
 rw [List.length_append, h.len]; rfl
end Go.Proofs.YtocbklodkcdhkaaGreatDoor

namespace Go.Proofs.YtocbklodkcdhkaaGreatDoor
open Go.RowKit
set_option maxRecDepth 100000

def OI.cut (o : OI) (h : SliOk o.nl (tlen o.l) o.cap) : OI := ⟨o.l.take (tlen o.l), o.l.drop (tlen o.l) ++ o.r, o.nl, o.cap, by rw [List.length_take, Nat.min_eq_left (tlen_le o.l)]; exact h, by rw [← List.append_assoc, List.take_append_drop]; exact o.hr⟩
theorem OI.cut_l {o : OI} {h : SliOk o.nl (tlen o.l) o.cap} (hd : Dl RB o.l) : (o.cut h).l = dig RB (val RB o.l) := take_tlen RB_two hd
theorem OI.cut_blk {o : OI} {h : SliOk o.nl (tlen o.l) o.cap} : (o.cut h).blk = o.blk := by
 simp only [OI.blk, OI.cut, ← List.append_assoc, List.take_append_drop]
theorem OI.cut_sl {o : OI} {h : SliOk o.nl (tlen o.l) o.cap} (b : Nat) (ρ : Rho) : (SV.c (.sli o.nl b 0 (tlen o.l) o.cap h)).den ρ = ((o.cut h).sl b).den ρ := by
 simp only [OI.sl, OI.cut, SV.den, C.den, C.cells, List.length_take, Nat.min_eq_left (tlen_le o.l)]
structure MinI (la lb : List Nat) (k c : Nat) (o : OI) : Prop where
 r : o.r = []
 len : o.l.length = k
 dl : Dl RB o.l
 hc : c ≤ 1
 hk : k ≤ la.length
 hv : val RB o.l + val RB (lb.take k) = val RB (la.take k) + RB ^ k * c
theorem MinI.start (la lb : List Nat) : MinI la lb 0 0 OI.nil := ⟨rfl,rfl,Dl.nil _, by decide, Nat.zero_le _, by simp [val, OI.nil]⟩
theorem MinI.step {la lb : List Nat} {k c x y d c' cap : Nat} {o : OI} (h : MinI la lb k c o) (hk : k < la.length) (hx : la[k]?.getD 0 = x) (hy : lb[k]?.getD 0 = y) (hd : d < 65536) (hc : c' ≤ 1) (e : d + c + y = x + RB * c') {hs : SliOk false (o.l.length + 1) cap} :
  MinI la lb (k + 1) c' (OI.snoc o.l d cap hs) := by
 refine ⟨rfl, ?_, h.dl.append (Dl.one (by rw [RB_eq]; exact hd)), hc, hk, minus_step h.len hx hy e h.hv⟩
 show (o.l ++ [_]).length = _
 rw [List.length_append, h.len]; rfl
theorem MinI.last {la lb : List Nat} {c : Nat} {o : OI} (h : MinI la lb la.length c o) (hl : lb.length ≤ la.length) (hle : val RB lb ≤ val RB la) : val RB o.l = val RB la - val RB lb := by
 have hv := h.hv
 rw [List.take_length, List.take_of_length_le hl] at hv
 have hlt := val_lt h.dl
 rw [h.len] at hlt
 rcases Nat.eq_zero_or_pos c with h0 | h0
 ·subst h0; omega
 ·have : RB ^ la.length * 1 ≤ RB ^ la.length * c := Nat.mul_le_mul_left _ h0
  omega
theorem min_x {x c : Nat} (hx : x < 65536) (hc : c ≤ 1) : IntKind.i64.wrap ((x : Int) - (c : Int)) = (x : Int) - c := wrap_id (by unfold IR; omega)
theorem min_xy {x c y : Nat} (hx : x < 65536) (hc : c ≤ 1) (hy : y < 65536) : IntKind.i64.wrap (IntKind.i64.wrap ((x : Int) - (c : Int)) - (y : Int)) = (x : Int) - c - y := by
 rw [min_x hx hc]; exact wrap_id (by unfold IR; omega)
theorem min_neg {z : Int} {x c y : Nat} (e : z = (x : Int) - c - y) (hx : x < 65536) (hc : c ≤ 1) (hy : y < 65536) (h : decide (z < 0) = true) : IntKind.i64.wrap (z + 65536) = ((x + 65536 - c - y : Nat) : Int) ∧ x + 65536 - c - y < 65536 ∧ (x + 65536 - c - y) + c + y = x + RB * 1 := by
 have h := of_decide_eq_true h
 subst e
 have hB : RB = 65536 := rfl
 refine ⟨?_, by omega, by omega⟩
 rw [wrap_id (by unfold IR; omega)]; omega
theorem min_pos {z : Int} {x c y : Nat} (e : z = (x : Int) - c - y) (hx : x < 65536) (h : decide (z < 0) = false) : z = ((x - c - y : Nat) : Int) ∧ x - c - y < 65536 ∧ (x - c - y) + c + y = x + RB * 0 := by
 have h := of_decide_eq_false h
 subst e
 refine ⟨by omega, by omega, by omega⟩
def cMinus : NewC := fun args ros K => ∃ nla offa lena capa ha tya csa la nlb offb lenb capb hb tyb csb lb, args = [.c (.sli nla 0 offa lena capa ha), .c (.sli nlb 1 offb lenb capb hb)] ∧ ros = [⟨tya, true, csa, 0⟩, ⟨tyb, true, csb, 0⟩] ∧
 la.length = lena ∧ lb.length = lenb ∧ IAt csa offa la ∧ IAt csb offb lb ∧ Dl RB la ∧ Dl RB lb ∧ lena ≤ 200000000 ∧ lenb ≤ lena ∧ val RB lb ≤ val RB la ∧ ∀ o : OI, o.l = dig RB (val RB la - val RB lb) → K (o.sl 2) [o.blk]
set_option maxHeartbeats 8000000 in
theorem csMinus : CSp Tryz.prog 94 cMinus := csp_of (envA_ok 0) mixed (mix_ok trimC_ok (envA_ok 0) mixed noF_ok 0) ⟨Tryz.func94, by kernel_rfl, by kernel_rfl⟩ fun args ros K hc => by
 obtain ⟨nla, offa, _, capa, ha, tya, csa, la, nlb, offb, _, capb, hb, tyb, csb, lb, rfl,rfl,rfl,rfl,hwa, hwb, da, db, sa, sb, hle, hc⟩ := hc
 refine ⟨fun ρ ρ' e => ?_, ?_⟩
 ·have e0 := e 0 (show 0 < 2 by decide)
  have e1 := e 1 (show 1 < 2 by decide)
  simp only [List.map, SV.den, C.den, C.cells, e0, e1]
 conv => whnf
 refine loop_st (G := {g : Nat × Nat × OI × (Nat → Value) // MinI la lb g.1 g.2.1 g.2.2.1}) (fun g => (.c (.sli nla 0 offa la.length capa ha) :: .c (.sli nlb 1 offb lb.length capb hb) :: .c (.val (g.1.2.2.2 2)) :: .c (.val (g.1.2.2.2 3)) :: .c (.val (g.1.2.2.2 4)) :: (g.1.2.2.1.sl 2) :: .c (.int (g.1.2.1 : Nat) (ir_nat (Nat.le_trans g.2.hc (by decide)))) :: .c (.int (g.1.1 : Nat) (ltI ha g.2.hk)) :: .c (.val (g.1.2.2.2 8)) :: .c (.val (g.1.2.2.2 9)) :: .c (.val (g.1.2.2.2 10)) :: .c (.val (g.1.2.2.2 11)) :: .c (.val (g.1.2.2.2 12)) :: .c (.val (g.1.2.2.2 13)) :: .c (.val (g.1.2.2.2 14)) :: .c (.val (g.1.2.2.2 15)) :: .c (.val (g.1.2.2.2 16)) :: .c (.val (g.1.2.2.2 17)) :: .c (.val (g.1.2.2.2 18)) :: .c (.val (g.1.2.2.2 19)) :: .c (.val (g.1.2.2.2 20)) :: .c (.val (g.1.2.2.2 21)) :: .c (.val (g.1.2.2.2 22)) :: .c (.val (g.1.2.2.2 23)) :: .c (.val (g.1.2.2.2 24)) :: .c (.val (g.1.2.2.2 25)) :: .c (.val (g.1.2.2.2 26)) :: .c (.val (g.1.2.2.2 27)) :: .c (.val (g.1.2.2.2 28)) :: .c (.val (g.1.2.2.2 29)) :: .c (.val (g.1.2.2.2 30)) :: .c (.val (g.1.2.2.2 31)) :: .c (.val (g.1.2.2.2 32)) :: .c (.val (g.1.2.2.2 33)) :: .c (.val (g.1.2.2.2 34)) :: .c (.val (g.1.2.2.2 35)) :: .c (.val (g.1.2.2.2 36)) :: .c (.val (g.1.2.2.2 37)) :: .c (.val (g.1.2.2.2 38)) :: .c (.val (g.1.2.2.2 39)) :: .c (.val (g.1.2.2.2 40)) :: [])) (fun g => [⟨tya, true, csa, 0⟩, ⟨tyb, true, csb, 0⟩, g.1.2.2.1.blk]) (fun g => la.length - g.1.1) ?_ ?_
 ·refine ⟨[0, 1, 1000 + 3], [0,1,5,6,7], [0,1,2], fun vs => ?_⟩
  conv => whnf
  refine ⟨hwa.1, hwb.1, ?_⟩
  conv => whnf
  refine ⟨_, _, ?_, ?_, ⟨(0, 0, OI.nil, vs), MinI.start la lb⟩, rfl, rfl⟩
  ·exact ⟨fun _=>rfl,fun _=>rfl,fun _=>rfl,fun _=>rfl,fun _=>rfl,fun _=>rfl,fun _=>rfl,fun _=>rfl,fun _=>rfl,fun _=>rfl,fun _=>rfl,fun _=>rfl,stm _⟩
  ·exact ⟨⟨rfl,rfl,rfl, fun _=>rfl⟩, ⟨rfl,rfl,rfl, fun _=>rfl⟩, ⟨rfl,rfl,rfl, fun _=>rfl⟩, trivial⟩
 ·rintro ⟨⟨k, c, o, vs⟩, hI⟩
  have hI : MinI la lb k c o := hI
  have hkm := hI.hk
  have hcm := hI.hc
  have hol := hI.len
  have hroom : (o.l.length + 1) * 1 ≤ 5000000000000 := by omega
  conv => whnf
  refine bcase_intro (fun r1 => ?_) (fun r1 => ?_)
  ·have hla : k < la.length := n_lt r1
   have hx16 : (la[k]'hla) < 65536 := da.get k hla
   conv => whnf
   conv =>
    arg 2
    tactic' =>
     apply eff_index_sli (ho := ?how11) (hT := ?hTw11) (hx := ?hxw11) (hk := ?hkw11) (hlt := ?hltw11)
     case how11 => rfl
     case hTw11 => rfl
     case hxw11 => rfl
     case hkw11 => rfl
     case hltw11 => exact hla
   conv => whnf
   conv =>
    arg 2
    tactic' =>
     apply eff_load_sub (m := [.int (((la[k]'hla) : Nat) : Int) (ir_dig (da.get k hla))]) (ho := ?how12) (hT := ?hTw12) (hx := ?hxw12) (hb := ?hbw12) (hm := ?hmw12) (hv := ?hvw12)
     case how12 => rfl
     case hTw12 => rfl
     case hxw12 => rfl
     case hbw12 => rfl
     case hmw12 => exact hwa.int da hla
     case hvw12 => rfl
   conv => whnf
   refine bcase_intro (fun r2 => ?_) (fun r2 => ?_)
   ·have hlb : k < lb.length := n_lt r2
    have hy16 : (lb[k]'hlb) < 65536 := db.get k hlb
    conv => whnf
    conv =>
     arg 2
     tactic' =>
      apply eff_index_sli (ho := ?how13) (hT := ?hTw13) (hx := ?hxw13) (hk := ?hkw13) (hlt := ?hltw13)
      case how13 => rfl
      case hTw13 => rfl
      case hxw13 => rfl
      case hkw13 => rfl
      case hltw13 => exact hlb
    conv => whnf
    conv =>
     arg 2
     tactic' =>
      apply eff_load_sub (m := [.int (((lb[k]'hlb) : Nat) : Int) (ir_dig (db.get k hlb))]) (ho := ?how14) (hT := ?hTw14) (hx := ?hxw14) (hb := ?hbw14) (hm := ?hmw14) (hv := ?hvw14)
      case how14 => rfl
      case hTw14 => rfl
      case hxw14 => rfl
      case hbw14 => rfl
      case hmw14 => exact hwb.int db hlb
      case hvw14 => rfl
    conv => whnf
    refine bcase_intro (fun r3 => ?_) (fun r3 => ?_)
    ·obtain ⟨ed1, ed2, ed3⟩ := min_neg (x := (la[k]'hla)) (c := c) (y := (lb[k]'hlb)) (min_xy hx16 hcm hy16) hx16 hcm hy16 r3
     conv => whnf
     refine .inl ?_
     conv => whnf
     refine ⟨rfl, ?_⟩
     conv => whnf
     refine ⟨⟨rfl,rfl,OI.size hI.r, fun _ => OI.room hI.r, hroom⟩, fun cap2 hcap2 => ?_⟩
     have hs := slok_f hcap2
     have hI2 := hI.step (cap := cap2) (hs := hs) hla (getD_get hla) (getD_get hlb) ed2 (by decide : 1 ≤ 1) ed3
     conv => whnf
     refine ⟨[0,1,4], [0,1,5,6,7], [0,1,2], fun vs2 => ?_⟩
     conv => whnf
     refine ⟨hwa.1, hwb.1, pureL_append (isC_pure _) (fun _ _=>rfl), ?_⟩
     conv => whnf
     refine ⟨_, _, ?_, ?_, ⟨(k + 1, 1, OI.snoc o.l ((la[k]'hla) + 65536 - c - (lb[k]'hlb)) cap2 hs, vs2), hI2⟩, (by omega : la.length - (k + 1) < la.length - k), rfl, rfl⟩
     ·exact ⟨fun _=>rfl,fun _=>rfl,fun _=>rfl,fun _=>rfl,fun _=>rfl,fun ρ => snoc_den hs rfl ρ ρ rfl, fun _=>rfl,sint_eq (wrap_add1 hla ha.ir) _ _, fun _=>rfl,fun _=>rfl,fun _=>rfl,fun _=>rfl,stm _⟩
     ·exact ⟨⟨rfl,rfl,rfl, fun _=>rfl⟩, ⟨rfl,rfl,rfl, fun _=>rfl⟩, ⟨rfl, andf _, snoc_tl, fun ρ => snoc_cells hI.r (iC_eq ed2 ed1) ρ⟩, trivial⟩
    ·obtain ⟨ed1, ed2, ed3⟩ := min_pos (x := (la[k]'hla)) (c := c) (y := (lb[k]'hlb)) (min_xy hx16 hcm hy16) hx16 r3
     conv => whnf
     refine .inl ?_
     conv => whnf
     refine ⟨rfl, ?_⟩
     conv => whnf
     refine ⟨⟨rfl,rfl,OI.size hI.r, fun _ => OI.room hI.r, hroom⟩, fun cap2 hcap2 => ?_⟩
     have hs := slok_f hcap2
     have hI2 := hI.step (cap := cap2) (hs := hs) hla (getD_get hla) (getD_get hlb) ed2 (by decide : 0 ≤ 1) ed3
     conv => whnf
     refine ⟨[0,1,4], [0,1,5,6,7], [0,1,2], fun vs2 => ?_⟩
     conv => whnf
     refine ⟨hwa.1, hwb.1, pureL_append (isC_pure _) (fun _ _=>rfl), ?_⟩
     conv => whnf
     refine ⟨_, _, ?_, ?_, ⟨(k + 1, 0, OI.snoc o.l ((la[k]'hla) - c - (lb[k]'hlb)) cap2 hs, vs2), hI2⟩, (by omega : la.length - (k + 1) < la.length - k), rfl, rfl⟩
     ·exact ⟨fun _=>rfl,fun _=>rfl,fun _=>rfl,fun _=>rfl,fun _=>rfl,fun ρ => snoc_den hs rfl ρ ρ rfl, fun _=>rfl,sint_eq (wrap_add1 hla ha.ir) _ _, fun _=>rfl,fun _=>rfl,fun _=>rfl,fun _=>rfl,stm _⟩
     ·exact ⟨⟨rfl,rfl,rfl, fun _=>rfl⟩, ⟨rfl,rfl,rfl, fun _=>rfl⟩, ⟨rfl, andf _, snoc_tl, fun ρ => snoc_cells hI.r (iC_eq ed2 ed1) ρ⟩, trivial⟩
   ·have hlb : lb.length ≤ k := n_ge r2
    have hy0 : lb[k]?.getD 0 = 0 := by rw [List.getElem?_eq_none hlb]; rfl
    conv => whnf
    refine bcase_intro (fun r3 => ?_) (fun r3 => ?_)
    ·obtain ⟨ed1, ed2, ed3⟩ := min_neg (x := (la[k]'hla)) (c := c) (y := 0) ((min_x hx16 hcm).trans (Int.sub_zero _).symm) hx16 hcm (by decide) r3
     conv => whnf
     refine .inl ?_
     conv => whnf
     refine ⟨rfl, ?_⟩
     conv => whnf
     refine ⟨⟨rfl,rfl,OI.size hI.r, fun _ => OI.room hI.r, hroom⟩, fun cap2 hcap2 => ?_⟩
     have hs := slok_f hcap2
     have hI2 := hI.step (cap := cap2) (hs := hs) hla (getD_get hla) hy0 ed2 (by decide : 1 ≤ 1) ed3
     conv => whnf
     refine ⟨[0,1,4], [0,1,5,6,7], [0,1,2], fun vs2 => ?_⟩
     conv => whnf
     refine ⟨hwa.1, hwb.1, pureL_append (isC_pure _) (fun _ _=>rfl), ?_⟩
     conv => whnf
     refine ⟨_, _, ?_, ?_, ⟨(k + 1, 1, OI.snoc o.l ((la[k]'hla) + 65536 - c - 0) cap2 hs, vs2), hI2⟩, (by omega : la.length - (k + 1) < la.length - k), rfl, rfl⟩
     ·exact ⟨fun _=>rfl,fun _=>rfl,fun _=>rfl,fun _=>rfl,fun _=>rfl,fun ρ => snoc_den hs rfl ρ ρ rfl, fun _=>rfl,sint_eq (wrap_add1 hla ha.ir) _ _, fun _=>rfl,fun _=>rfl,fun _=>rfl,fun _=>rfl,stm _⟩
     ·exact ⟨⟨rfl,rfl,rfl, fun _=>rfl⟩, ⟨rfl,rfl,rfl, fun _=>rfl⟩, ⟨rfl, andf _, snoc_tl, fun ρ => snoc_cells hI.r (iC_eq ed2 ed1) ρ⟩, trivial⟩
    ·obtain ⟨ed1, ed2, ed3⟩ := min_pos (x := (la[k]'hla)) (c := c) (y := 0) ((min_x hx16 hcm).trans (Int.sub_zero _).symm) hx16 r3
     conv => whnf
     refine .inl ?_
     conv => whnf
     refine ⟨rfl, ?_⟩
     conv => whnf
     refine ⟨⟨rfl,rfl,OI.size hI.r, fun _ => OI.room hI.r, hroom⟩, fun cap2 hcap2 => ?_⟩
     have hs := slok_f hcap2
     have hI2 := hI.step (cap := cap2) (hs := hs) hla (getD_get hla) hy0 ed2 (by decide : 0 ≤ 1) ed3
     conv => whnf
     refine ⟨[0,1,4], [0,1,5,6,7], [0,1,2], fun vs2 => ?_⟩
     conv => whnf
     refine ⟨hwa.1, hwb.1, pureL_append (isC_pure _) (fun _ _=>rfl), ?_⟩
     conv => whnf
     refine ⟨_, _, ?_, ?_, ⟨(k + 1, 0, OI.snoc o.l ((la[k]'hla) - c - 0) cap2 hs, vs2), hI2⟩, (by omega : la.length - (k + 1) < la.length - k), rfl, rfl⟩
     ·exact ⟨fun _=>rfl,fun _=>rfl,fun _=>rfl,fun _=>rfl,fun _=>rfl,fun ρ => snoc_den hs rfl ρ ρ rfl, fun _=>rfl,sint_eq (wrap_add1 hla ha.ir) _ _, fun _=>rfl,fun _=>rfl,fun _=>rfl,fun _=>rfl,stm _⟩
     ·exact ⟨⟨rfl,rfl,rfl, fun _=>rfl⟩, ⟨rfl,rfl,rfl, fun _=>rfl⟩, ⟨rfl, andf _, snoc_tl, fun ρ => snoc_cells hI.r (iC_eq ed2 ed1) ρ⟩, trivial⟩
  ·have hke : k = la.length := Nat.le_antisymm hI.hk (n_ge r1)
   subst hke
   have hvf := hI.last sb hle
   conv => whnf
   refine ⟨⟨isC_pure _, trivial⟩, ⟨_, _, _, _, _, _, _, o.l, rfl,rfl,rfl, IAt.ow o, hI.dl, fun h3 => ?_⟩⟩
   conv => whnf
   refine ⟨[0,1,2], [0,1,2], fun vs2 => ?_⟩
   conv => whnf
   refine ⟨hwa.1, hwb.1, isC_pure _, ?_⟩
   conv => whnf
   exact ⟨_, [(o.cut h3).blk], rfl, ⟨⟨rfl,rfl,rfl, fun _=>rfl⟩, ⟨rfl,rfl,rfl, fun _=>rfl⟩, by rw [OI.cut_blk]; exact ⟨rfl,rfl,rfl, fun _=>rfl⟩, trivial⟩, ⟨OI.new _, trivial⟩, _, fun ρ => OI.cut_sl 2 ρ, hc _ (by rw [OI.cut_l hI.dl, hvf])⟩
end Go.Proofs.YtocbklodkcdhkaaGreatDoor

namespace Go.Proofs.YtocbklodkcdhkaaGreatDoor
open Go.RowKit
set_option maxRecDepth 100000

structure DigI (s : ByteArray) (j : Nat) (o : OI) : Prop where
 r : o.r = []
 len : o.l.length = j
 dl : Dl RB o.l
 hj : 2 * j ≤ s.size + 1
 hv : val RB o.l = mval (s.data.toList.drop (s.size - 2 * j))
theorem DigI.start (s : ByteArray) : DigI s 0 OI.nil := ⟨rfl,rfl,Dl.nil _, by omega, by rw [List.drop_of_length_le (by rw [Array.length_toList]; exact Nat.le_refl _)]; simp [val, OI.nil, mval]⟩
theorem sb_get' {s : ByteArray} {i : Nat} (h : i < s.size) : s.data.toList[i]? = some (s.data[i]?.getD 0) := sb_get h
theorem DigI.two {s : ByteArray} {j cap : Nat} {o : OI} (h : DigI s j o) (hj : 2 * j + 2 ≤ s.size) {hs : SliOk false (o.l.length + 1) cap} : DigI s (j + 1) (OI.snoc o.l ((s.data[s.size - 2 * j - 1]?.getD 0).toNat + 256 * (s.data[s.size - 2 * j - 2]?.getD 0).toNat) cap hs) := by
 refine ⟨rfl, ?_, h.dl.append (Dl.one (two_lt _ _)), by omega, ?_⟩
 ·show (o.l ++ [_]).length = _; rw [List.length_append, h.len]; rfl
 ·have hv := h.hv
  rw [RB_eq] at hv ⊢
  exact digits_two (by rw [Array.length_toList]; rfl) h.len hj (sb_get' (by omega)) (sb_get' (by omega)) hv
theorem DigI.one {s : ByteArray} {j cap : Nat} {o : OI} (h : DigI s j o) (hj : 2 * j + 1 = s.size) {hs : SliOk false (o.l.length + 1) cap} : DigI s (j + 1) (OI.snoc o.l (s.data[s.size - 2 * j - 1]?.getD 0).toNat cap hs) := by
 refine ⟨rfl, ?_, h.dl.append (Dl.one (one_lt _)), by omega, ?_⟩
 ·show (o.l ++ [_]).length = _; rw [List.length_append, h.len]; rfl
 ·have hv := h.hv
  rw [RB_eq] at hv ⊢
  exact digits_one (by rw [Array.length_toList]; rfl) h.len hj (by rw [← sb_get' (s := s) (i := s.size - 2 * j - 1) (by omega)]; congr 1; omega) hv
theorem dig_i {n j : Nat} (hn : n ≤ 300000000) (hj : 2 * j ≤ n + 1) : IR ((n : Int) - 2 * (j : Int)) := by unfold IR; omega
theorem dig_s0 {n : Nat} : (n : Int) = (n : Int) - 2 * ((0 : Nat) : Int) := by omega
theorem dig_i1 {n j : Nat} (hn : n ≤ 300000000) (hj : 2 * j < n) : IntKind.i64.wrap ((n : Int) - 2 * (j : Int) - 1) = ((n - 2 * j - 1 : Nat) : Int) := by rw [wrap_id (by unfold IR; omega)]; omega
theorem dig_i2 {n j : Nat} (hn : n ≤ 300000000) (hj : 2 * j + 2 ≤ n) : IntKind.i64.wrap ((n : Int) - 2 * (j : Int) - 2) = ((n - 2 * j - 2 : Nat) : Int) := by rw [wrap_id (by unfold IR; omega)]; omega
theorem dig_i3 {n j : Nat} (hn : n ≤ 300000000) (hj : 2 * j < n) : IntKind.i64.wrap ((n : Int) - 2 * (j : Int) - 2) = (n : Int) - 2 * ((j + 1 : Nat) : Int) := by rw [wrap_id (by unfold IR; omega)]; omega
theorem one_raw (x : UInt8) : IntKind.i64.wrap (x.toNat : Int) = ((x.toNat : Nat) : Int) := by
 have := UInt8.toNat_lt x
 exact wrap_id (by unfold IR; omega)
theorem two_raw (x y : UInt8) : IntKind.i64.wrap (IntKind.i64.wrap (x.toNat : Int) + IntKind.i64.wrap (256 * IntKind.i64.wrap (y.toNat : Int))) = ((x.toNat + 256 * y.toNat : Nat) : Int) := by
 have := UInt8.toNat_lt x; have := UInt8.toNat_lt y
 rw [one_raw, one_raw, wrap_id (z := 256 * (y.toNat : Int)) (by unfold IR; omega), wrap_id (by unfold IR; omega)]; omega
theorem gt0 {n j : Nat} (h : decide ((0 : Int) < (n : Int) - 2 * (j : Int)) = true) : 2 * j < n := by have := of_decide_eq_true h; omega
theorem ngt0 {n j : Nat} (h : decide ((0 : Int) < (n : Int) - 2 * (j : Int)) = false) : n ≤ 2 * j := by have := of_decide_eq_false h; omega
theorem gt1 {n j : Nat} (h : decide ((1 : Int) < (n : Int) - 2 * (j : Int)) = true) : 2 * j + 2 ≤ n := by have := of_decide_eq_true h; omega
theorem ngt1 {n j : Nat} (h : decide ((1 : Int) < (n : Int) - 2 * (j : Int)) = false) : n ≤ 2 * j + 1 := by have := of_decide_eq_false h; omega
def cDigits : NewC := fun args ros K => ∃ x b s, args = [.agg x] ∧ ros = [] ∧ NumA x b s ∧ s.size ≤ 300000000 ∧ ∀ o : OI, o.l = dig RB (mval s.data.toList) → K (o.sl 0) [o.blk]
set_option maxHeartbeats 8000000 in
theorem csDigits : CSp Tryz.prog 74 cDigits := csp_of2 (envA_ok 0) mixed (mix_ok trimC_ok (envA_ok 0) mixed noF_ok 0) ⟨Tryz.func74, by kernel_rfl, by kernel_rfl⟩ fun args ros K hc => by
 obtain ⟨x, b, s, rfl,rfl,hx, hss, hc⟩ := hc
 have hsz : IR (s.size : Int) := by unfold IR; omega
 refine ⟨[.agg [.val (.bool b), .val (.string s)]], fun ρ => by show [(SV.agg x).den ρ] = _; rw [hx.den ρ]; rfl, fun _ _ _ => rfl, ?_⟩
 conv => whnf
 conv =>
  arg 2
  tactic' =>
   apply eff_len_str (ho := ?how11) (hc := ?hcw11) (ha := ?haw11) (ht := ?htw11) (hT := ?hTw11) (hx := ?hxw11) (h := ?hw11)
   case how11 => rfl
   case hcw11 => rfl
   case haw11 => rfl
   case htw11 => rfl
   case hTw11 => rfl
   case hxw11 => rfl
   case hw11 => exact hsz
 conv => whnf
 refine loop_st (G := {g : Nat × OI × (Nat → Value) // DigI s g.1 g.2.1}) (fun g => (.c (.val (g.1.2.2 0)) :: .c (.ptr 0 0) :: .c (.val (g.1.2.2 2)) :: (g.1.2.1.sl 1) :: .c (.val (g.1.2.2 4)) :: .c (.int ((s.size : Int) - 2 * (g.1.1 : Int)) (dig_i hss g.2.hj)) :: .c (.val (g.1.2.2 6)) :: .c (.val (g.1.2.2 7)) :: .c (.val (g.1.2.2 8)) :: .c (.val (g.1.2.2 9)) :: .c (.val (g.1.2.2 10)) :: .c (.val (g.1.2.2 11)) :: .c (.val (g.1.2.2 12)) :: .c (.val (g.1.2.2 13)) :: .c (.val (g.1.2.2 14)) :: .c (.val (g.1.2.2 15)) :: .c (.val (g.1.2.2 16)) :: .c (.val (g.1.2.2 17)) :: .c (.val (g.1.2.2 18)) :: .c (.val (g.1.2.2 19)) :: .c (.val (g.1.2.2 20)) :: .c (.val (g.1.2.2 21)) :: .c (.val (g.1.2.2 22)) :: .c (.val (g.1.2.2 23)) :: .c (.val (g.1.2.2 24)) :: .c (.val (g.1.2.2 25)) :: .c (.val (g.1.2.2 26)) :: .c (.val (g.1.2.2 27)) :: .c (.val (g.1.2.2 28)) :: .c (.val (g.1.2.2 29)) :: .c (.val (g.1.2.2 30)) :: .c (.val (g.1.2.2 31)) :: .c (.val (g.1.2.2 32)) :: .c (.val (g.1.2.2 33)) :: .c (.val (g.1.2.2 34)) :: .c (.val (g.1.2.2 35)) :: .c (.val (g.1.2.2 36)) :: .c (.val (g.1.2.2 37)) :: [])) (fun g => [⟨43, false, [.val (.bool b), .val (.string s)], 0⟩, g.1.2.1.blk]) (fun g => s.size + 1 - 2 * g.1.1) ?_ ?_
 ·refine ⟨[0, 1000 + 3], [1,3,5], [0,1], fun vs => ?_⟩
  conv => whnf
  refine ⟨fun _ _=>rfl,?_⟩
  conv => whnf
  refine ⟨_, _, ?_, ?_, ⟨(0, OI.nil, vs), DigI.start s⟩, rfl, rfl⟩
  ·exact ⟨fun _=>rfl,fun _=>rfl,fun _=>rfl,fun _=>rfl,fun _=>rfl,sint_eq dig_s0 _ _, fun _=>rfl,fun _=>rfl,fun _=>rfl,fun _=>rfl,fun _=>rfl,fun _=>rfl,stm _⟩
  ·exact ⟨⟨rfl,rfl,rfl, fun _=>rfl⟩, ⟨rfl,rfl,rfl, fun _=>rfl⟩, trivial⟩
 ·rintro ⟨⟨j, o, vs⟩, hI⟩
  have hI : DigI s j o := hI
  have hjm := hI.hj
  have hol := hI.len
  have hroom : (o.l.length + 1) * 1 ≤ 5000000000000 := by omega
  conv => whnf
  refine bcase_intro (fun h0 => ?_) (fun h0 => ?_)
  ·have h0 : 2 * j < s.size := gt0 h0
   have hir1 : IR ((s.size - 2 * j - 1 : Nat) : Int) := ir_nat (by omega)
   have hk1 : s.size - 2 * j - 1 < s.size := by omega
   conv => whnf
   conv =>
    arg 2
    tactic' =>
     apply eff_index_str (hi := hir1) (ho := ?how12) (hT := ?hTw12) (hx := ?hxw12) (hk := ?hkw12) (hlt := ?hltw12)
     case how12 => rfl
     case hTw12 => rfl
     case hxw12 => rfl
     case hkw12 => exact cint (dig_i1 hss h0) hir1
     case hltw12 => exact hk1
   conv => whnf
   refine bcase_intro (fun h1 => ?_) (fun h1 => ?_)
   ·have h1 : 2 * j + 2 ≤ s.size := gt1 h1
    have hir2 : IR ((s.size - 2 * j - 2 : Nat) : Int) := ir_nat (by omega)
    have hk2 : s.size - 2 * j - 2 < s.size := by omega
    conv => whnf
    conv =>
     arg 2
     tactic' =>
      apply eff_index_str (hi := hir2) (ho := ?how13) (hT := ?hTw13) (hx := ?hxw13) (hk := ?hkw13) (hlt := ?hltw13)
      case how13 => rfl
      case hTw13 => rfl
      case hxw13 => rfl
      case hkw13 => exact cint (dig_i2 hss h1) hir2
      case hltw13 => exact hk2
    conv => whnf
    refine .inl ?_
    conv => whnf
    refine ⟨rfl, ?_⟩
    conv => whnf
    refine ⟨⟨rfl,rfl,OI.size hI.r, fun _ => OI.room hI.r, hroom⟩, fun cap2 hcap2 => ?_⟩
    have hs := slok_f hcap2
    have hI2 := hI.two (cap := cap2) (hs := hs) h1
    conv => whnf
    refine ⟨[0,3], [1,3,5], [0,1], fun vs2 => ?_⟩
    conv => whnf
    refine ⟨fun _ _=>rfl,pureL_append (isC_pure _) (fun _ _=>rfl), ?_⟩
    conv => whnf
    refine ⟨_, _, ?_, ?_, ⟨(j + 1, OI.snoc o.l ((s.data[s.size - 2 * j - 1]?.getD 0).toNat + 256 * (s.data[s.size - 2 * j - 2]?.getD 0).toNat) cap2 hs, vs2), hI2⟩, (by omega : s.size + 1 - 2 * (j + 1) < s.size + 1 - 2 * j), rfl, rfl⟩
    ·exact ⟨fun _=>rfl,fun _=>rfl,fun _=>rfl,fun ρ => snoc_den hs rfl ρ ρ rfl, fun _=>rfl,sint_eq (dig_i3 hss h0) _ _, fun _=>rfl,fun _=>rfl,fun _=>rfl,fun _=>rfl,fun _=>rfl,fun _=>rfl,stm _⟩
    ·exact ⟨⟨rfl,rfl,rfl, fun _=>rfl⟩, ⟨rfl, andf _, snoc_tl, fun ρ => snoc_cells hI.r (iC_eq (two_lt _ _) (two_raw _ _)) ρ⟩, trivial⟩
   ·have h1 : s.size ≤ 2 * j + 1 := ngt1 h1
    have h2 : 2 * j + 1 = s.size := by omega
    conv => whnf
    refine .inl ?_
    conv => whnf
    refine ⟨rfl, ?_⟩
    conv => whnf
    refine ⟨⟨rfl,rfl,OI.size hI.r, fun _ => OI.room hI.r, hroom⟩, fun cap2 hcap2 => ?_⟩
    have hs := slok_f hcap2
    have hI2 := hI.one (cap := cap2) (hs := hs) h2
    conv => whnf
    refine ⟨[0,3], [1,3,5], [0,1], fun vs2 => ?_⟩
    conv => whnf
    refine ⟨fun _ _=>rfl,pureL_append (isC_pure _) (fun _ _=>rfl), ?_⟩
    conv => whnf
    refine ⟨_, _, ?_, ?_, ⟨(j + 1, OI.snoc o.l ((s.data[s.size - 2 * j - 1]?.getD 0).toNat) cap2 hs, vs2), hI2⟩, (by omega : s.size + 1 - 2 * (j + 1) < s.size + 1 - 2 * j), rfl, rfl⟩
    ·exact ⟨fun _=>rfl,fun _=>rfl,fun _=>rfl,fun ρ => snoc_den hs rfl ρ ρ rfl, fun _=>rfl,sint_eq (dig_i3 hss h0) _ _, fun _=>rfl,fun _=>rfl,fun _=>rfl,fun _=>rfl,fun _=>rfl,fun _=>rfl,stm _⟩
    ·exact ⟨⟨rfl,rfl,rfl, fun _=>rfl⟩, ⟨rfl, andf _, snoc_tl, fun ρ => snoc_cells hI.r (iC_eq (one_lt _) (one_raw _)) ρ⟩, trivial⟩
  ·have h0 : s.size ≤ 2 * j := ngt0 h0
   have hvf : val RB o.l = mval s.data.toList := by have := hI.hv; rwa [show s.size - 2 * j = 0 by omega, List.drop_zero] at this
   conv => whnf
   refine ⟨⟨isC_pure _, trivial⟩, ⟨_, _, _, _, _, _, _, o.l, rfl,rfl,rfl, IAt.ow o, hI.dl, fun h3 => ?_⟩⟩
   conv => whnf
   refine ⟨[1], [0], fun vs9 => ?_⟩
   conv => whnf
   refine ⟨isC_pure _, ?_⟩
   conv => whnf
   exact ⟨_, [(o.cut h3).blk], rfl, ⟨by rw [OI.cut_blk]; exact ⟨rfl,rfl,rfl, fun _=>rfl⟩, trivial⟩, ⟨OI.new _, trivial⟩, _, fun ρ => OI.cut_sl 0 ρ, hc _ (by rw [OI.cut_l hI.dl, hvf])⟩
end Go.Proofs.YtocbklodkcdhkaaGreatDoor

namespace Go.Proofs.YtocbklodkcdhkaaGreatDoor
open Go.RowKit
set_option maxRecDepth 100000

def dComp : Dr
 | [.c (.sli _ b1 off1 len1 _ _), .c (.sli _ b2 off2 len2 _ _)], hf => (match hf b1, hf b2 with
  | some k1, some k2 => some (some (∃ la lb, (IAt k1.cs off1 la ∧ la.length = len1 ∧ la = dig RB (val RB la) ∧ len1 ≤ 1000000000) ∧ IAt k2.cs off2 lb ∧ lb.length = len2 ∧ lb = dig RB (val RB lb) ∧ len2 ≤ 1000000000), .c (.int (cmpE (val RB (isOf k1.cs off1 len1)) (val RB (isOf k2.cs off2 len2))) (cmpE_ir _ _)))
  | _, _ => none)
 | _, _ => none
theorem cmpN_E (m n : Nat) : cmpN m n = cmpE m n := by unfold cmpN cmpE; rfl
theorem spComp : SpR Tryz.prog 92 dComp := by
 refine ⟨⟨_, Tryz.func92, by kernel_rfl, by kernel_rfl⟩, fun args hf p v hd => ?_⟩
 unfold dComp at hd
 split at hd
 ·rename_i nl1 b1 off1 len1 cap1 hs1 nl2 b2 off2 len2 cap2 hs2
  split at hd
  ·rename_i k1 k2 hb1 hb2
   cases hd
   refine ⟨fun _ _=>rfl,fun hp ρ w hh => ?_⟩
   obtain ⟨la, lb, ⟨w1, e1, d1, s1⟩, w2, e2, d2, s2⟩ := hp _ rfl
   subst e1; subst e2
   have dl1 : Dl RB la := by rw [d1]; exact dig_Dl RB_two _
   have dl2 : Dl RB lb := by rw [d2]; exact dig_Dl RB_two _
   have hr1 := iat_wd (hh b1 k1 hb1).1 w1 dl1 hs1
   have hr2 := iat_wd (hh b2 k2 hb2).1 w2 dl2 hs2
   rw [d1] at hr1
   rw [d2] at hr2
   have := compare_any (val RB la) (val RB lb) _ _ la.length lb.length cap1 cap2 w hr1 hr2 (congrArg List.length d1).symm (congrArg List.length d2).symm s1 s2
   rw [cmpN_E] at this
   refine this.mono fun e w' h => ⟨?_, h.2⟩
   rw [h.1]
   show Ending.returned (Value.int .i64 (cmpE (val RB la) (val RB lb))) = Ending.returned (Value.int .i64 (cmpE (val RB (isOf k1.cs off1 la.length)) (val RB (isOf k2.cs off2 lb.length))))
   rw [isOf_eq w1 dl1, isOf_eq w2 dl2]
  ·cases hd
 ·cases hd
def cBy : NewC := fun args ros K => ∃ nla offa lena capa ha tya csa la, ∃ (d : Nat) (z : Int) (hd : IR z), args = [.c (.sli nla 0 offa lena capa ha), .c (.int z hd)] ∧ ros = [⟨tya, true, csa, 0⟩] ∧ la.length = lena ∧ IAt csa offa la ∧ Dl RB la ∧ lena ≤ 100000000 ∧ d < 65536 ∧ z = d ∧ ∀ o : OI, o.nl = false → o.l = dig RB (val RB la * d) → K (o.sl 1) [o.blk]
theorem IAt.word {d : Nat} {z : Int} {hz : IR z} (hd : d < 65536) (e : z = d) : IAt [C.int z hz] 0 [d] := by
 rw [show [C.int z hz] = isC [d] from by rw [iC_eq hd e]; rfl]; exact IAt.mk' [d]
def timesC : List (FuncId × NewC) := [(107, cTimes)]
theorem timesC_ok : AllC Tryz.prog timesC := .cons csTimes .nil
set_option maxHeartbeats 8000000 in
theorem csBy : CSp Tryz.prog 93 cBy := csp_of (envA_ok 0) mixed (mix_ok timesC_ok (envA_ok 0) mixed noF_ok 0) ⟨Tryz.func93, by kernel_rfl, by kernel_rfl⟩ fun args ros K hc => by
 obtain ⟨nla, offa, _, capa, ha, tya, csa, la, d, z, hd, rfl,rfl,rfl, hwa, da, sa, hd16, hz, hc⟩ := hc
 refine ⟨fun ρ ρ' e => ?_, ?_⟩
 ·have e0 := e 0 (show 0 < 1 by decide)
  simp only [List.map, SV.den, C.den, C.cells, e0]
 conv => whnf
 refine ⟨⟨hwa.1, fun _ _=>rfl,trivial⟩, ⟨_, _, _, _, _, _, _, la, _, _, _, _, _, _, _, [d], rfl,rfl,rfl,rfl,hwa, IAt.word hd16 hz, da, Dl.one (by rw [RB_eq]; exact hd16), by omega, by decide, trivial, fun o hnl ho => ?_⟩⟩
 conv => whnf
 rw [show val RB [d] = d by simp [val]] at ho
 refine ⟨[0,2], [0,1], fun vs9 => ?_⟩
 conv => whnf
 refine ⟨hwa.1, isC_pure _, ?_⟩
 conv => whnf
 exact ⟨_, [o.blk], rfl, ⟨⟨rfl,rfl,rfl, fun _=>rfl⟩, ⟨rfl,rfl,rfl, fun _=>rfl⟩, trivial⟩, ⟨OI.new _, trivial⟩, _, fun _=>rfl,hc o hnl ho⟩
end Go.Proofs.YtocbklodkcdhkaaGreatDoor
