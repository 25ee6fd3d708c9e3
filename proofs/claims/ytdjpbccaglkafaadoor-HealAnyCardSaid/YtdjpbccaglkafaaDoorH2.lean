/- law 05: cleaned: Clone and Compact walked in place. -/
import Derived.Test.YtdjpbccaglkafaaDoorH1
namespace Go.Proofs.YtdjpbccaglkafaaDoor
open Go.RowKit
set_option maxRecDepth 100000

/-- the reckoner's world here: maps, clear, append -/
def envH (un : Nat) (l : List (FuncId × Dn)) (r : List (FuncId × Dr)) : Env := { envR un l r with O := oClr tyT (oMap Tryd.prog tyT) }
theorem envH_ok {l : List (FuncId × Dn)} (hl : AllOk l) {r : List (FuncId × Dr)} (hr : AllR r) (un : Nat) : EOk Tryd.prog (envH un l r) := ⟨tyT_ok, (envR_ok hl hr un).D, oClr_ok tyT_ok (oMap_ok tyT_ok), (envR_ok hl hr un).R⟩
/-- the beginning of a list of points of the walk's own -/
structure OQ where
  full : List PT
  k : Nat
  nl : Bool
  cap : Nat
  tl : Nat
  ok : SliOk nl k cap
  hk : k ≤ full.length
  hn : nl = true → full = []
def OQ.l (o : OQ) : List PT := o.full.take o.k
def OQ.sl (o : OQ) (b : Nat) : SV := .c (.sli o.nl b 0 o.k o.cap o.ok)
def OQ.blk (o : OQ) : Blk := ⟨34, o.nl, ptsC o.full, o.tl⟩
theorem OQ.new (o : OQ) : NewB o.blk := by
  refine ⟨ptsC_pure o.full, ?_⟩
  cases h : o.nl with
  | false => exact .inl h
  | true =>
    right
    have := o.hn h
    unfold OQ.blk Blk.void
    rw [h, this]; rfl
def OQ.nil : OQ := ⟨[], 0, true, 0, 0, by unfold SliOk; decide, Nat.le_refl _, fun _ => rfl⟩
def cClean : NewC := fun args ros K => ∃ nl len cap h ty full, args = [.c (.sli nl 0 0 len cap h)] ∧ ros = [⟨.t ty, true, ptsC full, 0⟩] ∧ len ≤ full.length ∧ len ≤ 1000000000 ∧ ∀ o : OQ, o.l = cleanP (full.take len) → K (o.sl 1) [o.blk]
theorem cmpT_s {l : List PT} {k : Nat} (h : k < l.length) (he : k = 0 ∨ eqP l[k] (l[k - 1]'(by omega)) = false) : cmpT l (k + 1) = cmpT l k ++ [l[k]] := by
  conv => lhs; unfold cmpT
  rw [dif_pos h, if_pos he]
theorem cmpT_e {l : List PT} {k : Nat} (h : k < l.length) (h0 : k ≠ 0) (he : eqP l[k] (l[k - 1]'(by omega)) = true) : cmpT l (k + 1) = cmpT l k := by
  conv => lhs; unfold cmpT
  rw [dif_pos h, if_neg (by rintro (h1 | h1); exact h0 h1; rw [he] at h1; cases h1)]
theorem cmpT_take {l : List PT} {k : Nat} (h : k < l.length) (hc : cmpT l k = l.take k) (he : k = 0 ∨ eqP l[k] (l[k - 1]'(by omega)) = false) : cmpT l (k + 1) = l.take (k + 1) := by
  rw [cmpT_s h he, hc, List.take_succ_eq_append_getElem h]
theorem trim_lt2 {l : List PT} {n : Nat} (h : n < 2) : trimN l n = n := by
  match n, h with
  | 0, _ => rfl
  | 1, _ => rfl
theorem trim_eq {l : List PT} {n : Nat} (h2 : 2 ≤ n) (h : n ≤ l.length) (he : eqP (l[0]'(by omega)) (l[n - 1]'(by omega)) = true) : trimN l n = trimN l (n - 1) := by
  obtain ⟨m, rfl⟩ : ∃ m, n = m + 2 := ⟨n - 2, by omega⟩
  conv => lhs; unfold trimN
  rw [dif_pos (by omega), if_pos (by simpa using he)]; rfl
theorem trim_ne {l : List PT} {n : Nat} (h2 : 2 ≤ n) (h : n ≤ l.length) (he : eqP (l[0]'(by omega)) (l[n - 1]'(by omega)) = false) : trimN l n = n := by
  obtain ⟨m, rfl⟩ : ∃ m, n = m + 2 := ⟨n - 2, by omega⟩
  have he : eqP (l[0]'(by omega)) (l[m + 1]'(by omega)) = false := he
  unfold trimN
  rw [dif_pos (by omega), if_neg (by rw [he]; decide)]
/-- what the end's loop leaves -/
theorem clean_out {l full : List PT} {k m : Nat} (hk : k ≤ full.length) (h : full.take k = cmpT l l.length) (hm : m ≤ k) (ht : trimN (full.take k) k = m) : full.take m = cleanP l := by
  unfold cleanP
  rw [← h]
  have hl : (full.take k).length = k := by rw [List.length_take]; omega
  rw [hl, ht, List.take_take, Nat.min_eq_left hm]
theorem get_take {full : List PT} {k i : Nat} (hk : k ≤ full.length) (h : i < k) : (full.take k)[i]'(by rw [List.length_take]; omega) = full[i]'(by omega) := by
  rw [List.getElem_take]
theorem subC_p {l : List PT} {i : Nat} (hi : i < l.length) {o : Nat} (ho : o = i * 3) : subC (ptsC l) o 3 = some (ptC l[i]) := by subst ho; exact subC_pts l hi
theorem splice_p (l : List PT) {i : Nat} (hi : i < l.length) (p : PT) {o : Nat} (ho : o = i * 3) : spliceC (ptsC l) o (ptC p) = some (ptsC (l.set i p)) := by
  subst ho
  have e : ptsC l = ptsC (l.take i) ++ (ptC l[i] ++ ptsC (l.drop (i + 1))) := by
    have h : l = l.take i ++ (l[i] :: l.drop (i + 1)) := by rw [← List.drop_eq_getElem_cons hi, List.take_append_drop]
    rw [show ptsC l = ptsC (l.take i ++ (l[i] :: l.drop (i + 1))) by rw [← h], ptsC_append]
    rfl
  have e2 : ptsC (l.set i p) = ptsC (l.take i) ++ (ptC p ++ ptsC (l.drop (i + 1))) := by
    rw [List.set_eq_take_append_cons_drop, if_pos hi, ptsC_append]; rfl
  have s : sizeC (ptsC (l.take i)) = i * 3 := by rw [ptsC_size]; simp; omega
  rw [e, e2, ← s]
  exact spliceC_app _ (ptC l[i]) _ _ rfl
noncomputable def fxCl : FuncId → Option Func := lk [(38, Tryd.f38), (37, Tryd.f37)]
theorem fxCl_ok : ∀ f fn, fxCl f = some fn → FnOk Tryd.prog f fn := lkF_ok fun x hx => by
  simp only [List.mem_cons, List.not_mem_nil, or_false] at hx
  rcases hx with rfl | rfl
  · exact ⟨Tryd.func38, by kernel_rfl, by kernel_rfl⟩
  · exact ⟨Tryd.func37, by kernel_rfl, by kernel_rfl⟩
theorem ir_g {k : Nat} (h : k ≤ 1000000000) : IR k := by unfold IR; omega
theorem ir_z0 : IR ((0 : Nat) : Int) := by decide
theorem SliOk.mono {nl : Bool} {n m cap : Nat} (h : SliOk nl n cap) (hm : m ≤ n) : SliOk nl m cap := ⟨Nat.le_trans hm h.1, h.2.1, h.2.2⟩
theorem wrap_sub1 {m : Nat} (h : 1 ≤ m) (hb : m ≤ 1000000000) : IntKind.i64.wrap ((m : Int) - 1) = ((m - 1 : Nat) : Int) := by
  rw [wrap_id (by unfold IR; omega)]; omega
theorem sli_len {nl : Bool} {b off n m cap : Nat} {h1 : SliOk nl n cap} {h2 : SliOk nl m cap} (e : n = m) (ρ : Rho) : (SV.c (.sli nl b off n cap h1)).den ρ = (SV.c (.sli nl b off m cap h2)).den ρ := by subst e; rfl
theorem sli_off {nl : Bool} {b o1 o2 n cap : Nat} {h1 h2 : SliOk nl n cap} (e : o1 = o2) (ρ : Rho) : (SV.c (.sli nl b o1 n cap h1)).den ρ = (SV.c (.sli nl b o2 n cap h2)).den ρ := by subst e; rfl
theorem slOff_lt {esz l m : Nat} (h : l < m) : slOff 0 esz l m = l * esz := by
  unfold slOff
  cases l with
  | zero => simp
  | succ l =>
    show (if m = l + 1 then 0 else 0 + (l + 1) * esz) = _
    rw [if_neg (by omega), Nat.zero_add]
theorem cmp_ir {a b len : Nat} (h : a ≤ b) (h' : b ≤ len) (hb : len ≤ 1000000000) : a ≤ 1000000000 := by omega
theorem cmp_small {l : List PT} {n : Nat} (hn : l.length = n) (h : n < 2) : l.take n = cmpT l l.length := by
  rw [hn]
  match n, h with
  | 0, _ => rfl
  | 1, _ => exact (cmpT_take (k := 0) (by omega) rfl (.inl rfl)).symm
/-- the cells while Compact works: what it has kept, then the old ones -/
def cur (l : List PT) (i : Nat) : List PT := cmpT l i ++ l.drop (cmpT l i).length
theorem cur_len {l : List PT} {i : Nat} (h : (cmpT l i).length ≤ l.length) : (cur l i).length = l.length := by unfold cur; rw [List.length_append, List.length_drop]; omega
theorem cur_0 {l : List PT} {k : Nat} (h1 : cmpT l (k + 1) = l.take k) (h2 : (cmpT l (k + 1)).length = k) : cur l (k + 1) = l := by unfold cur; rw [h2, h1, List.take_append_drop]
theorem cur_at {l : List PT} {i j : Nat} (h : (cmpT l i).length ≤ j) (hj : j < l.length) (hc : j < (cur l i).length) : (cur l i)[j] = l[j] := by
  rw [← Option.some_inj, ← List.getElem?_eq_getElem hc, ← List.getElem?_eq_getElem hj]
  show (cmpT l i ++ l.drop (cmpT l i).length)[j]? = l[j]?
  rw [List.getElem?_append_right h, List.getElem?_drop]
  congr 1; omega
theorem cur_same {l : List PT} {i j : Nat} (h : cmpT l i = cmpT l j) : cur l j = cur l i := by unfold cur; rw [h]
theorem cur_ne {Lp : List PT} {i : Nat} (hi : i < Lp.length) (h : (cmpT Lp i).length ≤ i - 1) (h1 : 1 ≤ i) (hc : i < (cur Lp i).length) (hE : (!eqP ((cur Lp i)[i]) ((cur Lp i)[i - 1]'(by omega))) = true) :
    cmpT Lp (i + 1) = cmpT Lp i ++ [(cur Lp i)[i]] ∧ cur Lp (i + 1) = (cur Lp i).set (cmpT Lp i).length ((cur Lp i)[i]) := by
  have e1 := cur_at (l := Lp) (i := i) (j := i) (by omega) hi hc
  have e2 := cur_at (l := Lp) (i := i) (j := i - 1) h (by omega) (by omega)
  rw [e1, e2, Bool.not_eq_true'] at hE
  have e3 := cmpT_s hi (.inr hE)
  refine ⟨by rw [e1]; exact e3, ?_⟩
  rw [e1]
  unfold cur
  rw [e3, List.length_append, List.length_singleton, List.set_append_right _ _ (Nat.le_refl _), Nat.sub_self]
  have hd : Lp.drop (cmpT Lp i).length = Lp[(cmpT Lp i).length]'(by omega) :: Lp.drop ((cmpT Lp i).length + 1) := List.drop_eq_getElem_cons (by omega)
  rw [hd, List.set_cons_zero, List.append_assoc]; rfl
theorem cur_eq {Lp : List PT} {i : Nat} (hi : i < Lp.length) (h : (cmpT Lp i).length ≤ i - 1) (h1 : 1 ≤ i) (hc : i < (cur Lp i).length) (hE : (!eqP ((cur Lp i)[i]) ((cur Lp i)[i - 1]'(by omega))) = false) : cmpT Lp (i + 1) = cmpT Lp i := by
  have e1 := cur_at (l := Lp) (i := i) (j := i) (by omega) hi hc
  have e2 := cur_at (l := Lp) (i := i) (j := i - 1) h (by omega) (by omega)
  rw [e1, e2] at hE
  exact cmpT_e hi (by omega) (by simpa using hE)
theorem cmp_inc {l m : List PT} {p : PT} (h : m = l ++ [p]) (hn : l.length ≤ 1000000000) : IntKind.i64.wrap ((l.length : Nat) + 1) = ((m.length : Nat) : Int) := by
  rw [h, List.length_append, wrap_id (by unfold IR; omega)]; rfl
def pt0 : PT := ⟨0, 0, 0, by decide, by decide, by decide⟩
theorem pure_clr (l : List PT) (n : Nat) : PureL (ptsC l ++ (repC n [zi, zi, zi] ++ [])) := by
  have h : ∀ n, PureL (repC n [zi, zi, zi]) := fun n => by
    induction n with
    | zero => exact fun _ _ => rfl
    | succ n ih => exact pureL_append (fun _ _ => rfl) ih
  rw [List.append_nil]
  exact pureL_append (ptsC_pure _) (h n)
theorem rep_pts : ∀ n, ptsC (List.replicate n pt0) = repC n [zi, zi, zi]
  | 0 => rfl
  | n + 1 => by rw [List.replicate_succ, ptsC, rep_pts n]; rfl
set_option maxHeartbeats 8000000 in
theorem csClean : CSp Tryd.prog 28 cClean := csp_of (envH_ok baseF4_ok .nil 0) mixed (inl_ok (envH_ok baseF4_ok .nil 0) mixed fxCl_ok 1) ⟨Tryd.func28, by kernel_rfl, by kernel_rfl⟩ fun args ros K hc => by
  obtain ⟨nl, len, cap, hl, ty, full, rfl, rfl, hlen, hbig, hc⟩ := hc
  refine ⟨fun ρ ρ' e => ?_, ?_⟩
  · have := e 0 (Nat.zero_lt_one)
    simp only [List.map, SV.den, C.den, C.cells, this]
  conv => whnf
  refine bcase_intro (fun hnl => ?_) (fun hnl => ?_)
  · subst hnl
    have hl0 : len = 0 := by have h1 := hl.1; have h2 := hl.2.2 rfl; omega
    subst hl0
    conv => whnf
    refine .inl ⟨1, ?_⟩
    conv => whnf
    refine ⟨[0, 1000 + 34], [0], fun vs4 => ?_⟩
    conv => whnf
    refine ⟨ptsC_pure _, ?_⟩
    conv => whnf
    exact ⟨_, [OQ.nil.blk], rfl, ⟨⟨rfl, rfl, rfl, fun _ => rfl⟩, ⟨rfl, rfl, rfl, fun _ => rfl⟩, trivial⟩, ⟨OQ.new _, trivial⟩, OQ.nil.sl 1, fun _ => rfl, hc _ rfl⟩
  · subst hnl
    obtain ⟨Lp, hLp⟩ : ∃ Lp, Lp = full.take len := ⟨_, rfl⟩
    have hN : Lp.length = len := by rw [hLp, List.length_take]; omega
    conv => whnf
    refine .inl ?_
    conv => whnf
    rw [subC_pts_take full hlen, ← hLp]
    conv => whnf
    refine ⟨allOne_pts _, ?_⟩
    conv => whnf
    refine ⟨⟨rfl, rfl, rfl, fun _ => rfl, by omega⟩, fun c2 k2 => ?_⟩
    have hs : SliOk false len c2 := by have h := k2; rw [Nat.zero_add] at h; exact h
    rw [← hLp] at hc
    conv => whnf
    refine bcase_intro (fun hlt2 => ?_) (fun hlt2 => ?_)
    · have hlt2 : len < 2 := by have := of_decide_eq_true hlt2; omega
      have hcm : Lp.take len = cmpT Lp Lp.length := cmp_small hN hlt2
      conv => whnf
      refine loop_st (G := {m : Nat // m ≤ len ∧ trimN (Lp.take len) len = trimN (Lp.take len) m} × (Nat → Value)) (fun g => (.c (.val (g.2 0)) :: .c (.val (g.2 1)) :: .c (.val (g.2 2)) :: .c (.sli false 2 0 g.1.1 c2 (hs.mono g.1.2.1)) :: .c (.val (g.2 4)) :: .c (.val (g.2 5)) :: .c (.val (g.2 6)) :: .c (.val (g.2 7)) :: .c (.val (g.2 8)) :: .c (.val (g.2 9)) :: .c (.val (g.2 10)) :: .c (.val (g.2 11)) :: .c (.val (g.2 12)) :: .c (.val (g.2 13)) :: .c (.val (g.2 14)) :: .c (.val (g.2 15)) :: .c (.val (g.2 16)) :: .c (.val (g.2 17)) :: .c (.val (g.2 18)) :: .c (.val (g.2 19)) :: .c (.val (g.2 20)) :: .c (.val (g.2 21)) :: .c (.val (g.2 22)) :: .c (.val (g.2 23)) :: .c (.val (g.2 24)) :: .c (.val (g.2 25)) :: .c (.val (g.2 26)) :: .c (.val (g.2 27)) :: [])) (fun _ => [⟨.t ty, true, ptsC full, 0⟩, ⟨34, true, [], 0⟩, ⟨34, false, ptsC Lp, ((c2 - len) * 3)⟩]) (fun g => g.1.1) ?_ ?_
      · refine ⟨[0, 1, 2], [3], [0, 1, 2], fun vs3 => ?_⟩
        conv => whnf
        refine ⟨ptsC_pure _, fun _ _ => rfl, ptsC_pure _, ?_⟩
        conv => whnf
        refine ⟨_, _, ?_, ?_, (⟨len, Nat.le_refl _, rfl⟩, vs3), rfl, rfl⟩
        · exact ⟨fun _ => rfl, fun _ => rfl, fun _ => rfl, fun ρ => sli_len (Nat.zero_add len) ρ, stm _⟩
        · exact ⟨⟨rfl, rfl, rfl, fun _ => rfl⟩, ⟨rfl, rfl, rfl, fun _ => rfl⟩, ⟨rfl, rfl, by rw [Nat.zero_add], fun _ => rfl⟩, trivial⟩
      · rintro ⟨⟨m, hm, ht⟩, vs3⟩
        have hm : m ≤ len := hm
        have ht : trimN (Lp.take len) len = trimN (Lp.take len) m := ht
        dsimp only
        conv => whnf
        refine bcase_intro (fun h2 => ?_) (fun h2 => ?_)
        · have h2 : 2 ≤ m := by have := of_decide_eq_true h2; omega
          conv => whnf
          conv =>
            arg 2
            tactic' =>
              apply eff_index_sli (k := 0) (hi := ir_z0) (ho := ?how1) (hT := ?hTw1) (hx := ?hxw1) (hk := ?hkw1) (hlt := ?hltw1)
              case how1 => rfl
              case hTw1 => rfl
              case hxw1 => rfl
              case hkw1 => rfl
              case hltw1 => exact (by omega)
          conv => whnf
          conv =>
            arg 2
            tactic' =>
              apply eff_load_sub (ho := ?how2) (hT := ?hTw2) (hx := ?hxw2) (hb := ?hbw2) (hm := ?hmw2) (hv := ?hvw2)
              case how2 => rfl
              case hTw2 => rfl
              case hxw2 => rfl
              case hbw2 => rfl
              case hmw2 => exact subC_p (i := 0) (by omega) (by omega)
              case hvw2 => rfl
          conv => whnf
          conv =>
            arg 2
            tactic' =>
              apply eff_index_sli (k := m - 1) (hi := ir_g (by omega)) (ho := ?how3) (hT := ?hTw3) (hx := ?hxw3) (hk := ?hkw3) (hlt := ?hltw3)
              case how3 => rfl
              case hTw3 => rfl
              case hxw3 => rfl
              case hkw3 => exact cint (wrap_sub1 (m := m) (by omega) (by omega)) (ir_g (by omega))
              case hltw3 => exact (by omega)
          conv => whnf
          conv =>
            arg 2
            tactic' =>
              apply eff_load_sub (ho := ?how4) (hT := ?hTw4) (hx := ?hxw4) (hb := ?hbw4) (hm := ?hmw4) (hv := ?hvw4)
              case how4 => rfl
              case hTw4 => rfl
              case hxw4 => rfl
              case hbw4 => rfl
              case hmw4 => exact subC_p (i := m - 1) (by omega) (by omega)
              case hvw4 => rfl
          conv => whnf
          refine bcase_intro (fun hE => ?_) (fun hE => ?_)
          · have hE : eqP ((Lp.take len)[0]'(by rw [List.length_take]; omega)) ((Lp.take len)[m - 1]'(by rw [List.length_take]; omega)) = true := by rw [get_take (Nat.le_of_eq hN.symm) (by omega), get_take (Nat.le_of_eq hN.symm) (by omega)]; exact hE
            conv => whnf
            conv =>
              arg 2
              tactic' =>
                apply eff_slice_hi (k := m - 1) (hi := ir_g (by omega)) (h2 := hs.mono (by omega)) (ho := ?how5) (hT := ?hTw5) (hx := ?hxw5) (hk := ?hkw5) (hlt := ?hltw5)
                case how5 => rfl
                case hTw5 => rfl
                case hxw5 => rfl
                case hkw5 => exact cint (wrap_sub1 (m := m) (by omega) (by omega)) (ir_g (by omega))
                case hltw5 => exact (by have := hs.1; omega)
            conv => whnf
            refine ⟨[0, 1, 2], [3], [0, 1, 2], fun vs4 => ?_⟩
            conv => whnf
            refine ⟨ptsC_pure _, fun _ _ => rfl, ptsC_pure _, ?_⟩
            conv => whnf
            refine ⟨_, _, ?_, ?_, (⟨m - 1, by omega, ht.trans (trim_eq h2 (by rw [List.length_take]; omega) hE)⟩, vs4), (by omega : m - 1 < m), rfl, rfl⟩
            · exact ⟨fun _ => rfl, fun _ => rfl, fun _ => rfl, fun _ => rfl, stm _⟩
            · exact ⟨⟨rfl, rfl, rfl, fun _ => rfl⟩, ⟨rfl, rfl, rfl, fun _ => rfl⟩, ⟨rfl, rfl, rfl, fun _ => rfl⟩, trivial⟩
          · have hE : eqP ((Lp.take len)[0]'(by rw [List.length_take]; omega)) ((Lp.take len)[m - 1]'(by rw [List.length_take]; omega)) = false := by rw [get_take (Nat.le_of_eq hN.symm) (by omega), get_take (Nat.le_of_eq hN.symm) (by omega)]; exact hE
            conv => whnf
            refine ⟨[0, 2], [0, 1], fun vs4 => ?_⟩
            conv => whnf
            refine ⟨ptsC_pure _, ptsC_pure _, ?_⟩
            conv => whnf
            refine ⟨_, [(OQ.mk Lp m false c2 ((c2 - len) * 3) (hs.mono hm) (by omega) (fun h => by cases h)).blk], rfl, ⟨⟨rfl, rfl, rfl, fun _ => rfl⟩, ⟨rfl, rfl, rfl, fun _ => rfl⟩, trivial⟩, ⟨OQ.new _, trivial⟩, (OQ.mk Lp m false c2 ((c2 - len) * 3) (hs.mono hm) (by omega) (fun h => by cases h)).sl 1, fun _ => rfl, hc _ (clean_out (Nat.le_of_eq hN.symm) hcm hm (ht.trans (trim_ne h2 (by rw [List.length_take]; omega) hE)))⟩
        · have h2 : m < 2 := by have := of_decide_eq_false h2; omega
          conv => whnf
          refine ⟨[0, 2], [0, 1], fun vs4 => ?_⟩
          conv => whnf
          refine ⟨ptsC_pure _, ptsC_pure _, ?_⟩
          conv => whnf
          refine ⟨_, [(OQ.mk Lp m false c2 ((c2 - len) * 3) (hs.mono hm) (by omega) (fun h => by cases h)).blk], rfl, ⟨⟨rfl, rfl, rfl, fun _ => rfl⟩, ⟨rfl, rfl, rfl, fun _ => rfl⟩, trivial⟩, ⟨OQ.new _, trivial⟩, (OQ.mk Lp m false c2 ((c2 - len) * 3) (hs.mono hm) (by omega) (fun h => by cases h)).sl 1, fun _ => rfl, hc _ (clean_out (Nat.le_of_eq hN.symm) hcm hm (ht.trans (trim_lt2 h2)))⟩
    · have hlt2 : 2 ≤ len := by have := of_decide_eq_false hlt2; omega
      conv => whnf
      refine loop_st (G := {k : Nat // 1 ≤ k ∧ k ≤ len ∧ cmpT Lp k = Lp.take k} × (Nat → Value)) (fun g => (.c (.sli false 2 0 len c2 hs) :: .c (.val (g.2 1)) :: .c (.val (g.2 2)) :: .c (.int (g.1.1 : Nat) (ir_g (Nat.le_trans g.1.2.2.1 hbig))) :: .c (.val (g.2 4)) :: .c (.val (g.2 5)) :: .c (.val (g.2 6)) :: .c (.val (g.2 7)) :: .c (.val (g.2 8)) :: .c (.val (g.2 9)) :: .c (.val (g.2 10)) :: .c (.val (g.2 11)) :: .c (.val (g.2 12)) :: .c (.val (g.2 13)) :: .c (.val (g.2 14)) :: .c (.val (g.2 15)) :: .c (.val (g.2 16)) :: .c (.val (g.2 17)) :: .c (.val (g.2 18)) :: .c (.val (g.2 19)) :: .c (.val (g.2 20)) :: .c (.val (g.2 21)) :: .c (.val (g.2 22)) :: .c (.val (g.2 23)) :: .c (.val (g.2 24)) :: .c (.val (g.2 25)) :: .c (.val (g.2 26)) :: .c (.val (g.2 27)) :: .c (.val (g.2 28)) :: .c (.val (g.2 29)) :: .c (.val (g.2 30)) :: .c (.val (g.2 31)) :: .c (.val (g.2 32)) :: .c (.val (g.2 33)) :: .c (.val (g.2 34)) :: .c (.val (g.2 35)) :: .c (.val (g.2 36)) :: .c (.val (g.2 37)) :: .c (.val (g.2 38)) :: .c (.val (g.2 39)) :: .c (.val (g.2 40)) :: .c (.val (g.2 41)) :: .c (.val (g.2 42)) :: .c (.val (g.2 43)) :: .c (.val (g.2 44)) :: .c (.val (g.2 45)) :: .c (.val (g.2 46)) :: .c (.val (g.2 47)) :: .c (.val (g.2 48)) :: .c (.val (g.2 49)) :: .c (.val (g.2 50)) :: .c (.val (g.2 51)) :: .c (.val (g.2 52)) :: .c (.val (g.2 53)) :: .c (.val (g.2 54)) :: .c (.val (g.2 55)) :: .c (.val (g.2 56)) :: .c (.val (g.2 57)) :: .c (.val (g.2 58)) :: .c (.val (g.2 59)) :: .c (.val (g.2 60)) :: [])) (fun _ => [⟨.t ty, true, ptsC full, 0⟩, ⟨34, true, [], 0⟩, ⟨34, false, ptsC Lp, ((c2 - len) * 3)⟩]) (fun g => len - g.1.1) ?_ ?_
      · refine ⟨[0, 1, 2], [0, 3], [0, 1, 2], fun vs1 => ?_⟩
        conv => whnf
        refine ⟨ptsC_pure _, fun _ _ => rfl, ptsC_pure _, ?_⟩
        conv => whnf
        refine ⟨_, _, ?_, ?_, (⟨1, Nat.le_refl _, by omega, cmpT_take (by omega) rfl (.inl rfl)⟩, vs1), rfl, rfl⟩
        · exact ⟨fun ρ => sli_len (Nat.zero_add len) ρ, fun _ => rfl, fun _ => rfl, fun _ => rfl, stm _⟩
        · exact ⟨⟨rfl, rfl, rfl, fun _ => rfl⟩, ⟨rfl, rfl, rfl, fun _ => rfl⟩, ⟨rfl, rfl, by rw [Nat.zero_add], fun _ => rfl⟩, trivial⟩
      · rintro ⟨⟨k, hk1, hk, hC⟩, vs1⟩
        have hk1 : 1 ≤ k := hk1
        have hk : k ≤ len := hk
        have hC : cmpT Lp k = Lp.take k := hC
        dsimp only
        conv => whnf
        refine bcase_intro (fun hlt => ?_) (fun hlt => ?_)
        · have hlt : k < len := n_lt hlt
          conv => whnf
          conv =>
            arg 2
            tactic' =>
              apply eff_index_sli (ho := ?how6) (hT := ?hTw6) (hx := ?hxw6) (hk := ?hkw6) (hlt := ?hltw6)
              case how6 => rfl
              case hTw6 => rfl
              case hxw6 => rfl
              case hkw6 => rfl
              case hltw6 => exact hlt
          conv => whnf
          conv =>
            arg 2
            tactic' =>
              apply eff_load_sub (ho := ?how7) (hT := ?hTw7) (hx := ?hxw7) (hb := ?hbw7) (hm := ?hmw7) (hv := ?hvw7)
              case how7 => rfl
              case hTw7 => rfl
              case hxw7 => rfl
              case hbw7 => rfl
              case hmw7 => exact subC_p (i := k) (by omega) (by omega)
              case hvw7 => rfl
          conv => whnf
          conv =>
            arg 2
            tactic' =>
              apply eff_index_sli (k := k - 1) (hi := ir_g (by omega)) (ho := ?how8) (hT := ?hTw8) (hx := ?hxw8) (hk := ?hkw8) (hlt := ?hltw8)
              case how8 => rfl
              case hTw8 => rfl
              case hxw8 => rfl
              case hkw8 => exact cint (wrap_sub1 (m := k) (by omega) (by omega)) (ir_g (by omega))
              case hltw8 => exact (by omega)
          conv => whnf
          conv =>
            arg 2
            tactic' =>
              apply eff_load_sub (ho := ?how9) (hT := ?hTw9) (hx := ?hxw9) (hb := ?hbw9) (hm := ?hmw9) (hv := ?hvw9)
              case how9 => rfl
              case hTw9 => rfl
              case hxw9 => rfl
              case hbw9 => rfl
              case hmw9 => exact subC_p (i := k - 1) (by omega) (by omega)
              case hvw9 => rfl
          conv => whnf
          refine bcase_intro (fun hE => ?_) (fun hE => ?_)
          · have hE : eqP (Lp[k]'(by omega)) (Lp[k - 1]'(by omega)) = true := hE
            conv => whnf
            conv =>
              arg 2
              tactic' =>
                apply eff_slice_lo (k := k) (hi := ir_g (by omega)) (ho := ?how25) (hT := ?hTw25) (hx := ?hxw25) (hk := ?hkw25) (hlt := ?hltw25)
                case how25 => rfl
                case hTw25 => rfl
                case hxw25 => rfl
                case hkw25 => rfl
                case hltw25 => exact hk
            conv => whnf
            refine loop_st (G := {j : Nat // 1 ≤ j ∧ k + j ≤ len ∧ (cmpT Lp (k + j)).length ≤ k + j - 1} × (Nat → Value)) (fun g => (.c (.sli false 2 0 len c2 hs) :: .c (.val (g.2 1)) :: .c (.val (g.2 2)) :: .c (.int ((cmpT Lp (k + g.1.1)).length : Nat) (ir_g (cmp_ir (cmpT_len Lp _) g.1.2.2.1 hbig))) :: .c (.sli false 2 (k * 3) (len - k) (c2 - k) (hs.sub ⟨hk, hs.1, Nat.le_refl _⟩)) :: .c (.int (g.1.1 : Nat) (ir_g (cmp_ir (Nat.le_add_left _ k) g.1.2.2.1 hbig))) :: .c (.val (g.2 6)) :: .c (.val (g.2 7)) :: .c (.val (g.2 8)) :: .c (.val (g.2 9)) :: .c (.val (g.2 10)) :: .c (.val (g.2 11)) :: .c (.val (g.2 12)) :: .c (.val (g.2 13)) :: .c (.val (g.2 14)) :: .c (.val (g.2 15)) :: .c (.val (g.2 16)) :: .c (.val (g.2 17)) :: .c (.val (g.2 18)) :: .c (.val (g.2 19)) :: .c (.val (g.2 20)) :: .c (.val (g.2 21)) :: .c (.val (g.2 22)) :: .c (.val (g.2 23)) :: .c (.val (g.2 24)) :: .c (.val (g.2 25)) :: .c (.val (g.2 26)) :: .c (.val (g.2 27)) :: .c (.val (g.2 28)) :: .c (.val (g.2 29)) :: .c (.val (g.2 30)) :: .c (.val (g.2 31)) :: .c (.val (g.2 32)) :: .c (.val (g.2 33)) :: .c (.val (g.2 34)) :: .c (.val (g.2 35)) :: .c (.val (g.2 36)) :: .c (.val (g.2 37)) :: .c (.val (g.2 38)) :: .c (.val (g.2 39)) :: .c (.val (g.2 40)) :: .c (.val (g.2 41)) :: .c (.val (g.2 42)) :: .c (.val (g.2 43)) :: .c (.val (g.2 44)) :: .c (.val (g.2 45)) :: .c (.val (g.2 46)) :: .c (.val (g.2 47)) :: .c (.val (g.2 48)) :: .c (.val (g.2 49)) :: .c (.val (g.2 50)) :: .c (.val (g.2 51)) :: .c (.val (g.2 52)) :: .c (.val (g.2 53)) :: .c (.val (g.2 54)) :: .c (.val (g.2 55)) :: .c (.val (g.2 56)) :: .c (.val (g.2 57)) :: .c (.val (g.2 58)) :: .c (.val (g.2 59)) :: .c (.val (g.2 60)) :: [])) (fun g => [⟨.t ty, true, ptsC full, 0⟩, ⟨34, true, [], 0⟩, ⟨34, false, ptsC (cur Lp (k + g.1.1)), ((c2 - len) * 3)⟩]) (fun g => len - (k + g.1.1)) ?_ ?_
            · refine ⟨[0, 1, 2], [0, 3, 4, 5], [0, 1, 2], fun vs2 => ?_⟩
              conv => whnf
              refine ⟨ptsC_pure _, fun _ _ => rfl, ptsC_pure _, ?_⟩
              conv => whnf
              have hC1 : cmpT Lp (k + 1) = Lp.take k := (cmpT_e (by omega) (by omega) hE).trans hC
              have hC2 : (cmpT Lp (k + 1)).length = k := by rw [hC1, List.length_take]; omega
              refine ⟨_, _, ?_, ?_, (⟨1, Nat.le_refl _, hlt, by omega⟩, vs2), rfl, rfl⟩
              · exact ⟨fun _ => rfl, fun _ => rfl, fun _ => rfl, fun ρ => sint_e (by rw [hC2]) ρ, fun ρ => sli_off (slOff_lt (by have := hs.1; omega)) ρ, fun _ => rfl, stm _⟩
              · exact ⟨⟨rfl, rfl, rfl, fun _ => rfl⟩, ⟨rfl, rfl, rfl, fun _ => rfl⟩, ⟨rfl, rfl, rfl, fun ρ => by rw [cur_0 hC1 hC2]⟩, trivial⟩
            · rintro ⟨⟨j, hj1, hj, hjl⟩, vs2⟩
              have hj1 : 1 ≤ j := hj1
              have hj : k + j ≤ len := hj
              have hjl : (cmpT Lp (k + j)).length ≤ k + j - 1 := hjl
              have hcl : (cur Lp (k + j)).length = len := by rw [cur_len (by omega)]; exact hN
              dsimp only
              conv => whnf
              refine bcase_intro (fun hlj => ?_) (fun hlj => ?_)
              · have hlj : j < len - k := n_lt hlj
                conv => whnf
                conv =>
                  arg 2
                  tactic' =>
                    apply eff_index_sli (ho := ?how10) (hT := ?hTw10) (hx := ?hxw10) (hk := ?hkw10) (hlt := ?hltw10)
                    case how10 => rfl
                    case hTw10 => rfl
                    case hxw10 => rfl
                    case hkw10 => rfl
                    case hltw10 => exact hlj
                conv => whnf
                conv =>
                  arg 2
                  tactic' =>
                    apply eff_load_sub (ho := ?how11) (hT := ?hTw11) (hx := ?hxw11) (hb := ?hbw11) (hm := ?hmw11) (hv := ?hvw11)
                    case how11 => rfl
                    case hTw11 => rfl
                    case hxw11 => rfl
                    case hbw11 => rfl
                    case hmw11 => exact subC_p (i := k + j) (by omega) (by omega)
                    case hvw11 => rfl
                conv => whnf
                conv =>
                  arg 2
                  tactic' =>
                    apply eff_index_sli (k := j - 1) (hi := ir_g (by omega)) (ho := ?how12) (hT := ?hTw12) (hx := ?hxw12) (hk := ?hkw12) (hlt := ?hltw12)
                    case how12 => rfl
                    case hTw12 => rfl
                    case hxw12 => rfl
                    case hkw12 => exact cint (wrap_sub1 (m := j) (by omega) (by omega)) (ir_g (by omega))
                    case hltw12 => exact (by omega)
                conv => whnf
                conv =>
                  arg 2
                  tactic' =>
                    apply eff_load_sub (ho := ?how13) (hT := ?hTw13) (hx := ?hxw13) (hb := ?hbw13) (hm := ?hmw13) (hv := ?hvw13)
                    case how13 => rfl
                    case hTw13 => rfl
                    case hxw13 => rfl
                    case hbw13 => rfl
                    case hmw13 => exact subC_p (i := k + j - 1) (by omega) (by omega)
                    case hvw13 => rfl
                conv => whnf
                refine bcase_intro (fun hE2 => ?_) (fun hE2 => ?_)
                · have hE2 : (!eqP ((cur Lp (k + j))[k + j]'(by omega)) ((cur Lp (k + j))[k + j - 1]'(by omega))) = true := hE2
                  have hE2 := cur_ne (Lp := Lp) (i := k + j) (by omega) hjl (by omega) (by omega) hE2
                  conv => whnf
                  conv =>
                    arg 2
                    tactic' =>
                      apply eff_index_sli (ho := ?how14) (hT := ?hTw14) (hx := ?hxw14) (hk := ?hkw14) (hlt := ?hltw14)
                      case how14 => rfl
                      case hTw14 => rfl
                      case hxw14 => rfl
                      case hkw14 => rfl
                      case hltw14 => exact hlj
                  conv => whnf
                  conv =>
                    arg 2
                    tactic' =>
                      apply eff_load_sub (ho := ?how15) (hT := ?hTw15) (hx := ?hxw15) (hb := ?hbw15) (hm := ?hmw15) (hv := ?hvw15)
                      case how15 => rfl
                      case hTw15 => rfl
                      case hxw15 => rfl
                      case hbw15 => rfl
                      case hmw15 => exact subC_p (i := k + j) (by omega) (by omega)
                      case hvw15 => rfl
                  conv => whnf
                  conv =>
                    arg 2
                    tactic' =>
                      apply eff_index_sli (k := (cmpT Lp (k + j)).length) (hi := ir_g (by omega)) (ho := ?how16) (hT := ?hTw16) (hx := ?hxw16) (hk := ?hkw16) (hlt := ?hltw16)
                      case how16 => rfl
                      case hTw16 => rfl
                      case hxw16 => rfl
                      case hkw16 => rfl
                      case hltw16 => exact (by omega)
                  conv => whnf
                  conv =>
                    arg 2
                    tactic' =>
                      apply eff_store_at (ho := ?how17) (hT := ?hTw17) (hx := ?hxw17) (hy := ?hyw17) (hl := ?hlw17) (hb := ?hbw17) (hro := ?hrow17) (hs := ?hsw17)
                      case how17 => rfl
                      case hTw17 => rfl
                      case hxw17 => rfl
                      case hyw17 => rfl
                      case hlw17 => exact ⟨rfl, rfl⟩
                      case hbw17 => rfl
                      case hrow17 => rfl
                      case hsw17 => exact splice_p _ (i := (cmpT Lp (k + j)).length) (by omega) _ (by omega)
                  conv => whnf
                  rw [forceL_eq]
                  conv => whnf
                  refine ⟨[0, 1, 2], [0, 3, 4, 5], [0, 1, 2], fun vs3 => ?_⟩
                  conv => whnf
                  refine ⟨ptsC_pure _, fun _ _ => rfl, ptsC_pure _, ?_⟩
                  conv => whnf
                  refine ⟨_, _, ?_, ?_, (⟨j + 1, by omega, by omega, by have := hE2.1; have := congrArg List.length hE2.1; rw [List.length_append] at this; simp at this; show (cmpT Lp (k + (j + 1))).length ≤ k + (j + 1) - 1; rw [← Nat.add_assoc]; omega⟩, vs3), (by omega : len - (k + (j + 1)) < len - (k + j)), rfl, rfl⟩
                  · exact ⟨fun _ => rfl, fun _ => rfl, fun _ => rfl, fun ρ => sint_e (cmp_inc hE2.1 (by omega)) ρ, fun _ => rfl, fun ρ => sint_e (wrap_add1 hlj (ir_g (by omega))) ρ, stm _⟩
                  · exact ⟨⟨rfl, rfl, rfl, fun _ => rfl⟩, ⟨rfl, rfl, rfl, fun _ => rfl⟩, ⟨rfl, rfl, rfl, fun ρ => by rw [← Nat.add_assoc, hE2.2]⟩, trivial⟩
                · have hE2 : (!eqP ((cur Lp (k + j))[k + j]'(by omega)) ((cur Lp (k + j))[k + j - 1]'(by omega))) = false := hE2
                  have hE2 := cur_eq (Lp := Lp) (i := k + j) (by omega) hjl (by omega) (by omega) hE2
                  conv => whnf
                  refine ⟨[0, 1, 2], [0, 3, 4, 5], [0, 1, 2], fun vs3 => ?_⟩
                  conv => whnf
                  refine ⟨ptsC_pure _, fun _ _ => rfl, ptsC_pure _, ?_⟩
                  conv => whnf
                  refine ⟨_, _, ?_, ?_, (⟨j + 1, by omega, by omega, by show (cmpT Lp (k + (j + 1))).length ≤ k + (j + 1) - 1; rw [← Nat.add_assoc, hE2]; omega⟩, vs3), (by omega : len - (k + (j + 1)) < len - (k + j)), rfl, rfl⟩
                  · exact ⟨fun _ => rfl, fun _ => rfl, fun _ => rfl, fun ρ => sint_e (by rw [← Nat.add_assoc, hE2]) ρ, fun _ => rfl, fun ρ => sint_e (wrap_add1 hlj (ir_g (by omega))) ρ, stm _⟩
                  · exact ⟨⟨rfl, rfl, rfl, fun _ => rfl⟩, ⟨rfl, rfl, rfl, fun _ => rfl⟩, ⟨rfl, rfl, rfl, fun ρ => by rw [← Nat.add_assoc, cur_same hE2]⟩, trivial⟩
              · have hjj : k + j = len := by have := n_ge hlj; omega
                have hcm : cmpT Lp (k + j) = cmpT Lp Lp.length := by rw [hjj, hN]
                conv => whnf
                conv =>
                  arg 2
                  tactic' =>
                    apply eff_slice_lo (k := (cmpT Lp (k + j)).length) (hi := ir_g (by omega)) (ho := ?how18) (hT := ?hTw18) (hx := ?hxw18) (hk := ?hkw18) (hlt := ?hltw18)
                    case how18 => rfl
                    case hTw18 => rfl
                    case hxw18 => rfl
                    case hkw18 => rfl
                    case hltw18 => exact (by omega)
                conv => whnf
                rw [slOff_lt (by have := hs.1; omega)]
                conv => whnf
                refine ⟨rfl, ptsC (cmpT Lp (k + j)), ptsC (Lp.drop (cmpT Lp (k + j)).length), [], by unfold cur; rw [ptsC_append, List.append_nil], by rw [ptsC_size]; omega, by rw [ptsC_size, List.length_drop]; omega, ?_⟩
                conv => whnf
                conv =>
                  arg 2
                  tactic' =>
                    apply eff_slice_hi (k := (cmpT Lp (k + j)).length) (hi := ir_g (by omega)) (h2 := hs.mono (by omega)) (ho := ?how19) (hT := ?hTw19) (hx := ?hxw19) (hk := ?hkw19) (hlt := ?hltw19)
                    case how19 => rfl
                    case hTw19 => rfl
                    case hxw19 => rfl
                    case hkw19 => rfl
                    case hltw19 => exact (by have := hs.1; omega)
                conv => whnf
                obtain ⟨FL, hFL⟩ : ∃ FL, FL = cmpT Lp (k + j) ++ List.replicate (len - (cmpT Lp (k + j)).length) pt0 := ⟨_, rfl⟩
                have hFk : (cmpT Lp (k + j)).length ≤ FL.length := by rw [hFL, List.length_append]; omega
                have hFt : FL.take (cmpT Lp (k + j)).length = cmpT Lp Lp.length := by rw [hFL, List.take_left]; exact hcm
                refine loop_st (G := {m : Nat // m ≤ (cmpT Lp (k + j)).length ∧ trimN (FL.take (cmpT Lp (k + j)).length) (cmpT Lp (k + j)).length = trimN (FL.take (cmpT Lp (k + j)).length) m} × (Nat → Value)) (fun g => (.c (.val (g.2 0)) :: .c (.val (g.2 1)) :: .c (.val (g.2 2)) :: .c (.sli false 2 0 g.1.1 c2 ((hs.mono (show (cmpT Lp (k + j)).length ≤ len by omega)).mono g.1.2.1)) :: .c (.val (g.2 4)) :: .c (.val (g.2 5)) :: .c (.val (g.2 6)) :: .c (.val (g.2 7)) :: .c (.val (g.2 8)) :: .c (.val (g.2 9)) :: .c (.val (g.2 10)) :: .c (.val (g.2 11)) :: .c (.val (g.2 12)) :: .c (.val (g.2 13)) :: .c (.val (g.2 14)) :: .c (.val (g.2 15)) :: .c (.val (g.2 16)) :: .c (.val (g.2 17)) :: .c (.val (g.2 18)) :: .c (.val (g.2 19)) :: .c (.val (g.2 20)) :: .c (.val (g.2 21)) :: .c (.val (g.2 22)) :: .c (.val (g.2 23)) :: .c (.val (g.2 24)) :: .c (.val (g.2 25)) :: .c (.val (g.2 26)) :: .c (.val (g.2 27)) :: [])) (fun _ => [⟨.t ty, true, ptsC full, 0⟩, ⟨34, true, [], 0⟩, ⟨34, false, ptsC FL, ((c2 - len) * 3)⟩]) (fun g => g.1.1) ?_ ?_
                · refine ⟨[0, 1, 2], [3], [0, 1, 2], fun vs3 => ?_⟩
                  conv => whnf
                  refine ⟨ptsC_pure _, fun _ _ => rfl, pure_clr _ _, ?_⟩
                  conv => whnf
                  refine ⟨_, _, ?_, ?_, (⟨(cmpT Lp (k + j)).length, Nat.le_refl _, rfl⟩, vs3), rfl, rfl⟩
                  · exact ⟨fun _ => rfl, fun _ => rfl, fun _ => rfl, fun _ => rfl, stm _⟩
                  · exact ⟨⟨rfl, rfl, rfl, fun _ => rfl⟩, ⟨rfl, rfl, rfl, fun _ => rfl⟩, ⟨rfl, rfl, rfl, fun ρ => by rw [List.append_nil, hFL, ptsC_append, rep_pts]⟩, trivial⟩
                · rintro ⟨⟨m, hm, ht⟩, vs3⟩
                  have hm : m ≤ (cmpT Lp (k + j)).length := hm
                  have ht : trimN (FL.take (cmpT Lp (k + j)).length) (cmpT Lp (k + j)).length = trimN (FL.take (cmpT Lp (k + j)).length) m := ht
                  dsimp only
                  conv => whnf
                  refine bcase_intro (fun h2 => ?_) (fun h2 => ?_)
                  · have h2 : 2 ≤ m := by have := of_decide_eq_true h2; omega
                    conv => whnf
                    conv =>
                      arg 2
                      tactic' =>
                        apply eff_index_sli (k := 0) (hi := ir_z0) (ho := ?how20) (hT := ?hTw20) (hx := ?hxw20) (hk := ?hkw20) (hlt := ?hltw20)
                        case how20 => rfl
                        case hTw20 => rfl
                        case hxw20 => rfl
                        case hkw20 => rfl
                        case hltw20 => exact (by omega)
                    conv => whnf
                    conv =>
                      arg 2
                      tactic' =>
                        apply eff_load_sub (ho := ?how21) (hT := ?hTw21) (hx := ?hxw21) (hb := ?hbw21) (hm := ?hmw21) (hv := ?hvw21)
                        case how21 => rfl
                        case hTw21 => rfl
                        case hxw21 => rfl
                        case hbw21 => rfl
                        case hmw21 => exact subC_p (i := 0) (by omega) (by omega)
                        case hvw21 => rfl
                    conv => whnf
                    conv =>
                      arg 2
                      tactic' =>
                        apply eff_index_sli (k := m - 1) (hi := ir_g (by omega)) (ho := ?how22) (hT := ?hTw22) (hx := ?hxw22) (hk := ?hkw22) (hlt := ?hltw22)
                        case how22 => rfl
                        case hTw22 => rfl
                        case hxw22 => rfl
                        case hkw22 => exact cint (wrap_sub1 (m := m) (by omega) (by omega)) (ir_g (by omega))
                        case hltw22 => exact (by omega)
                    conv => whnf
                    conv =>
                      arg 2
                      tactic' =>
                        apply eff_load_sub (ho := ?how23) (hT := ?hTw23) (hx := ?hxw23) (hb := ?hbw23) (hm := ?hmw23) (hv := ?hvw23)
                        case how23 => rfl
                        case hTw23 => rfl
                        case hxw23 => rfl
                        case hbw23 => rfl
                        case hmw23 => exact subC_p (i := m - 1) (by omega) (by omega)
                        case hvw23 => rfl
                    conv => whnf
                    refine bcase_intro (fun hE => ?_) (fun hE => ?_)
                    · have hE : eqP ((FL.take (cmpT Lp (k + j)).length)[0]'(by rw [List.length_take]; omega)) ((FL.take (cmpT Lp (k + j)).length)[m - 1]'(by rw [List.length_take]; omega)) = true := by rw [get_take hFk (by omega), get_take hFk (by omega)]; exact hE
                      conv => whnf
                      conv =>
                        arg 2
                        tactic' =>
                          apply eff_slice_hi (k := m - 1) (hi := ir_g (by omega)) (h2 := (hs.mono (show (cmpT Lp (k + j)).length ≤ len by omega)).mono (by omega)) (ho := ?how24) (hT := ?hTw24) (hx := ?hxw24) (hk := ?hkw24) (hlt := ?hltw24)
                          case how24 => rfl
                          case hTw24 => rfl
                          case hxw24 => rfl
                          case hkw24 => exact cint (wrap_sub1 (m := m) (by omega) (by omega)) (ir_g (by omega))
                          case hltw24 => exact (by have := (hs.mono (show (cmpT Lp (k + j)).length ≤ len by omega)).1; omega)
                      conv => whnf
                      refine ⟨[0, 1, 2], [3], [0, 1, 2], fun vs4 => ?_⟩
                      conv => whnf
                      refine ⟨ptsC_pure _, fun _ _ => rfl, ptsC_pure _, ?_⟩
                      conv => whnf
                      refine ⟨_, _, ?_, ?_, (⟨m - 1, by omega, ht.trans (trim_eq h2 (by rw [List.length_take]; omega) hE)⟩, vs4), (by omega : m - 1 < m), rfl, rfl⟩
                      · exact ⟨fun _ => rfl, fun _ => rfl, fun _ => rfl, fun _ => rfl, stm _⟩
                      · exact ⟨⟨rfl, rfl, rfl, fun _ => rfl⟩, ⟨rfl, rfl, rfl, fun _ => rfl⟩, ⟨rfl, rfl, rfl, fun _ => rfl⟩, trivial⟩
                    · have hE : eqP ((FL.take (cmpT Lp (k + j)).length)[0]'(by rw [List.length_take]; omega)) ((FL.take (cmpT Lp (k + j)).length)[m - 1]'(by rw [List.length_take]; omega)) = false := by rw [get_take hFk (by omega), get_take hFk (by omega)]; exact hE
                      conv => whnf
                      refine ⟨[0, 2], [0, 1], fun vs4 => ?_⟩
                      conv => whnf
                      refine ⟨ptsC_pure _, ptsC_pure _, ?_⟩
                      conv => whnf
                      refine ⟨_, [(OQ.mk FL m false c2 ((c2 - len) * 3) ((hs.mono (show (cmpT Lp (k + j)).length ≤ len by omega)).mono hm) (by omega) (fun h => by cases h)).blk], rfl, ⟨⟨rfl, rfl, rfl, fun _ => rfl⟩, ⟨rfl, rfl, rfl, fun _ => rfl⟩, trivial⟩, ⟨OQ.new _, trivial⟩, (OQ.mk FL m false c2 ((c2 - len) * 3) ((hs.mono (show (cmpT Lp (k + j)).length ≤ len by omega)).mono hm) (by omega) (fun h => by cases h)).sl 1, fun _ => rfl, hc _ (clean_out hFk hFt hm (ht.trans (trim_ne h2 (by rw [List.length_take]; omega) hE)))⟩
                  · have h2 : m < 2 := by have := of_decide_eq_false h2; omega
                    conv => whnf
                    refine ⟨[0, 2], [0, 1], fun vs4 => ?_⟩
                    conv => whnf
                    refine ⟨ptsC_pure _, ptsC_pure _, ?_⟩
                    conv => whnf
                    refine ⟨_, [(OQ.mk FL m false c2 ((c2 - len) * 3) ((hs.mono (show (cmpT Lp (k + j)).length ≤ len by omega)).mono hm) (by omega) (fun h => by cases h)).blk], rfl, ⟨⟨rfl, rfl, rfl, fun _ => rfl⟩, ⟨rfl, rfl, rfl, fun _ => rfl⟩, trivial⟩, ⟨OQ.new _, trivial⟩, (OQ.mk FL m false c2 ((c2 - len) * 3) ((hs.mono (show (cmpT Lp (k + j)).length ≤ len by omega)).mono hm) (by omega) (fun h => by cases h)).sl 1, fun _ => rfl, hc _ (clean_out hFk hFt hm (ht.trans (trim_lt2 h2)))⟩
          · have hE : eqP (Lp[k]'(by omega)) (Lp[k - 1]'(by omega)) = false := hE
            conv => whnf
            refine ⟨[0, 1, 2], [0, 3], [0, 1, 2], fun vs2 => ?_⟩
            conv => whnf
            refine ⟨ptsC_pure _, fun _ _ => rfl, ptsC_pure _, ?_⟩
            conv => whnf
            refine ⟨_, _, ?_, ?_, (⟨k + 1, by omega, hlt, cmpT_take (by omega) hC (.inr hE)⟩, vs2), (by omega : len - (k + 1) < len - k), rfl, rfl⟩
            · exact ⟨fun _ => rfl, fun _ => rfl, fun _ => rfl, fun ρ => sint_e (wrap_add1 hlt (ir_g hbig)) ρ, stm _⟩
            · exact ⟨⟨rfl, rfl, rfl, fun _ => rfl⟩, ⟨rfl, rfl, rfl, fun _ => rfl⟩, ⟨rfl, rfl, rfl, fun _ => rfl⟩, trivial⟩
        · have hkk : k = len := Nat.le_antisymm hk (n_ge hlt)
          have hcm : Lp.take len = cmpT Lp Lp.length := by rw [hN, ← hkk]; exact hC.symm
          conv => whnf
          refine loop_st (G := {m : Nat // m ≤ len ∧ trimN (Lp.take len) len = trimN (Lp.take len) m} × (Nat → Value)) (fun g => (.c (.val (g.2 0)) :: .c (.val (g.2 1)) :: .c (.val (g.2 2)) :: .c (.sli false 2 0 g.1.1 c2 (hs.mono g.1.2.1)) :: .c (.val (g.2 4)) :: .c (.val (g.2 5)) :: .c (.val (g.2 6)) :: .c (.val (g.2 7)) :: .c (.val (g.2 8)) :: .c (.val (g.2 9)) :: .c (.val (g.2 10)) :: .c (.val (g.2 11)) :: .c (.val (g.2 12)) :: .c (.val (g.2 13)) :: .c (.val (g.2 14)) :: .c (.val (g.2 15)) :: .c (.val (g.2 16)) :: .c (.val (g.2 17)) :: .c (.val (g.2 18)) :: .c (.val (g.2 19)) :: .c (.val (g.2 20)) :: .c (.val (g.2 21)) :: .c (.val (g.2 22)) :: .c (.val (g.2 23)) :: .c (.val (g.2 24)) :: .c (.val (g.2 25)) :: .c (.val (g.2 26)) :: .c (.val (g.2 27)) :: [])) (fun _ => [⟨.t ty, true, ptsC full, 0⟩, ⟨34, true, [], 0⟩, ⟨34, false, ptsC Lp, ((c2 - len) * 3)⟩]) (fun g => g.1.1) ?_ ?_
          · refine ⟨[0, 1, 2], [3], [0, 1, 2], fun vs3 => ?_⟩
            conv => whnf
            refine ⟨ptsC_pure _, fun _ _ => rfl, ptsC_pure _, ?_⟩
            conv => whnf
            refine ⟨_, _, ?_, ?_, (⟨len, Nat.le_refl _, rfl⟩, vs3), rfl, rfl⟩
            · exact ⟨fun _ => rfl, fun _ => rfl, fun _ => rfl, fun _ => rfl, stm _⟩
            · exact ⟨⟨rfl, rfl, rfl, fun _ => rfl⟩, ⟨rfl, rfl, rfl, fun _ => rfl⟩, ⟨rfl, rfl, rfl, fun _ => rfl⟩, trivial⟩
          · rintro ⟨⟨m, hm, ht⟩, vs3⟩
            have hm : m ≤ len := hm
            have ht : trimN (Lp.take len) len = trimN (Lp.take len) m := ht
            dsimp only
            conv => whnf
            refine bcase_intro (fun h2 => ?_) (fun h2 => ?_)
            · have h2 : 2 ≤ m := by have := of_decide_eq_true h2; omega
              conv => whnf
              conv =>
                arg 2
                tactic' =>
                  apply eff_index_sli (k := 0) (hi := ir_z0) (ho := ?how26) (hT := ?hTw26) (hx := ?hxw26) (hk := ?hkw26) (hlt := ?hltw26)
                  case how26 => rfl
                  case hTw26 => rfl
                  case hxw26 => rfl
                  case hkw26 => rfl
                  case hltw26 => exact (by omega)
              conv => whnf
              conv =>
                arg 2
                tactic' =>
                  apply eff_load_sub (ho := ?how27) (hT := ?hTw27) (hx := ?hxw27) (hb := ?hbw27) (hm := ?hmw27) (hv := ?hvw27)
                  case how27 => rfl
                  case hTw27 => rfl
                  case hxw27 => rfl
                  case hbw27 => rfl
                  case hmw27 => exact subC_p (i := 0) (by omega) (by omega)
                  case hvw27 => rfl
              conv => whnf
              conv =>
                arg 2
                tactic' =>
                  apply eff_index_sli (k := m - 1) (hi := ir_g (by omega)) (ho := ?how28) (hT := ?hTw28) (hx := ?hxw28) (hk := ?hkw28) (hlt := ?hltw28)
                  case how28 => rfl
                  case hTw28 => rfl
                  case hxw28 => rfl
                  case hkw28 => exact cint (wrap_sub1 (m := m) (by omega) (by omega)) (ir_g (by omega))
                  case hltw28 => exact (by omega)
              conv => whnf
              conv =>
                arg 2
                tactic' =>
                  apply eff_load_sub (ho := ?how29) (hT := ?hTw29) (hx := ?hxw29) (hb := ?hbw29) (hm := ?hmw29) (hv := ?hvw29)
                  case how29 => rfl
                  case hTw29 => rfl
                  case hxw29 => rfl
                  case hbw29 => rfl
                  case hmw29 => exact subC_p (i := m - 1) (by omega) (by omega)
                  case hvw29 => rfl
              conv => whnf
              refine bcase_intro (fun hE => ?_) (fun hE => ?_)
              · have hE : eqP ((Lp.take len)[0]'(by rw [List.length_take]; omega)) ((Lp.take len)[m - 1]'(by rw [List.length_take]; omega)) = true := by rw [get_take (Nat.le_of_eq hN.symm) (by omega), get_take (Nat.le_of_eq hN.symm) (by omega)]; exact hE
                conv => whnf
                conv =>
                  arg 2
                  tactic' =>
                    apply eff_slice_hi (k := m - 1) (hi := ir_g (by omega)) (h2 := hs.mono (by omega)) (ho := ?how30) (hT := ?hTw30) (hx := ?hxw30) (hk := ?hkw30) (hlt := ?hltw30)
                    case how30 => rfl
                    case hTw30 => rfl
                    case hxw30 => rfl
                    case hkw30 => exact cint (wrap_sub1 (m := m) (by omega) (by omega)) (ir_g (by omega))
                    case hltw30 => exact (by have := hs.1; omega)
                conv => whnf
                refine ⟨[0, 1, 2], [3], [0, 1, 2], fun vs4 => ?_⟩
                conv => whnf
                refine ⟨ptsC_pure _, fun _ _ => rfl, ptsC_pure _, ?_⟩
                conv => whnf
                refine ⟨_, _, ?_, ?_, (⟨m - 1, by omega, ht.trans (trim_eq h2 (by rw [List.length_take]; omega) hE)⟩, vs4), (by omega : m - 1 < m), rfl, rfl⟩
                · exact ⟨fun _ => rfl, fun _ => rfl, fun _ => rfl, fun _ => rfl, stm _⟩
                · exact ⟨⟨rfl, rfl, rfl, fun _ => rfl⟩, ⟨rfl, rfl, rfl, fun _ => rfl⟩, ⟨rfl, rfl, rfl, fun _ => rfl⟩, trivial⟩
              · have hE : eqP ((Lp.take len)[0]'(by rw [List.length_take]; omega)) ((Lp.take len)[m - 1]'(by rw [List.length_take]; omega)) = false := by rw [get_take (Nat.le_of_eq hN.symm) (by omega), get_take (Nat.le_of_eq hN.symm) (by omega)]; exact hE
                conv => whnf
                refine ⟨[0, 2], [0, 1], fun vs4 => ?_⟩
                conv => whnf
                refine ⟨ptsC_pure _, ptsC_pure _, ?_⟩
                conv => whnf
                refine ⟨_, [(OQ.mk Lp m false c2 ((c2 - len) * 3) (hs.mono hm) (by omega) (fun h => by cases h)).blk], rfl, ⟨⟨rfl, rfl, rfl, fun _ => rfl⟩, ⟨rfl, rfl, rfl, fun _ => rfl⟩, trivial⟩, ⟨OQ.new _, trivial⟩, (OQ.mk Lp m false c2 ((c2 - len) * 3) (hs.mono hm) (by omega) (fun h => by cases h)).sl 1, fun _ => rfl, hc _ (clean_out (Nat.le_of_eq hN.symm) hcm hm (ht.trans (trim_ne h2 (by rw [List.length_take]; omega) hE)))⟩
            · have h2 : m < 2 := by have := of_decide_eq_false h2; omega
              conv => whnf
              refine ⟨[0, 2], [0, 1], fun vs4 => ?_⟩
              conv => whnf
              refine ⟨ptsC_pure _, ptsC_pure _, ?_⟩
              conv => whnf
              refine ⟨_, [(OQ.mk Lp m false c2 ((c2 - len) * 3) (hs.mono hm) (by omega) (fun h => by cases h)).blk], rfl, ⟨⟨rfl, rfl, rfl, fun _ => rfl⟩, ⟨rfl, rfl, rfl, fun _ => rfl⟩, trivial⟩, ⟨OQ.new _, trivial⟩, (OQ.mk Lp m false c2 ((c2 - len) * 3) (hs.mono hm) (by omega) (fun h => by cases h)).sl 1, fun _ => rfl, hc _ (clean_out (Nat.le_of_eq hN.symm) hcm hm (ht.trans (trim_lt2 h2)))⟩
end Go.Proofs.YtdjpbccaglkafaaDoor
