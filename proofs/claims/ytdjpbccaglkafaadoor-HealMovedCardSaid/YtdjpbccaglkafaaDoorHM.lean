/- law 05: HealMoved. -/
import Derived.Test.YtdjpbccaglkafaaDoorHMp
import Derived.Test.YtdjpbccaglkafaaDoorHOw
import Derived.Test.YtdjpbccaglkafaaDoorSxThw2
namespace Go.Proofs.YtdjpbccaglkafaaDoor
open Go.RowKit
set_option maxRecDepth 100000

def dMovedTri : Dn
  | [.agg [.int x1 _, .int y1 _, .int z1 _, .int x2 _, .int y2 _, .int z2 _, .int x3 _, .int y3 _, .int z3 _], .agg [.int t0 _, .int t1 _, .int t2 _], .c (.int s _)] =>
    some (none, .agg [.int (mvW s t0 x1) (ir_mvW _ _ _), .int (mvW s t1 y1) (ir_mvW _ _ _), .int (mvW s t2 z1) (ir_mvW _ _ _), .int (mvW s t0 x2) (ir_mvW _ _ _), .int (mvW s t1 y2) (ir_mvW _ _ _), .int (mvW s t2 z2) (ir_mvW _ _ _), .int (mvW s t0 x3) (ir_mvW _ _ _), .int (mvW s t1 y3) (ir_mvW _ _ _), .int (mvW s t2 z3) (ir_mvW _ _ _)])
  | _ => none
theorem spMovedTri : SpOk Tryd.prog 25 dMovedTri := sp_of2 (un := 20) (n := 0) ⟨Tryd.func25, by kernel_rfl, by kernel_rfl⟩ baseS_ok noF_ok fun args p v hd => by
  unfold dMovedTri at hd
  split at hd
  · rename_i x1 hx1 y1 hy1 z1 hz1 x2 hx2 y2 hy2 z2 hz2 x3 hx3 y3 hy3 z3 hz3 t0 ht0 t1 ht1 t2 ht2 s hs
    cases hd
    refine ⟨[.agg [.int x1 hx1, .int y1 hy1, .int z1 hz1, .int x2 hx2, .int y2 hy2, .int z2 hz2, .int x3 hx3, .int y3 hy3, .int z3 hz3], .agg [.int t0 ht0, .int t1 ht1, .int t2 ht2], .c (.int s hs)], fun _ => rfl, fun _ _ => rfl, fun _ _ => rfl, fun _ => ?_⟩
    conv => whnf
    exact fun _ => rfl
  · cases hd
def baseV : List (FuncId × Dn) := (25, dMovedTri) :: baseS
theorem baseV_ok : AllOk baseV := .cons spMovedTri <| baseS_ok
def envMv : Env := { envH 0 baseV [] with O := oAdr tyT (oClr tyT (oMap Tryd.prog tyT)), ord := fun id => Nat.beq id 15 }
theorem envMv_ok : EOk Tryd.prog envMv := ⟨(envH_ok baseV_ok .nil 0).T, (envH_ok baseV_ok .nil 0).D, oAdr_ok tyT_ok (envH_ok baseV_ok .nil 0).O, (envH_ok baseV_ok .nil 0).R⟩
def ownX : List (FuncId × NewC) := [(14, cOwn)]
theorem ownX_ok : AllX Tryd.prog ownX := .cons csOwn .nil
theorem imp_via {Z G : Prop} (h : Z → G) (z : Z) : G := h z
def hMv := himp (hsm (hnewD ownX (hLX plX lawC envMv))) 1
theorem hMv_ok : HOk Tryd.prog hMv := himp_ok (hsm_ok (hnewD_ok ownX_ok (hLX_ok plX_ok lawC_ok envMv_ok))) 1
def okRf (v : C) (fam : List Ent) (L : List LN) : Prop := (∃ (r o cap : Nat) (_ : SliOk false L.length cap), v = .val (.slice (some ⟨r, o, none⟩) L.length cap) ∧ InF fam (r, o) (lnsC L)) ∨ ∃ a c, v = .val (.slice a 0 c) ∧ L = []
def okMw (args : List SV) (ros : List Blk) (v : C) (b0 b1 b2 : Int) (hb0 : IR b0) (hb1 : IR b1) (hb2 : IR b2) (s : Int) (hs : IR s) (fam : List Ent) (L : List LN) : Prop := args = [.c v, .agg [.int b0 hb0, .int b1 hb1, .int b2 hb2], .c (.int s hs)] ∧ ros = [⟨.x fam, true, [], 3⟩] ∧ okRf v fam L ∧ ∀ p ∈ L, p.In fam
def cLawM : NewC := fun args ros K => (∃ v b0 b1 b2 hb0 hb1 hb2 s hs fam L, okMw args ros v b0 b1 b2 hb0 hb1 hb2 s hs fam L) ∧ K (.c (.val (.bool true))) []
def PY.pn (p : PY) : PN := ⟨nlA p.nl ⟨p.r, p.o, none⟩, p.nl, p.r, p.o, p.len, p.cap, p.ok, fun _ => rfl, p.full, p.hl, p.pl, p.hp⟩
theorem pys_pn : ∀ l : List PY, pysC l = pnsC (l.map PY.pn)
  | [] => rfl
  | p :: l => by rw [List.map_cons, pysC, pnsC, pys_pn l]; rfl
/-- the first j corners moved -/
def mvL (m : MV) (l : List PT) (j : Nat) : List PT := (l.take j).map (mvP m) ++ l.drop j
theorem mvL_len (m : MV) (l : List PT) {j : Nat} (h : j ≤ l.length) : (mvL m l j).length = l.length := by
  unfold mvL; rw [List.length_append, List.length_map, List.length_take, List.length_drop]; omega
theorem mvL_get (m : MV) (l : List PT) {j : Nat} (h : j < l.length) : (mvL m l j)[j]'(by rw [mvL_len m l (Nat.le_of_lt h)]; exact h) = l[j] := by
  unfold mvL
  rw [List.getElem_append_right (by simp; omega)]
  simp only [List.length_map, List.length_take, Nat.min_eq_left (Nat.le_of_lt h), Nat.sub_self, List.getElem_drop]
  simp
theorem mvL_next (m : MV) (l : List PT) {j : Nat} (h : j < l.length) : mvL m l (j + 1) = (l.take j).map (mvP m) ++ (mvP m l[j] :: l.drop (j + 1)) := by
  unfold mvL
  rw [List.take_succ_eq_append_getElem h, List.map_append, List.append_assoc]; rfl
theorem mvL_at (m : MV) (l : List PT) {j : Nat} (h : j < l.length) : mvL m l j = (l.take j).map (mvP m) ++ (l[j] :: l.drop (j + 1)) := by
  unfold mvL
  rw [List.drop_eq_getElem_cons h]
def PY.mv (m : MV) (p : PY) : PY := ⟨p.nl, p.r, p.o, p.len, p.cap, p.ok, p.full.map (mvP m), by rw [List.length_map]; exact p.hl, p.pl, p.hp⟩
def pjE (m : MV) (p : PY) (j : Nat) : Ent := ⟨(p.r, 0), ptsC (mvL m p.full j), 34, (p.cap - p.len) * 3⟩
theorem pj0 (m : MV) (p : PY) : pjE m p 0 = p.ent := rfl
theorem pjN {m : MV} {p : PY} (h : p.full.length = p.len) : pjE m p p.len = (p.mv m).ent := by
  have e : mvL m p.full p.len = p.full.map (mvP m) := by
    unfold mvL
    rw [← h, List.take_length, List.drop_length, List.append_nil]
  unfold pjE
  rw [e]; rfl
theorem pys_mv (m : MV) : ∀ l : List PY, pysC l = pysC (l.map (PY.mv m))
  | [] => rfl
  | p :: l => by rw [List.map_cons, pysC, pysC, pys_mv m l]; rfl
def fK (m : MV) (l : List PY) (k : Nat) : List Ent := (l.take k).map (fun p => (p.mv m).ent) ++ (l.drop k).map PY.ent
theorem fK_in (m : MV) {l : List PY} {k : Nat} (h : k < l.length) : fK m l k = (l.take k).map (fun p => (p.mv m).ent) ++ pjE m l[k] 0 :: (l.drop (k + 1)).map PY.ent := by
  unfold fK
  rw [List.drop_eq_getElem_cons h, List.map_cons, pj0]
theorem fK_out (m : MV) {l : List PY} {k : Nat} (h : k < l.length) (hf : l[k].full.length = l[k].len) : (l.take k).map (fun p => (p.mv m).ent) ++ pjE m l[k] l[k].len :: (l.drop (k + 1)).map PY.ent = fK m l (k + 1) := by
  unfold fK
  rw [List.take_succ_eq_append_getElem h, List.map_append, List.append_assoc, pjN hf]; rfl
theorem dis_k {m : MV} {l : List PY} (h : l.Pairwise fun p q => p.r ≠ q.r) {k : Nat} (hk : k < l.length) : ∀ e, e ∈ (l.take k).map (fun p => (p.mv m).ent) ++ (l.drop (k + 1)).map PY.ent → e.a.1 ≠ l[k].r := fun e he => by
  have hs : l = l.take k ++ (l[k] :: l.drop (k + 1)) := by rw [← List.drop_eq_getElem_cons hk, List.take_append_drop]
  rw [hs, List.pairwise_append] at h
  obtain ⟨-, h2, h3⟩ := h
  rw [List.pairwise_cons] at h2
  rcases List.mem_append.1 he with he | he
  · obtain ⟨p, hp, rfl⟩ := List.mem_map.1 he
    exact h3 p hp _ List.mem_cons_self
  · obtain ⟨p, hp, rfl⟩ := List.mem_map.1 he
    exact (h2.1 p hp).symm
theorem part_pt {l : List PT} {k : Nat} (h : k < l.length) : partC true (ptsC l) (k * 3) 3 = some (.agg (ptC l[k])) := by
  have := subC_pts l h
  unfold partC
  rw [this]; rfl
theorem part_mv (m : MV) (l : List PT) {j : Nat} (h : j < l.length) : partC true (ptsC (mvL m l j)) (j * 3) 3 = some (.agg (ptC l[j])) := by
  rw [part_pt (by rw [mvL_len m l (Nat.le_of_lt h)]; exact h), mvL_get m l h]
theorem put_mv (m : MV) (l : List PT) {j : Nat} (h : j < l.length) : putC (ptsC (mvL m l j)) (0 + j * 3) (ptC (mvP m l[j])) = some (ptsC (mvL m l (j + 1))) := by
  rw [mvL_at m l h, mvL_next m l h, ptsC_append, ptsC_append]
  have s : sizeC (ptsC ((l.take j).map (mvP m))) = 0 + j * 3 := by rw [ptsC_size]; simp; omega
  unfold putC
  rw [← s]
  have e := spliceC_app (ptsC ((l.take j).map (mvP m))) (ptC l[j]) (ptsC (l.drop (j + 1))) (ptC (mvP m l[j])) rfl
  have e2 : ptsC (l[j] :: l.drop (j + 1)) = ptC l[j] ++ ptsC (l.drop (j + 1)) := rfl
  have e3 : ptsC (mvP m l[j] :: l.drop (j + 1)) = ptC (mvP m l[j]) ++ ptsC (l.drop (j + 1)) := rfl
  rw [e2, e3, e]
/-- what Own hands back -/
structure OwF (l : List PY) (o : OY) (f1 : List Ent) : Prop where
  len : o.l.length = l.length
  at_ : ∀ p ∈ o.l, p.nl = false ∧ p.o = 0 ∧ p.full.length = p.len
  eq : ∀ i (h : i < o.l.length) (h2 : i < l.length), o.l[i].full = l[i].cor ∧ o.l[i].pl = l[i].pl ∧ o.l[i].len = l[i].len
  nd : o.l.Pairwise fun p q => p.r ≠ q.r
  f1 : ∀ e, e ∈ f1 → ∀ p ∈ o.l, e.a.1 ≠ p.r
theorem OwF.of {l : List PY} {o : OY} {f1 f2 : List Ent} {s : Nat} (h : OwI (l.map PY.pn) l.length f2 o) (h1 : ∀ e, e ∈ f1 → e.a.1 < s) (h2 : ∀ e, e ∈ f2 → s ≤ e.a.1) : OwF l o f1 := by
  have hlen := h.len
  have hml : (l.map PY.pn).length = l.length := List.length_map _
  have hmem : ∀ p ∈ o.l, p.ent ∈ f2 := fun p hp => by rw [h.fm]; exact List.mem_map_of_mem hp
  refine ⟨hlen, fun p hp => ?_, fun i hi hi2 => ?_, ?_, fun e he p hp => ?_⟩
  · obtain ⟨i, hi, rfl⟩ := List.mem_iff_getElem.1 hp
    obtain ⟨r, c, ok, e⟩ := h.eq i hi (by omega)
    rw [e]
    refine ⟨rfl, rfl, ?_⟩
    show ((l.map PY.pn)[i]'(by omega)).cor.length = _
    unfold PN.cor
    rw [List.length_take]
    exact Nat.min_eq_left (PN.hl _)
  · obtain ⟨r, c, ok, e⟩ := h.eq i hi (by omega)
    rw [e]
    simp only [List.getElem_map]
    exact ⟨rfl, rfl, rfl⟩
  · have := h.nd
    rw [h.fm, List.pairwise_map] at this
    exact this
  · have k1 := h1 e he
    have k2 : s ≤ p.r := h2 _ (hmem p hp)
    omega
theorem ow_len {l : List PY} {o : OY} {f1 : List Ent} (h : OwF l o f1) (hl : l.length ≤ 30) {k : Nat} (hk : k ≤ o.l.length) : IR (k : Nat) := by have := h.len; unfold IR; omega
theorem PY.val1 {p : PY} (h : p.nl = false ∧ p.o = 0) : p.val = .slice (some ⟨p.r, 0, none⟩) p.len p.cap := by unfold PY.val; rw [h.1, h.2]; rfl
theorem subC_py1 (l : List PY) {k : Nat} (hk : k < l.length) : subC (pysC l) (0 + k * 2 + 0) 1 = some [.val l[k].val] := by
  rw [Nat.zero_add]
  exact subC_sub (subC_pys l hk) (o := 0) (k := 1) (r := [.val l[k].val]) rfl
def scM (n : Int) : Int := IntKind.i64.wrap (1 + IntKind.i64.wrap ((BitVec.ofInt 64 n &&& BitVec.ofInt 64 1073741823).toNat : Int))
theorem scM_eq (n : Int) : 1 ≤ scM n ∧ scM n ≤ 1073741824 := by
  have h : (BitVec.ofInt 64 n &&& BitVec.ofInt 64 1073741823).toNat ≤ 1073741823 := by
    rw [BitVec.toNat_and]
    exact Nat.le_trans Nat.and_le_right (by decide)
  unfold scM
  generalize (BitVec.ofInt 64 n &&& BitVec.ofInt 64 1073741823).toNat = x at *
  rw [wrap_id (z := (x : Int)) (by unfold IR; omega), wrap_id (by unfold IR; omega)]; omega
theorem tmM (x : Int) : -1099511627776 < x.tmod 1099511627776 ∧ x.tmod 1099511627776 < 1099511627776 := ⟨Int.lt_tmod_of_pos x (by decide), Int.tmod_lt_of_pos x (by decide)⟩
theorem MV.irs (m : MV) : IR m.s := by have := m.hs; unfold IR; omega
theorem MV.ira (m : MV) : IR m.a := by have := m.ha; unfold IR; omega
theorem MV.irb (m : MV) : IR m.b := by have := m.hb; unfold IR; omega
theorem MV.irc (m : MV) : IR m.c := by have := m.hc; unfold IR; omega
def byB (m : MV) : Blk := ⟨52, false, [.int m.a m.ira, .int m.b m.irb, .int m.c m.irc], 0⟩
theorem sameB (b : Blk) : b.ty = b.ty ∧ b.ro = b.ro ∧ b.tl = b.tl ∧ ∀ ρ, cellsL ρ b.cs = cellsL ρ b.cs := ⟨rfl, rfl, rfl, fun _ => rfl⟩
theorem mv_ok {m : MV} {o : OY} : SliOk o.nl (o.l.map (PY.mv m)).length o.cap := by rw [List.length_map]; exact o.ok
theorem mv_sl {m : MV} {o : OY} {b : Nat} {h : SliOk o.nl (o.l.map (PY.mv m)).length o.cap} (ρ : Rho) : (o.sl b).den ρ = ((⟨o.l.map (PY.mv m), o.nl, o.cap, h⟩ : OY).sl b).den ρ := by
  simp only [OY.sl, SV.den, C.den, C.cells, List.length_map]
theorem mv_blk {m : MV} {o : OY} {h : SliOk o.nl (o.l.map (PY.mv m)).length o.cap} : o.blk.ty = (⟨o.l.map (PY.mv m), o.nl, o.cap, h⟩ : OY).blk.ty ∧ o.blk.ro = (⟨o.l.map (PY.mv m), o.nl, o.cap, h⟩ : OY).blk.ro ∧ o.blk.tl = (⟨o.l.map (PY.mv m), o.nl, o.cap, h⟩ : OY).blk.tl ∧ ∀ ρ, cellsL ρ o.blk.cs = cellsL ρ (⟨o.l.map (PY.mv m), o.nl, o.cap, h⟩ : OY).blk.cs := by
  refine ⟨rfl, rfl, ?_, fun ρ => ?_⟩
  · simp only [OY.blk, List.length_map]
  · show cellsL ρ (pysC o.l) = cellsL ρ (pysC (o.l.map (PY.mv m)))
    rw [← pys_mv]
set_option maxHeartbeats 32000000 in
theorem csMv : CSpX Tryd.prog 10 cLawM := csp_ofX envMv_ok mixed hMv_ok ⟨Tryd.func10, by kernel_rfl, by kernel_rfl⟩ fun args ros K hc => by
  obtain ⟨⟨v, b0, b1, b2, hb0, hb1, hb2, s, hs, fam, L, rfl, rfl, ⟨r0, o0, cap, hl, rfl, hif⟩ | ⟨a, c, rfl, rfl⟩, hin⟩, hc⟩ := hc
  · refine ⟨fun ρ ρ' e => rfl, ?_⟩
    conv => whnf
    refine .inl ?_
    conv => whnf
    refine .inl ?_
    conv => whnf
    refine .inl ?_
    conv => whnf
    refine .inl ?_
    conv => whnf
    refine ⟨trivial, ⟨rfl, rfl, ?_⟩⟩
    conv => whnf
    refine .inr ⟨0, ?_⟩
    conv => whnf
    refine ⟨false, r0, o0, L.length, cap, hl, 60, lnsC L, 0, rfl, .inr ⟨_, _, _, rfl, rfl, hif⟩, ?_⟩
    conv => whnf
    refine .inl ?_
    conv => whnf
    refine .inl ?_
    conv => whnf
    refine .inl ?_
    conv => whnf
    refine ⟨0, ?_⟩
    conv => whnf
    refine ⟨.inr rfl, ⟨lnsC_pure L, trivial⟩, .inl ⟨_, _, _, _, _, L, _, rfl, rfl, Nat.le_refl _, hin, fun o1 f1 hI => ?_⟩⟩
    conv => whnf
    have ho30 : o1.l.length ≤ 30 := by rw [hI.len]; exact hI.k2
    refine .inl ⟨4, ?_⟩
    conv => whnf
    refine .inl ?_
    conv => whnf
    refine .inl ?_
    conv => whnf
    refine ⟨4, ?_⟩
    conv => whnf
    refine ⟨.inl rfl, ⟨pysC_pure o1.l, trivial⟩, .inl ⟨_, _, _, _, _, _, o1.l.map PY.pn, _, rfl, rfl, pys_pn o1.l, ⟨by rw [List.length_map]; exact Nat.le_refl _, by omega⟩, fun p hp => ?_, fun o2 f2 hO s2 hs1 hs2 => ?_⟩⟩
    · obtain ⟨q, hq, rfl⟩ := List.mem_map.1 hp
      have h1 : q.len ≤ 8 := (hI.ps q hq).1
      exact ⟨by show q.len * 3 ≤ _; omega, (hI.ps q hq).2⟩
    have hF : OwF o1.l o2 f1 := OwF.of hO hs1.2.2.2.2.1 hs2.2.1
    have hO2 : f2 = o2.l.map PY.ent := hO.fm
    obtain ⟨m, hm⟩ : ∃ m : MV, m = ⟨scM s, b0.tmod 1099511627776, b1.tmod 1099511627776, b2.tmod 1099511627776, scM_eq s, tmM b0, tmM b1, tmM b2⟩ := ⟨_, rfl⟩
    conv => whnf
    refine loop_st (G := {k : Nat // k ≤ o2.l.length} × (Nat → Value)) (fun g => (.c (.val (g.2 0)) :: .c (.val (g.2 1)) :: .c (.val (g.2 2)) :: .c (.val (g.2 3)) :: .c (.ptr 1 0) :: .c (.val (g.2 5)) :: .c (.val (g.2 6)) :: .c (.val (.bool true)) :: o1.sl 2 :: .c (.int m.s m.irs) :: .c (.val (g.2 10)) :: o2.sl 4 :: .c (.int (g.1.1 : Nat) (ow_len hF ho30 g.1.2)) :: .c (.val (g.2 13)) :: .c (.val (g.2 14)) :: .c (.val (g.2 15)) :: .c (.val (g.2 16)) :: .c (.val (g.2 17)) :: .c (.val (g.2 18)) :: .c (.val (g.2 19)) :: .c (.val (g.2 20)) :: .c (.val (g.2 21)) :: .c (.val (g.2 22)) :: .c (.val (g.2 23)) :: .c (.val (g.2 24)) :: .c (.val (g.2 25)) :: .c (.val (g.2 26)) :: .c (.val (g.2 27)) :: .c (.val (g.2 28)) :: .c (.val (g.2 29)) :: .c (.val (g.2 30)) :: .c (.val (g.2 31)) :: .c (.val (g.2 32)) :: .c (.val (g.2 33)) :: .c (.val (g.2 34)) :: .c (.val (g.2 35)) :: .c (.val (g.2 36)) :: .c (.val (g.2 37)) :: .c (.val (g.2 38)) :: .c (.val (g.2 39)) :: .c (.val (g.2 40)) :: .c (.val (g.2 41)) :: .c (.val (g.2 42)) :: .c (.val (g.2 43)) :: .c (.val (g.2 44)) :: .c (.val (g.2 45)) :: .c (.val (g.2 46)) :: .c (.val (g.2 47)) :: .c (.val (g.2 48)) :: .c (.val (g.2 49)) :: .c (.val (g.2 50)) :: .c (.val (g.2 51)) :: .c (.val (g.2 52)) :: .c (.val (g.2 53)) :: .c (.val (g.2 54)) :: .c (.val (g.2 55)) :: .c (.val (g.2 56)) :: .c (.val (g.2 57)) :: .c (.val (g.2 58)) :: .c (.val (g.2 59)) :: .c (.val (g.2 60)) :: .c (.val (g.2 61)) :: .c (.val (g.2 62)) :: .c (.val (g.2 63)) :: .c (.val (g.2 64)) :: .c (.val (g.2 65)) :: .c (.val (g.2 66)) :: .c (.val (g.2 67)) :: .c (.val (g.2 68)) :: .c (.val (g.2 69)) :: .c (.val (g.2 70)) :: .c (.val (g.2 71)) :: .c (.val (g.2 72)) :: .c (.val (g.2 73)) :: .c (.val (g.2 74)) :: .c (.val (g.2 75)) :: .c (.val (g.2 76)) :: .c (.val (g.2 77)) :: .c (.val (g.2 78)) :: .c (.val (g.2 79)) :: .c (.val (g.2 80)) :: .c (.val (g.2 81)) :: .c (.val (g.2 82)) :: .c (.val (g.2 83)) :: .c (.val (g.2 84)) :: .c (.val (g.2 85)) :: .c (.val (g.2 86)) :: .c (.val (g.2 87)) :: .c (.val (g.2 88)) :: .c (.val (g.2 89)) :: .c (.val (g.2 90)) :: .c (.val (g.2 91)) :: .c (.val (g.2 92)) :: .c (.val (g.2 93)) :: .c (.val (g.2 94)) :: .c (.val (g.2 95)) :: .c (.val (g.2 96)) :: .c (.val (g.2 97)) :: .c (.val (g.2 98)) :: .c (.val (g.2 99)) :: .c (.val (g.2 100)) :: .c (.val (g.2 101)) :: .c (.val (g.2 102)) :: .c (.val (g.2 103)) :: .c (.val (g.2 104)) :: .c (.val (g.2 105)) :: .c (.val (g.2 106)) :: .c (.val (g.2 107)) :: .c (.val (g.2 108)) :: .c (.val (g.2 109)) :: [])) (fun g => [⟨.x fam, true, [], 3⟩, byB m, o1.blk, ⟨.x f1, true, [], 2⟩, o2.blk, ⟨.x (fK m o2.l g.1.1), true, [], 2⟩]) (fun g => o2.l.length - g.1.1) ?_ ?_
    · refine ⟨[0, 1, 3, 4, 5, 6], [4, 7, 8, 9, 11, 12], [2, 4], fun vs => ?_⟩
      conv => whnf
      refine ⟨o1.new.1.pure, o2.new.1.pure, ?_⟩
      conv => whnf
      refine ⟨_, _, ?_, ?_, (⟨0, Nat.zero_le _⟩, vs), rfl, rfl⟩
      · exact ⟨fun _ => rfl, fun _ => rfl, fun _ => rfl, fun _ => rfl, fun _ => rfl, fun _ => rfl, fun _ => rfl, fun _ => rfl, fun _ => rfl, fun _ => by subst hm; rfl, fun _ => rfl, fun _ => rfl, fun _ => rfl, stm _⟩
      · exact ⟨⟨rfl, rfl, rfl, fun _ => rfl⟩, ⟨rfl, rfl, rfl, fun _ => by subst hm; rfl⟩, ⟨rfl, rfl, rfl, fun _ => rfl⟩, ⟨rfl, rfl, rfl, fun _ => rfl⟩, ⟨rfl, rfl, rfl, fun _ => rfl⟩, ⟨congrArg TyX.x hO2, rfl, rfl, fun _ => rfl⟩, trivial⟩
    · rintro ⟨⟨k, hk⟩, vs⟩
      have hk : k ≤ o2.l.length := hk
      dsimp only
      conv => whnf
      refine bcase_intro (fun hlt => ?_) (fun hlt => ?_)
      · have hlt : k < o2.l.length := n_lt hlt
        obtain ⟨p, hp⟩ : ∃ p, p = o2.l[k] := ⟨_, rfl⟩
        have hpm := hF.at_ p (hp ▸ List.getElem_mem hlt)
        have hp8 : p.len ≤ 8 := by
          have h1 := (hF.eq k hlt (by have := hF.len; omega)).2.2
          rw [hp, h1]; exact (hI.ps _ (List.getElem_mem _)).1
        have pa : subC (pysC o2.l) (0 + k * 2 + 0) 1 = some [.val (.slice (some ⟨p.r, 0, none⟩) p.len p.cap)] := by rw [← PY.val1 ⟨hpm.1, hpm.2.1⟩]; subst hp; exact subC_py1 o2.l hlt
        conv => whnf
        refine loop_st (G := {j : Nat // j ≤ p.len} × (Nat → Value)) (fun g => (.c (.val (g.2 0)) :: .c (.val (g.2 1)) :: .c (.val (g.2 2)) :: .c (.val (g.2 3)) :: .c (.ptr 1 0) :: .c (.val (g.2 5)) :: .c (.val (g.2 6)) :: .c (.val (.bool true)) :: o1.sl 2 :: .c (.int m.s m.irs) :: .c (.val (g.2 10)) :: o2.sl 4 :: .c (.int (k : Nat) (ow_len hF ho30 hk)) :: .c (.int (g.1.1 : Nat) (ir_8 (Nat.le_trans g.1.2 hp8))) :: .c (.val (g.2 14)) :: .c (.val (g.2 15)) :: .c (.val (g.2 16)) :: .c (.val (g.2 17)) :: .c (.val (g.2 18)) :: .c (.val (g.2 19)) :: .c (.val (g.2 20)) :: .c (.val (g.2 21)) :: .c (.val (g.2 22)) :: .c (.val (g.2 23)) :: .c (.val (g.2 24)) :: .c (.val (g.2 25)) :: .c (.val (g.2 26)) :: .c (.val (g.2 27)) :: .c (.val (g.2 28)) :: .c (.val (g.2 29)) :: .c (.val (g.2 30)) :: .c (.val (g.2 31)) :: .c (.val (g.2 32)) :: .c (.val (g.2 33)) :: .c (.val (g.2 34)) :: .c (.val (g.2 35)) :: .c (.val (g.2 36)) :: .c (.val (g.2 37)) :: .c (.val (g.2 38)) :: .c (.val (g.2 39)) :: .c (.val (g.2 40)) :: .c (.val (g.2 41)) :: .c (.val (g.2 42)) :: .c (.val (g.2 43)) :: .c (.val (g.2 44)) :: .c (.val (g.2 45)) :: .c (.val (g.2 46)) :: .c (.val (g.2 47)) :: .c (.val (g.2 48)) :: .c (.val (g.2 49)) :: .c (.val (g.2 50)) :: .c (.val (g.2 51)) :: .c (.val (g.2 52)) :: .c (.val (g.2 53)) :: .c (.val (g.2 54)) :: .c (.val (g.2 55)) :: .c (.val (g.2 56)) :: .c (.val (g.2 57)) :: .c (.val (g.2 58)) :: .c (.val (g.2 59)) :: .c (.val (g.2 60)) :: .c (.val (g.2 61)) :: .c (.val (g.2 62)) :: .c (.val (g.2 63)) :: .c (.val (g.2 64)) :: .c (.val (g.2 65)) :: .c (.val (g.2 66)) :: .c (.val (g.2 67)) :: .c (.val (g.2 68)) :: .c (.val (g.2 69)) :: .c (.val (g.2 70)) :: .c (.val (g.2 71)) :: .c (.val (g.2 72)) :: .c (.val (g.2 73)) :: .c (.val (g.2 74)) :: .c (.val (g.2 75)) :: .c (.val (g.2 76)) :: .c (.val (g.2 77)) :: .c (.val (g.2 78)) :: .c (.val (g.2 79)) :: .c (.val (g.2 80)) :: .c (.val (g.2 81)) :: .c (.val (g.2 82)) :: .c (.val (g.2 83)) :: .c (.val (g.2 84)) :: .c (.val (g.2 85)) :: .c (.val (g.2 86)) :: .c (.val (g.2 87)) :: .c (.val (g.2 88)) :: .c (.val (g.2 89)) :: .c (.val (g.2 90)) :: .c (.val (g.2 91)) :: .c (.val (g.2 92)) :: .c (.val (g.2 93)) :: .c (.val (g.2 94)) :: .c (.val (g.2 95)) :: .c (.val (g.2 96)) :: .c (.val (g.2 97)) :: .c (.val (g.2 98)) :: .c (.val (g.2 99)) :: .c (.val (g.2 100)) :: .c (.val (g.2 101)) :: .c (.val (g.2 102)) :: .c (.val (g.2 103)) :: .c (.val (g.2 104)) :: .c (.val (g.2 105)) :: .c (.val (g.2 106)) :: .c (.val (g.2 107)) :: .c (.val (g.2 108)) :: .c (.val (g.2 109)) :: [])) (fun g => [⟨.x fam, true, [], 3⟩, byB m, o1.blk, ⟨.x f1, true, [], 2⟩, o2.blk, ⟨.x ((o2.l.take k).map (fun p => (p.mv m).ent) ++ pjE m p g.1.1 :: (o2.l.drop (k + 1)).map PY.ent), true, [], 2⟩]) (fun g => p.len - g.1.1) ?_ ?_
        · refine ⟨[0, 1, 2, 3, 4, 5], [4, 7, 8, 9, 11, 12, 13], [2, 4], fun vs2 => ?_⟩
          conv => whnf
          refine ⟨o1.new.1.pure, o2.new.1.pure, ?_⟩
          conv => whnf
          refine ⟨_, _, ?_, ?_, (⟨0, Nat.zero_le _⟩, vs2), rfl, rfl⟩
          · exact ⟨fun _ => rfl, fun _ => rfl, fun _ => rfl, fun _ => rfl, fun _ => rfl, fun _ => rfl, fun _ => rfl, fun _ => rfl, fun _ => rfl, fun _ => rfl, fun _ => rfl, fun _ => rfl, fun _ => rfl, fun _ => rfl, stm _⟩
          · exact ⟨⟨rfl, rfl, rfl, fun _ => rfl⟩, ⟨rfl, rfl, rfl, fun _ => rfl⟩, ⟨rfl, rfl, rfl, fun _ => rfl⟩, ⟨rfl, rfl, rfl, fun _ => rfl⟩, ⟨rfl, rfl, rfl, fun _ => rfl⟩, ⟨congrArg TyX.x (by rw [hp]; exact fK_in m hlt), rfl, rfl, fun _ => rfl⟩, trivial⟩
        · rintro ⟨⟨j, hj⟩, vs2⟩
          have hj : j ≤ p.len := hj
          dsimp only
          conv => whnf
          conv =>
            arg 2
            tactic' =>
              apply eff_index_sli (k := k) (hi := (ow_len hF ho30 hk)) (ho := ?how1) (hT := ?hTw1) (hx := ?hxw1) (hk := ?hkw1) (hlt := ?hltw1)
              case how1 => rfl
              case hTw1 => rfl
              case hxw1 => rfl
              case hkw1 => rfl
              case hltw1 => exact hlt
          conv => whnf
          conv =>
            arg 2
            tactic' =>
              apply eff_load_sub (ho := ?how2) (hT := ?hTw2) (hx := ?hxw2) (hb := ?hbw2) (hm := ?hmw2) (hv := ?hvw2)
              case how2 => rfl
              case hTw2 => rfl
              case hxw2 => rfl
              case hbw2 => rfl
              case hmw2 => exact pa
              case hvw2 => rfl
          conv => whnf
          conv =>
            arg 2
            tactic' =>
              apply eff_len_val (hi := p.ok.ir) (ho := ?how3) (hc := ?hcw3) (ha := ?haw3) (ht := ?htw3) (hT := ?hTw3) (hx := ?hxw3)
              case how3 => rfl
              case hcw3 => rfl
              case haw3 => rfl
              case htw3 => rfl
              case hTw3 => rfl
              case hxw3 => rfl
          conv => whnf
          refine bcase_intro (fun hjl => ?_) (fun hjl => ?_)
          · have hjl : j < p.len := n_lt hjl
            have hjf : j < p.full.length := by rw [hpm.2.2]; exact hjl
            conv => whnf
            conv =>
              arg 2
              tactic' =>
                apply eff_index_sli (k := k) (hi := (ow_len hF ho30 hk)) (ho := ?how1) (hT := ?hTw1) (hx := ?hxw1) (hk := ?hkw1) (hlt := ?hltw1)
                case how1 => rfl
                case hTw1 => rfl
                case hxw1 => rfl
                case hkw1 => rfl
                case hltw1 => exact hlt
            conv => whnf
            conv =>
              arg 2
              tactic' =>
                apply eff_index_sli (k := k) (hi := (ow_len hF ho30 hk)) (ho := ?how1) (hT := ?hTw1) (hx := ?hxw1) (hk := ?hkw1) (hlt := ?hltw1)
                case how1 => rfl
                case hTw1 => rfl
                case hxw1 => rfl
                case hkw1 => rfl
                case hltw1 => exact hlt
            conv => whnf
            refine imp_via (Z := ?Z1_0 ∧ ?Z1_1 ∧ ?Z1_2) (fun hmg => ?cur1) ?nxt1
            case cur1 =>
              refine ⟨?_, ?_, ?_, trivial⟩
              · conv => whnf
                conv =>
                  arg 2
                  tactic' =>
                    apply eff_load_sub (ho := ?how2) (hT := ?hTw2) (hx := ?hxw2) (hb := ?hbw2) (hm := ?hmw2) (hv := ?hvw2)
                    case how2 => rfl
                    case hTw2 => rfl
                    case hxw2 => rfl
                    case hbw2 => rfl
                    case hmw2 => exact pa
                    case hvw2 => rfl
                conv => whnf
                exact hmg.1
              · conv => whnf
                conv =>
                  arg 2
                  tactic' =>
                    apply eff_load_sub (ho := ?how2) (hT := ?hTw2) (hx := ?hxw2) (hb := ?hbw2) (hm := ?hmw2) (hv := ?hvw2)
                    case how2 => rfl
                    case hTw2 => rfl
                    case hxw2 => rfl
                    case hbw2 => rfl
                    case hmw2 => exact pa
                    case hvw2 => rfl
                conv => whnf
                exact hmg.2.1
              · conv => whnf
                exact hmg.2.2
            case nxt1 =>
              refine imp_via (Z := ?Z2_0 ∧ ?Z2_1 ∧ ?Z2_2 ∧ ?Z2_3) (fun hmg => ?cur2) ?nxt2
              case cur2 =>
                refine ⟨?_, ?_, ?_⟩
                · refine ⟨?_, ?_, trivial⟩
                  · conv => whnf
                    conv =>
                      arg 2
                      tactic' =>
                        apply eff_load_sub (ho := ?how2) (hT := ?hTw2) (hx := ?hxw2) (hb := ?hbw2) (hm := ?hmw2) (hv := ?hvw2)
                        case how2 => rfl
                        case hTw2 => rfl
                        case hxw2 => rfl
                        case hbw2 => rfl
                        case hmw2 => exact pa
                        case hvw2 => rfl
                    conv => whnf
                    exact hmg.1
                  · conv => whnf
                    exact hmg.2.1
                · refine ⟨?_, ?_, ?_, trivial⟩
                  · conv => whnf
                    conv =>
                      arg 2
                      tactic' =>
                        apply eff_load_sub (ho := ?how2) (hT := ?hTw2) (hx := ?hxw2) (hb := ?hbw2) (hm := ?hmw2) (hv := ?hvw2)
                        case how2 => rfl
                        case hTw2 => rfl
                        case hxw2 => rfl
                        case hbw2 => rfl
                        case hmw2 => exact pa
                        case hvw2 => rfl
                    conv => whnf
                    exact hmg.1
                  · conv => whnf
                    refine .inr ⟨_, _, _, _, j, rfl, rfl, hjl, ?_⟩
                    conv => whnf
                    exact hmg.2.2.1
                  · conv => whnf
                    exact hmg.2.2.2
                · refine ⟨?_, ?_, trivial⟩
                  · conv => whnf
                    conv =>
                      arg 2
                      tactic' =>
                        apply eff_load_sub (ho := ?how2) (hT := ?hTw2) (hx := ?hxw2) (hb := ?hbw2) (hm := ?hmw2) (hv := ?hvw2)
                        case how2 => rfl
                        case hTw2 => rfl
                        case hxw2 => rfl
                        case hbw2 => rfl
                        case hmw2 => exact pa
                        case hvw2 => rfl
                    conv => whnf
                    exact hmg.2.1
                  · conv => whnf
                    conv =>
                      arg 2
                      tactic' =>
                        apply eff_load_sub (ho := ?how2) (hT := ?hTw2) (hx := ?hxw2) (hb := ?hbw2) (hm := ?hmw2) (hv := ?hvw2)
                        case how2 => rfl
                        case hTw2 => rfl
                        case hxw2 => rfl
                        case hbw2 => rfl
                        case hmw2 => exact pa
                        case hvw2 => rfl
                    conv => whnf
                    exact hmg.2.2.2
              case nxt2 =>
                refine imp_via (Z := ?Z3_0 ∧ ?Z3_1 ∧ ?Z3_2 ∧ ?Z3_3) (fun hmg => ?cur3) ?nxt3
                case cur3 =>
                  refine ⟨?_, ?_, ?_, ?_⟩
                  · refine ⟨?_, ?_, trivial⟩
                    · conv => whnf
                      refine .inr ⟨_, _, _, _, j, rfl, rfl, hjl, ?_⟩
                      conv => whnf
                      exact hmg.1
                    · conv => whnf
                      exact hmg.2.1
                  · refine ⟨?_, trivial⟩
                    · conv => whnf
                      conv =>
                        arg 2
                        tactic' =>
                          apply eff_load_sub (ho := ?how2) (hT := ?hTw2) (hx := ?hxw2) (hb := ?hbw2) (hm := ?hmw2) (hv := ?hvw2)
                          case how2 => rfl
                          case hTw2 => rfl
                          case hxw2 => rfl
                          case hbw2 => rfl
                          case hmw2 => exact pa
                          case hvw2 => rfl
                      conv => whnf
                      exact hmg.2.1
                  · refine ⟨?_, ?_, ?_, trivial⟩
                    · conv => whnf
                      conv =>
                        arg 2
                        tactic' =>
                          apply eff_load_sub (ho := ?how2) (hT := ?hTw2) (hx := ?hxw2) (hb := ?hbw2) (hm := ?hmw2) (hv := ?hvw2)
                          case how2 => rfl
                          case hTw2 => rfl
                          case hxw2 => rfl
                          case hbw2 => rfl
                          case hmw2 => exact pa
                          case hvw2 => rfl
                      conv => whnf
                      exact hmg.1
                    · conv => whnf
                      refine .inr ⟨_, 0, _, 5, _, .agg (ptC p.full[j]), rfl, ⟨_, _, _, rfl, rfl, ⟨pjE m p j, List.mem_append_right _ List.mem_cons_self, rfl, rfl⟩⟩, ⟨part_mv m p.full hjf, fun _ _ => rfl⟩, ?_⟩
                      conv => whnf
                      exact hmg.2.2.1
                    · conv => whnf
                      exact hmg.2.2.2
                  · refine ⟨?_, ?_, trivial⟩
                    · conv => whnf
                      conv =>
                        arg 2
                        tactic' =>
                          apply eff_load_sub (ho := ?how2) (hT := ?hTw2) (hx := ?hxw2) (hb := ?hbw2) (hm := ?hmw2) (hv := ?hvw2)
                          case how2 => rfl
                          case hTw2 => rfl
                          case hxw2 => rfl
                          case hbw2 => rfl
                          case hmw2 => exact pa
                          case hvw2 => rfl
                      conv => whnf
                      exact hmg.2.1
                    · conv => whnf
                      refine .inr ⟨_, _, _, _, j, rfl, rfl, hjl, ?_⟩
                      conv => whnf
                      exact hmg.2.2.2
                case nxt3 =>
                  refine imp_via (Z := ?Z4_0 ∧ ?Z4_1 ∧ ?Z4_2) (fun hmg => ?cur4) ?nxt4
                  case cur4 =>
                    refine ⟨?_, ?_, ?_, ?_⟩
                    · refine ⟨?_, ?_, trivial⟩
                      · conv => whnf
                        refine .inr ⟨_, 0, _, 5, _, .agg (ptC p.full[j]), rfl, ⟨_, _, _, rfl, rfl, ⟨pjE m p j, List.mem_append_right _ List.mem_cons_self, rfl, rfl⟩⟩, ⟨part_mv m p.full hjf, fun _ _ => rfl⟩, ?_⟩
                        conv => whnf
                        exact hmg.1
                      · conv => whnf
                        exact hmg.2.1
                    · refine ⟨?_, trivial⟩
                      · conv => whnf
                        refine .inr ⟨_, _, _, _, j, rfl, rfl, hjl, ?_⟩
                        conv => whnf
                        exact hmg.2.1
                    · refine ⟨?_, ?_, trivial⟩
                      · conv => whnf
                        conv =>
                          arg 2
                          tactic' =>
                            apply eff_load_sub (ho := ?how2) (hT := ?hTw2) (hx := ?hxw2) (hb := ?hbw2) (hm := ?hmw2) (hv := ?hvw2)
                            case how2 => rfl
                            case hTw2 => rfl
                            case hxw2 => rfl
                            case hbw2 => rfl
                            case hmw2 => exact pa
                            case hvw2 => rfl
                        conv => whnf
                        exact hmg.1
                      · conv => whnf
                        exact hmg.2.2
                    · refine ⟨?_, ?_, trivial⟩
                      · conv => whnf
                        conv =>
                          arg 2
                          tactic' =>
                            apply eff_load_sub (ho := ?how2) (hT := ?hTw2) (hx := ?hxw2) (hb := ?hbw2) (hm := ?hmw2) (hv := ?hvw2)
                            case how2 => rfl
                            case hTw2 => rfl
                            case hxw2 => rfl
                            case hbw2 => rfl
                            case hmw2 => exact pa
                            case hvw2 => rfl
                        conv => whnf
                        exact hmg.2.1
                      · conv => whnf
                        refine .inr ⟨_, 0, _, 5, _, .agg (ptC p.full[j]), rfl, ⟨_, _, _, rfl, rfl, ⟨pjE m p j, List.mem_append_right _ List.mem_cons_self, rfl, rfl⟩⟩, ⟨part_mv m p.full hjf, fun _ _ => rfl⟩, ?_⟩
                        conv => whnf
                        exact hmg.2.2
                  case nxt4 =>
                    refine imp_via (Z := ?Z5_0) (fun hmg => ?cur5) ?nxt5
                    case cur5 =>
                      refine ⟨?_, ?_, ?_⟩
                      · refine ⟨?_, trivial⟩
                        · conv => whnf
                          exact hmg
                      · refine ⟨?_, trivial⟩
                        · conv => whnf
                          refine .inr ⟨_, 0, _, 5, _, .agg (ptC p.full[j]), rfl, ⟨_, _, _, rfl, rfl, ⟨pjE m p j, List.mem_append_right _ List.mem_cons_self, rfl, rfl⟩⟩, ⟨part_mv m p.full hjf, fun _ _ => rfl⟩, ?_⟩
                          conv => whnf
                          exact hmg
                      · refine ⟨?_, ?_, trivial⟩
                        · conv => whnf
                          conv =>
                            arg 2
                            tactic' =>
                              apply eff_load_sub (ho := ?how2) (hT := ?hTw2) (hx := ?hxw2) (hb := ?hbw2) (hm := ?hmw2) (hv := ?hvw2)
                              case how2 => rfl
                              case hTw2 => rfl
                              case hxw2 => rfl
                              case hbw2 => rfl
                              case hmw2 => exact pa
                              case hvw2 => rfl
                          conv => whnf
                          exact hmg
                        · clear hmg
                          conv => whnf
                          refine ⟨?_, trivial⟩
                          conv => whnf
                          conv =>
                            arg 2
                            tactic' =>
                              apply eff_load_sub (ho := ?how2) (hT := ?hTw2) (hx := ?hxw2) (hb := ?hbw2) (hm := ?hmw2) (hv := ?hvw2)
                              case how2 => rfl
                              case hTw2 => rfl
                              case hxw2 => rfl
                              case hbw2 => rfl
                              case hmw2 => exact pa
                              case hvw2 => rfl
                          conv => whnf
                          refine .inr ⟨_, _, _, _, j, rfl, rfl, hjl, ?_⟩
                          conv => whnf
                          refine .inr ⟨_, _, 5, (o2.l.take k).map (fun p => (p.mv m).ent), pjE m p j, (o2.l.drop (k + 1)).map PY.ent, ptsC (mvL m p.full (j + 1)), rfl, ⟨rfl, rfl, rfl⟩, rfl, ⟨put_mv m p.full hjf, ptsC_pure _⟩, ⟨⟨.inr rfl, .inl rfl, o1.new.2, .inr rfl, o2.new.2, .inr rfl, trivial⟩, ⟨trivial, trivial, trivial, fun e he => hF.f1 e he p (hp ▸ List.getElem_mem hlt), trivial, trivial, trivial⟩, by rw [hp]; exact dis_k hF.nd hlt⟩, ?_⟩
                          conv => whnf
                          refine ⟨[0, 1, 2, 3, 4, 5], [4, 7, 8, 9, 11, 12, 13], [2, 4], fun vs3 => ?_⟩
                          conv => whnf
                          refine ⟨o1.new.1.pure, o2.new.1.pure, ?_⟩
                          conv => whnf
                          refine ⟨_, _, ?_, ?_, (⟨j + 1, hjl⟩, vs3), (by omega : p.len - (j + 1) < p.len - j), rfl, rfl⟩
                          · exact ⟨fun _ => rfl, fun _ => rfl, fun _ => rfl, fun _ => rfl, fun _ => rfl, fun _ => rfl, fun _ => rfl, fun _ => rfl, fun _ => rfl, fun _ => rfl, fun _ => rfl, fun _ => rfl, fun _ => rfl, fun ρ => sint_e (wrap_add1 hjl p.ok.ir) ρ, stm _⟩
                          · exact ⟨⟨rfl, rfl, rfl, fun _ => rfl⟩, ⟨rfl, rfl, rfl, fun _ => rfl⟩, ⟨rfl, rfl, rfl, fun _ => rfl⟩, ⟨rfl, rfl, rfl, fun _ => rfl⟩, ⟨rfl, rfl, rfl, fun _ => rfl⟩, ⟨rfl, rfl, rfl, fun _ => rfl⟩, trivial⟩
                    case nxt5 =>
                      refine ⟨?_, trivial⟩
                      · conv => whnf
                        refine .inr ⟨_, _, _, _, j, rfl, rfl, hjl, ?_⟩
                        conv => whnf
                        refine .inr ⟨_, _, 5, (o2.l.take k).map (fun p => (p.mv m).ent), pjE m p j, (o2.l.drop (k + 1)).map PY.ent, ptsC (mvL m p.full (j + 1)), rfl, ⟨rfl, rfl, rfl⟩, rfl, ⟨put_mv m p.full hjf, ptsC_pure _⟩, ⟨⟨.inr rfl, .inl rfl, o1.new.2, .inr rfl, o2.new.2, .inr rfl, trivial⟩, ⟨trivial, trivial, trivial, fun e he => hF.f1 e he p (hp ▸ List.getElem_mem hlt), trivial, trivial, trivial⟩, by rw [hp]; exact dis_k hF.nd hlt⟩, ?_⟩
                        conv => whnf
                        refine ⟨[0, 1, 2, 3, 4, 5], [4, 7, 8, 9, 11, 12, 13], [2, 4], fun vs3 => ?_⟩
                        conv => whnf
                        refine ⟨o1.new.1.pure, o2.new.1.pure, ?_⟩
                        conv => whnf
                        refine ⟨_, _, ?_, ?_, (⟨j + 1, hjl⟩, vs3), (by omega : p.len - (j + 1) < p.len - j), rfl, rfl⟩
                        · exact ⟨fun _ => rfl, fun _ => rfl, fun _ => rfl, fun _ => rfl, fun _ => rfl, fun _ => rfl, fun _ => rfl, fun _ => rfl, fun _ => rfl, fun _ => rfl, fun _ => rfl, fun _ => rfl, fun _ => rfl, fun ρ => sint_e (wrap_add1 hjl p.ok.ir) ρ, stm _⟩
                        · exact ⟨⟨rfl, rfl, rfl, fun _ => rfl⟩, ⟨rfl, rfl, rfl, fun _ => rfl⟩, ⟨rfl, rfl, rfl, fun _ => rfl⟩, ⟨rfl, rfl, rfl, fun _ => rfl⟩, ⟨rfl, rfl, rfl, fun _ => rfl⟩, ⟨rfl, rfl, rfl, fun _ => rfl⟩, trivial⟩
          · have hjl : p.len ≤ j := n_ge hjl
            obtain rfl : j = p.len := Nat.le_antisymm hj hjl
            conv => whnf
            refine ⟨[0, 1, 2, 3, 4, 5], [4, 7, 8, 9, 11, 12], [2, 4], fun vs3 => ?_⟩
            conv => whnf
            refine ⟨o1.new.1.pure, o2.new.1.pure, ?_⟩
            conv => whnf
            refine ⟨_, _, ?_, ?_, (⟨k + 1, hlt⟩, vs3), (by omega : o2.l.length - (k + 1) < o2.l.length - k), rfl, rfl⟩
            · exact ⟨fun _ => rfl, fun _ => rfl, fun _ => rfl, fun _ => rfl, fun _ => rfl, fun _ => rfl, fun _ => rfl, fun _ => rfl, fun _ => rfl, fun _ => rfl, fun _ => rfl, fun _ => rfl, fun ρ => sint_e (wrap_add1 hlt (ow_len hF ho30 (Nat.le_refl _))) ρ, stm _⟩
            · exact ⟨⟨rfl, rfl, rfl, fun _ => rfl⟩, ⟨rfl, rfl, rfl, fun _ => rfl⟩, ⟨rfl, rfl, rfl, fun _ => rfl⟩, ⟨rfl, rfl, rfl, fun _ => rfl⟩, ⟨rfl, rfl, rfl, fun _ => rfl⟩, ⟨congrArg TyX.x (by subst hp; exact fK_out m hlt hpm.2.2), rfl, rfl, fun _ => rfl⟩, trivial⟩
      · have hlt : o2.l.length ≤ k := n_ge hlt
        obtain rfl : k = o2.l.length := Nat.le_antisymm hk hlt
        conv => whnf
        refine .inl ?_
        conv => whnf
        refine .inl ?_
        conv => whnf
        refine .inl ?_
        conv => whnf
        refine .inl ?_
        conv => whnf
        refine ⟨3, ?_⟩
        conv => whnf
        refine ⟨.inl rfl, ⟨pysC_pure o1.l, trivial⟩, ⟨_, _, _, _, o1.l, _, rfl, rfl, ⟨by omega, fun p hp => ⟨Nat.le_trans (hI.ps p hp).1 (by decide), (hI.ps p hp).2⟩⟩, fun t f ht hf => ?_⟩⟩
        conv => whnf
        obtain ⟨oM, hoM⟩ : ∃ oM : OY, oM = ⟨o2.l.map (PY.mv m), o2.nl, o2.cap, by rw [List.length_map]; exact o2.ok⟩ := ⟨_, rfl⟩
        refine .inl ?_
        conv => whnf
        refine .inr ⟨[oM.sl 4], [_, _, _, _, oM.blk, _, _, _], ⟨fun ρ => by subst hoM; exact mv_sl ρ, trivial⟩, ⟨sameB _, sameB _, sameB _, sameB _, by subst hoM; exact mv_blk, sameB _, sameB _, sameB _, trivial⟩, ?_⟩
        conv => whnf
        refine .inl ?_
        conv => whnf
        refine .inl ?_
        conv => whnf
        refine ⟨5, ?_⟩
        conv => whnf
        refine ⟨.inl rfl, ⟨pysC_pure oM.l, trivial⟩, ⟨_, _, _, _, oM.l, _, rfl, rfl, ⟨by subst hoM; show (o2.l.map _).length ≤ _; rw [List.length_map, hF.len]; omega, fun q hq => ?_⟩, fun u g hu hg => ?_⟩⟩
        · subst hoM
          obtain ⟨p, hp, rfl⟩ := List.mem_map.1 (show q ∈ o2.l.map (PY.mv m) from hq)
          obtain ⟨i, hi, rfl⟩ := List.mem_iff_getElem.1 hp
          refine ⟨?_, .inr ⟨(o2.l[i].mv m).ent, ?_, ?_, rfl⟩⟩
          · show o2.l[i].len ≤ 1000
            rw [(hF.eq i hi (by have := hF.len; omega)).2.2]; exact Nat.le_trans (hI.ps _ (List.getElem_mem _)).1 (by decide)
          · show _ ∈ fK m o2.l o2.l.length
            unfold fK
            rw [List.take_length]; exact List.mem_append_left _ (List.mem_map.2 ⟨_, hp, rfl⟩)
          · show (o2.l[i].r, 0) = (o2.l[i].r, o2.l[i].o)
            rw [(hF.at_ _ hp).2.1]
        have hmv := heal_mv (m := m) (l := o1.l) (l' := oM.l) (by rw [hoM]; show (o2.l.map _).length = _; rw [List.length_map]; exact hF.len) (fun i hi hi2 => by
          subst hoM
          have hi2 : i < (o2.l.map (PY.mv m)).length := hi2
          rw [List.length_map] at hi2
          obtain ⟨e1, e2, e3⟩ := hF.eq i hi2 hi
          show _ ∧ ((o2.l.map (PY.mv m))[i]'(by rw [List.length_map]; exact hi2)).cor = _ ∧ ((o2.l.map (PY.mv m))[i]'(by rw [List.length_map]; exact hi2)).pl = _
          rw [List.getElem_map]
          refine ⟨hI.sm _ (List.getElem_mem _), ?_, e2⟩
          show (o2.l[i].full.map (mvP m)).take o2.l[i].len = _
          rw [← e1, List.take_of_length_le (by rw [List.length_map, (hF.at_ _ (List.getElem_mem hi2)).2.2]; exact Nat.le_refl _)])
        have hu : u.l = t.l.map (mvT m) := by rw [hu, hmv.1, ht]
        have hg : g.l = f.l := by rw [hg, hmv.2, hf]
        have hul : u.l.length = t.l.length := by rw [hu, List.length_map]
        have ht1 : t.l.length ≤ 240 := by
          have h1 := heal_less o1.l fun p hp => (hI.ps p hp).1
          rw [ht]; omega
        conv => whnf
        refine bcase_intro (fun h => absurd h (by rw [hul]; simp)) (fun _ => ?_)
        conv => whnf
        refine loop_st (G := {k : Nat // k ≤ t.l.length} × (Nat → Value)) (fun x => (.c (.val (x.2 0)) :: .c (.val (x.2 1)) :: .c (.val (x.2 2)) :: .c (.val (x.2 3)) :: .c (.ptr 1 0) :: .c (.val (x.2 5)) :: .c (.val (x.2 6)) :: .c (.val (.bool true)) :: .c (.val (x.2 8)) :: .c (.int m.s m.irs) :: .c (.val (x.2 10)) :: .c (.val (x.2 11)) :: .c (.val (x.2 12)) :: .c (.val (x.2 13)) :: t.sl 2 :: f.sl 3 :: u.sl 4 :: g.sl 5 :: .c (.int (x.1.1 : Nat) (ir_m (Nat.le_trans x.1.2 ht1) (by decide))) :: .c (.val (x.2 19)) :: .c (.val (x.2 20)) :: .c (.val (x.2 21)) :: .c (.val (x.2 22)) :: .c (.val (x.2 23)) :: .c (.val (x.2 24)) :: .c (.val (x.2 25)) :: .c (.val (x.2 26)) :: .c (.val (x.2 27)) :: .c (.val (x.2 28)) :: .c (.val (x.2 29)) :: .c (.val (x.2 30)) :: .c (.val (x.2 31)) :: .c (.val (x.2 32)) :: .c (.val (x.2 33)) :: .c (.val (x.2 34)) :: .c (.val (x.2 35)) :: .c (.val (x.2 36)) :: .c (.val (x.2 37)) :: .c (.val (x.2 38)) :: .c (.val (x.2 39)) :: .c (.val (x.2 40)) :: .c (.val (x.2 41)) :: .c (.val (x.2 42)) :: .c (.val (x.2 43)) :: .c (.val (x.2 44)) :: .c (.val (x.2 45)) :: .c (.val (x.2 46)) :: .c (.val (x.2 47)) :: .c (.val (x.2 48)) :: .c (.val (x.2 49)) :: .c (.val (x.2 50)) :: .c (.val (x.2 51)) :: .c (.val (x.2 52)) :: .c (.val (x.2 53)) :: .c (.val (x.2 54)) :: .c (.val (x.2 55)) :: .c (.val (x.2 56)) :: .c (.val (x.2 57)) :: .c (.val (x.2 58)) :: .c (.val (x.2 59)) :: .c (.val (x.2 60)) :: .c (.val (x.2 61)) :: .c (.val (x.2 62)) :: .c (.val (x.2 63)) :: .c (.val (x.2 64)) :: .c (.val (x.2 65)) :: .c (.val (x.2 66)) :: .c (.val (x.2 67)) :: .c (.val (x.2 68)) :: .c (.val (x.2 69)) :: .c (.val (x.2 70)) :: .c (.val (x.2 71)) :: .c (.val (x.2 72)) :: .c (.val (x.2 73)) :: .c (.val (x.2 74)) :: .c (.val (x.2 75)) :: .c (.val (x.2 76)) :: .c (.val (x.2 77)) :: .c (.val (x.2 78)) :: .c (.val (x.2 79)) :: .c (.val (x.2 80)) :: .c (.val (x.2 81)) :: .c (.val (x.2 82)) :: .c (.val (x.2 83)) :: .c (.val (x.2 84)) :: .c (.val (x.2 85)) :: .c (.val (x.2 86)) :: .c (.val (x.2 87)) :: .c (.val (x.2 88)) :: .c (.val (x.2 89)) :: .c (.val (x.2 90)) :: .c (.val (x.2 91)) :: .c (.val (x.2 92)) :: .c (.val (x.2 93)) :: .c (.val (x.2 94)) :: .c (.val (x.2 95)) :: .c (.val (x.2 96)) :: .c (.val (x.2 97)) :: .c (.val (x.2 98)) :: .c (.val (x.2 99)) :: .c (.val (x.2 100)) :: .c (.val (x.2 101)) :: .c (.val (x.2 102)) :: .c (.val (x.2 103)) :: .c (.val (x.2 104)) :: .c (.val (x.2 105)) :: .c (.val (x.2 106)) :: .c (.val (x.2 107)) :: .c (.val (x.2 108)) :: .c (.val (x.2 109)) :: [])) (fun x => [⟨.x fam, true, [], 3⟩, byB m, t.blk, f.blk, u.blk, g.blk]) (fun x => t.l.length - x.1.1) ?_ ?_
        · refine ⟨[0, 1, 6, 7, 8, 9], [4, 7, 9, 14, 15, 16, 17, 18], [2, 3, 4, 5], fun vs3 => ?_⟩
          conv => whnf
          refine ⟨trsC_pure _, ftsC_pure _, trsC_pure _, ftsC_pure _, ?_⟩
          conv => whnf
          refine ⟨_, _, ?_, ?_, (⟨0, Nat.zero_le _⟩, vs3), rfl, rfl⟩
          · exact ⟨fun _ => rfl, fun _ => rfl, fun _ => rfl, fun _ => rfl, fun _ => rfl, fun _ => rfl, fun _ => rfl, fun _ => rfl, fun _ => rfl, fun _ => rfl, fun _ => rfl, fun _ => rfl, fun _ => rfl, fun _ => rfl, fun _ => rfl, fun _ => rfl, fun _ => rfl, fun _ => rfl, fun _ => rfl, stm _⟩
          · exact ⟨⟨rfl, rfl, rfl, fun _ => rfl⟩, ⟨rfl, rfl, rfl, fun _ => rfl⟩, ⟨rfl, rfl, rfl, fun _ => rfl⟩, ⟨rfl, rfl, rfl, fun _ => rfl⟩, ⟨rfl, rfl, rfl, fun _ => rfl⟩, ⟨rfl, rfl, rfl, fun _ => rfl⟩, trivial⟩
        · rintro ⟨⟨k, hk⟩, vs3⟩
          have hk : k ≤ t.l.length := hk
          dsimp only
          conv => whnf
          refine bcase_intro (fun hkt => ?_) (fun hkt => ?_)
          · have hkt : k < t.l.length := n_lt hkt
            have hku : k < u.l.length := by rw [hul]; exact hkt
            obtain ⟨T, hT⟩ : ∃ T, T = t.l[k] := ⟨_, rfl⟩
            have pT : subC (trsC t.l) (0 + k * 9) 9 = some (trC T) := by rw [Nat.zero_add, hT]; exact subC_trs t.l hkt
            have pU : subC (trsC u.l) (0 + k * 9) 9 = some (trC (mvT m T)) := by
              have e : u.l[k] = mvT m T := by simp only [hu, List.getElem_map, hT]
              rw [Nat.zero_add, ← e]; exact subC_trs u.l hku
            conv => whnf
            conv =>
              arg 2
              tactic' =>
                apply eff_index_sli (k := k) (hi := (ir_m (Nat.le_trans hk ht1) (by decide))) (ho := ?how4) (hT := ?hTw4) (hx := ?hxw4) (hk := ?hkw4) (hlt := ?hltw4)
                case how4 => rfl
                case hTw4 => rfl
                case hxw4 => rfl
                case hkw4 => rfl
                case hltw4 => exact hkt
            conv => whnf
            conv =>
              arg 2
              tactic' =>
                apply eff_load_sub (ho := ?how5) (hT := ?hTw5) (hx := ?hxw5) (hb := ?hbw5) (hm := ?hmw5) (hv := ?hvw5)
                case how5 => rfl
                case hTw5 => rfl
                case hxw5 => rfl
                case hbw5 => rfl
                case hmw5 => exact pT
                case hvw5 => rfl
            conv => whnf
            conv =>
              arg 2
              tactic' =>
                apply eff_index_sli (k := k) (hi := (ir_m (Nat.le_trans hk ht1) (by decide))) (ho := ?how6) (hT := ?hTw6) (hx := ?hxw6) (hk := ?hkw6) (hlt := ?hltw6)
                case how6 => rfl
                case hTw6 => rfl
                case hxw6 => rfl
                case hkw6 => rfl
                case hltw6 => exact hku
            conv => whnf
            conv =>
              arg 2
              tactic' =>
                apply eff_load_sub (ho := ?how7) (hT := ?hTw7) (hx := ?hxw7) (hb := ?hbw7) (hm := ?hmw7) (hv := ?hvw7)
                case how7 => rfl
                case hTw7 => rfl
                case hxw7 => rfl
                case hbw7 => rfl
                case hmw7 => exact pU
                case hvw7 => rfl
            conv => whnf
            refine bcase_intro (fun h => absurd h (by simp [mvT, mvP])) (fun _ => ?_)
            conv => whnf
            refine ⟨[0, 1, 2, 3, 4, 5], [4, 7, 9, 14, 15, 16, 17, 18], [2, 3, 4, 5], fun vs4 => ?_⟩
            conv => whnf
            refine ⟨trsC_pure _, ftsC_pure _, trsC_pure _, ftsC_pure _, ?_⟩
            conv => whnf
            refine ⟨_, _, ?_, ?_, (⟨k + 1, hkt⟩, vs4), (by omega : t.l.length - (k + 1) < t.l.length - k), rfl, rfl⟩
            · exact ⟨fun _ => rfl, fun _ => rfl, fun _ => rfl, fun _ => rfl, fun _ => rfl, fun _ => rfl, fun _ => rfl, fun _ => rfl, fun _ => rfl, fun _ => rfl, fun _ => rfl, fun _ => rfl, fun _ => rfl, fun _ => rfl, fun _ => rfl, fun _ => rfl, fun _ => rfl, fun _ => rfl, fun ρ => sint_e (wrap_add1 hkt (ir_m ht1 (by decide))) ρ, stm _⟩
            · exact ⟨⟨rfl, rfl, rfl, fun _ => rfl⟩, ⟨rfl, rfl, rfl, fun _ => rfl⟩, ⟨rfl, rfl, rfl, fun _ => rfl⟩, ⟨rfl, rfl, rfl, fun _ => rfl⟩, ⟨rfl, rfl, rfl, fun _ => rfl⟩, ⟨rfl, rfl, rfl, fun _ => rfl⟩, trivial⟩
          · conv => whnf
            refine .inl ?_
            conv => whnf
            refine .inl ?_
            conv => whnf
            refine .inl ?_
            conv => whnf
            refine .inl ?_
            conv => whnf
            refine ⟨⟨ftsC_pure _, ftsC_pure _, trivial⟩, ⟨_, _, _, _, _, _, _, _, _, _, f.l, g.l, true, rfl, rfl, Nat.le_refl _, Nat.le_refl _, (by rw [List.take_length, List.take_length, hg]; exact eqFs_iff.2 rfl), ?_⟩⟩
            conv => whnf
            refine ⟨[0], [], fun _ => ?_⟩
            conv => whnf
            exact ⟨_, [], rfl, ⟨⟨rfl, rfl, rfl, fun _ => rfl⟩, trivial⟩, trivial, _, fun _ => rfl, hc⟩
  · refine ⟨fun ρ ρ' e => rfl, ?_⟩
    conv => whnf
    refine .inl ?_
    conv => whnf
    refine .inl ?_
    conv => whnf
    refine .inl ?_
    conv => whnf
    refine .inl ?_
    conv => whnf
    refine ⟨trivial, ⟨rfl, rfl, ?_⟩⟩
    conv => whnf
    refine .inl ?_
    conv => whnf
    refine .inl ?_
    conv => whnf
    refine .inl ?_
    conv => whnf
    refine .inl ?_
    conv => whnf
    refine ⟨0, ?_⟩
    conv => whnf
    refine ⟨.inr rfl, trivial, .inr ⟨_, _, _, rfl, rfl, fun o1 f1 hI => ?_⟩⟩
    conv => whnf
    have ho30 : o1.l.length ≤ 30 := by rw [hI.len]; exact hI.k2
    refine .inl ⟨4, ?_⟩
    conv => whnf
    refine .inl ?_
    conv => whnf
    refine .inl ?_
    conv => whnf
    refine ⟨3, ?_⟩
    conv => whnf
    refine ⟨.inl rfl, ⟨pysC_pure o1.l, trivial⟩, .inl ⟨_, _, _, _, _, _, o1.l.map PY.pn, _, rfl, rfl, pys_pn o1.l, ⟨by rw [List.length_map]; exact Nat.le_refl _, by omega⟩, fun p hp => ?_, fun o2 f2 hO s2 hs1 hs2 => ?_⟩⟩
    · obtain ⟨q, hq, rfl⟩ := List.mem_map.1 hp
      have h1 : q.len ≤ 8 := (hI.ps q hq).1
      exact ⟨by show q.len * 3 ≤ _; omega, (hI.ps q hq).2⟩
    have hF : OwF o1.l o2 f1 := OwF.of hO hs1.2.2.2.1 hs2.2.1
    have hO2 : f2 = o2.l.map PY.ent := hO.fm
    obtain ⟨m, hm⟩ : ∃ m : MV, m = ⟨scM s, b0.tmod 1099511627776, b1.tmod 1099511627776, b2.tmod 1099511627776, scM_eq s, tmM b0, tmM b1, tmM b2⟩ := ⟨_, rfl⟩
    conv => whnf
    refine loop_st (G := {k : Nat // k ≤ o2.l.length} × (Nat → Value)) (fun g => (.c (.val (g.2 0)) :: .c (.val (g.2 1)) :: .c (.val (g.2 2)) :: .c (.val (g.2 3)) :: .c (.ptr 1 0) :: .c (.val (g.2 5)) :: .c (.val (g.2 6)) :: .c (.val (.bool true)) :: o1.sl 2 :: .c (.int m.s m.irs) :: .c (.val (g.2 10)) :: o2.sl 4 :: .c (.int (g.1.1 : Nat) (ow_len hF ho30 g.1.2)) :: .c (.val (g.2 13)) :: .c (.val (g.2 14)) :: .c (.val (g.2 15)) :: .c (.val (g.2 16)) :: .c (.val (g.2 17)) :: .c (.val (g.2 18)) :: .c (.val (g.2 19)) :: .c (.val (g.2 20)) :: .c (.val (g.2 21)) :: .c (.val (g.2 22)) :: .c (.val (g.2 23)) :: .c (.val (g.2 24)) :: .c (.val (g.2 25)) :: .c (.val (g.2 26)) :: .c (.val (g.2 27)) :: .c (.val (g.2 28)) :: .c (.val (g.2 29)) :: .c (.val (g.2 30)) :: .c (.val (g.2 31)) :: .c (.val (g.2 32)) :: .c (.val (g.2 33)) :: .c (.val (g.2 34)) :: .c (.val (g.2 35)) :: .c (.val (g.2 36)) :: .c (.val (g.2 37)) :: .c (.val (g.2 38)) :: .c (.val (g.2 39)) :: .c (.val (g.2 40)) :: .c (.val (g.2 41)) :: .c (.val (g.2 42)) :: .c (.val (g.2 43)) :: .c (.val (g.2 44)) :: .c (.val (g.2 45)) :: .c (.val (g.2 46)) :: .c (.val (g.2 47)) :: .c (.val (g.2 48)) :: .c (.val (g.2 49)) :: .c (.val (g.2 50)) :: .c (.val (g.2 51)) :: .c (.val (g.2 52)) :: .c (.val (g.2 53)) :: .c (.val (g.2 54)) :: .c (.val (g.2 55)) :: .c (.val (g.2 56)) :: .c (.val (g.2 57)) :: .c (.val (g.2 58)) :: .c (.val (g.2 59)) :: .c (.val (g.2 60)) :: .c (.val (g.2 61)) :: .c (.val (g.2 62)) :: .c (.val (g.2 63)) :: .c (.val (g.2 64)) :: .c (.val (g.2 65)) :: .c (.val (g.2 66)) :: .c (.val (g.2 67)) :: .c (.val (g.2 68)) :: .c (.val (g.2 69)) :: .c (.val (g.2 70)) :: .c (.val (g.2 71)) :: .c (.val (g.2 72)) :: .c (.val (g.2 73)) :: .c (.val (g.2 74)) :: .c (.val (g.2 75)) :: .c (.val (g.2 76)) :: .c (.val (g.2 77)) :: .c (.val (g.2 78)) :: .c (.val (g.2 79)) :: .c (.val (g.2 80)) :: .c (.val (g.2 81)) :: .c (.val (g.2 82)) :: .c (.val (g.2 83)) :: .c (.val (g.2 84)) :: .c (.val (g.2 85)) :: .c (.val (g.2 86)) :: .c (.val (g.2 87)) :: .c (.val (g.2 88)) :: .c (.val (g.2 89)) :: .c (.val (g.2 90)) :: .c (.val (g.2 91)) :: .c (.val (g.2 92)) :: .c (.val (g.2 93)) :: .c (.val (g.2 94)) :: .c (.val (g.2 95)) :: .c (.val (g.2 96)) :: .c (.val (g.2 97)) :: .c (.val (g.2 98)) :: .c (.val (g.2 99)) :: .c (.val (g.2 100)) :: .c (.val (g.2 101)) :: .c (.val (g.2 102)) :: .c (.val (g.2 103)) :: .c (.val (g.2 104)) :: .c (.val (g.2 105)) :: .c (.val (g.2 106)) :: .c (.val (g.2 107)) :: .c (.val (g.2 108)) :: .c (.val (g.2 109)) :: [])) (fun g => [⟨.x fam, true, [], 3⟩, byB m, o1.blk, ⟨.x f1, true, [], 2⟩, o2.blk, ⟨.x (fK m o2.l g.1.1), true, [], 2⟩]) (fun g => o2.l.length - g.1.1) ?_ ?_
    · refine ⟨[0, 1, 2, 3, 4, 5], [4, 7, 8, 9, 11, 12], [2, 4], fun vs => ?_⟩
      conv => whnf
      refine ⟨o1.new.1.pure, o2.new.1.pure, ?_⟩
      conv => whnf
      refine ⟨_, _, ?_, ?_, (⟨0, Nat.zero_le _⟩, vs), rfl, rfl⟩
      · exact ⟨fun _ => rfl, fun _ => rfl, fun _ => rfl, fun _ => rfl, fun _ => rfl, fun _ => rfl, fun _ => rfl, fun _ => rfl, fun _ => rfl, fun _ => by subst hm; rfl, fun _ => rfl, fun _ => rfl, fun _ => rfl, stm _⟩
      · exact ⟨⟨rfl, rfl, rfl, fun _ => rfl⟩, ⟨rfl, rfl, rfl, fun _ => by subst hm; rfl⟩, ⟨rfl, rfl, rfl, fun _ => rfl⟩, ⟨rfl, rfl, rfl, fun _ => rfl⟩, ⟨rfl, rfl, rfl, fun _ => rfl⟩, ⟨congrArg TyX.x hO2, rfl, rfl, fun _ => rfl⟩, trivial⟩
    · rintro ⟨⟨k, hk⟩, vs⟩
      have hk : k ≤ o2.l.length := hk
      dsimp only
      conv => whnf
      refine bcase_intro (fun hlt => ?_) (fun hlt => ?_)
      · have hlt : k < o2.l.length := n_lt hlt
        obtain ⟨p, hp⟩ : ∃ p, p = o2.l[k] := ⟨_, rfl⟩
        have hpm := hF.at_ p (hp ▸ List.getElem_mem hlt)
        have hp8 : p.len ≤ 8 := by
          have h1 := (hF.eq k hlt (by have := hF.len; omega)).2.2
          rw [hp, h1]; exact (hI.ps _ (List.getElem_mem _)).1
        have pa : subC (pysC o2.l) (0 + k * 2 + 0) 1 = some [.val (.slice (some ⟨p.r, 0, none⟩) p.len p.cap)] := by rw [← PY.val1 ⟨hpm.1, hpm.2.1⟩]; subst hp; exact subC_py1 o2.l hlt
        conv => whnf
        refine loop_st (G := {j : Nat // j ≤ p.len} × (Nat → Value)) (fun g => (.c (.val (g.2 0)) :: .c (.val (g.2 1)) :: .c (.val (g.2 2)) :: .c (.val (g.2 3)) :: .c (.ptr 1 0) :: .c (.val (g.2 5)) :: .c (.val (g.2 6)) :: .c (.val (.bool true)) :: o1.sl 2 :: .c (.int m.s m.irs) :: .c (.val (g.2 10)) :: o2.sl 4 :: .c (.int (k : Nat) (ow_len hF ho30 hk)) :: .c (.int (g.1.1 : Nat) (ir_8 (Nat.le_trans g.1.2 hp8))) :: .c (.val (g.2 14)) :: .c (.val (g.2 15)) :: .c (.val (g.2 16)) :: .c (.val (g.2 17)) :: .c (.val (g.2 18)) :: .c (.val (g.2 19)) :: .c (.val (g.2 20)) :: .c (.val (g.2 21)) :: .c (.val (g.2 22)) :: .c (.val (g.2 23)) :: .c (.val (g.2 24)) :: .c (.val (g.2 25)) :: .c (.val (g.2 26)) :: .c (.val (g.2 27)) :: .c (.val (g.2 28)) :: .c (.val (g.2 29)) :: .c (.val (g.2 30)) :: .c (.val (g.2 31)) :: .c (.val (g.2 32)) :: .c (.val (g.2 33)) :: .c (.val (g.2 34)) :: .c (.val (g.2 35)) :: .c (.val (g.2 36)) :: .c (.val (g.2 37)) :: .c (.val (g.2 38)) :: .c (.val (g.2 39)) :: .c (.val (g.2 40)) :: .c (.val (g.2 41)) :: .c (.val (g.2 42)) :: .c (.val (g.2 43)) :: .c (.val (g.2 44)) :: .c (.val (g.2 45)) :: .c (.val (g.2 46)) :: .c (.val (g.2 47)) :: .c (.val (g.2 48)) :: .c (.val (g.2 49)) :: .c (.val (g.2 50)) :: .c (.val (g.2 51)) :: .c (.val (g.2 52)) :: .c (.val (g.2 53)) :: .c (.val (g.2 54)) :: .c (.val (g.2 55)) :: .c (.val (g.2 56)) :: .c (.val (g.2 57)) :: .c (.val (g.2 58)) :: .c (.val (g.2 59)) :: .c (.val (g.2 60)) :: .c (.val (g.2 61)) :: .c (.val (g.2 62)) :: .c (.val (g.2 63)) :: .c (.val (g.2 64)) :: .c (.val (g.2 65)) :: .c (.val (g.2 66)) :: .c (.val (g.2 67)) :: .c (.val (g.2 68)) :: .c (.val (g.2 69)) :: .c (.val (g.2 70)) :: .c (.val (g.2 71)) :: .c (.val (g.2 72)) :: .c (.val (g.2 73)) :: .c (.val (g.2 74)) :: .c (.val (g.2 75)) :: .c (.val (g.2 76)) :: .c (.val (g.2 77)) :: .c (.val (g.2 78)) :: .c (.val (g.2 79)) :: .c (.val (g.2 80)) :: .c (.val (g.2 81)) :: .c (.val (g.2 82)) :: .c (.val (g.2 83)) :: .c (.val (g.2 84)) :: .c (.val (g.2 85)) :: .c (.val (g.2 86)) :: .c (.val (g.2 87)) :: .c (.val (g.2 88)) :: .c (.val (g.2 89)) :: .c (.val (g.2 90)) :: .c (.val (g.2 91)) :: .c (.val (g.2 92)) :: .c (.val (g.2 93)) :: .c (.val (g.2 94)) :: .c (.val (g.2 95)) :: .c (.val (g.2 96)) :: .c (.val (g.2 97)) :: .c (.val (g.2 98)) :: .c (.val (g.2 99)) :: .c (.val (g.2 100)) :: .c (.val (g.2 101)) :: .c (.val (g.2 102)) :: .c (.val (g.2 103)) :: .c (.val (g.2 104)) :: .c (.val (g.2 105)) :: .c (.val (g.2 106)) :: .c (.val (g.2 107)) :: .c (.val (g.2 108)) :: .c (.val (g.2 109)) :: [])) (fun g => [⟨.x fam, true, [], 3⟩, byB m, o1.blk, ⟨.x f1, true, [], 2⟩, o2.blk, ⟨.x ((o2.l.take k).map (fun p => (p.mv m).ent) ++ pjE m p g.1.1 :: (o2.l.drop (k + 1)).map PY.ent), true, [], 2⟩]) (fun g => p.len - g.1.1) ?_ ?_
        · refine ⟨[0, 1, 2, 3, 4, 5], [4, 7, 8, 9, 11, 12, 13], [2, 4], fun vs2 => ?_⟩
          conv => whnf
          refine ⟨o1.new.1.pure, o2.new.1.pure, ?_⟩
          conv => whnf
          refine ⟨_, _, ?_, ?_, (⟨0, Nat.zero_le _⟩, vs2), rfl, rfl⟩
          · exact ⟨fun _ => rfl, fun _ => rfl, fun _ => rfl, fun _ => rfl, fun _ => rfl, fun _ => rfl, fun _ => rfl, fun _ => rfl, fun _ => rfl, fun _ => rfl, fun _ => rfl, fun _ => rfl, fun _ => rfl, fun _ => rfl, stm _⟩
          · exact ⟨⟨rfl, rfl, rfl, fun _ => rfl⟩, ⟨rfl, rfl, rfl, fun _ => rfl⟩, ⟨rfl, rfl, rfl, fun _ => rfl⟩, ⟨rfl, rfl, rfl, fun _ => rfl⟩, ⟨rfl, rfl, rfl, fun _ => rfl⟩, ⟨congrArg TyX.x (by rw [hp]; exact fK_in m hlt), rfl, rfl, fun _ => rfl⟩, trivial⟩
        · rintro ⟨⟨j, hj⟩, vs2⟩
          have hj : j ≤ p.len := hj
          dsimp only
          conv => whnf
          conv =>
            arg 2
            tactic' =>
              apply eff_index_sli (k := k) (hi := (ow_len hF ho30 hk)) (ho := ?how8) (hT := ?hTw8) (hx := ?hxw8) (hk := ?hkw8) (hlt := ?hltw8)
              case how8 => rfl
              case hTw8 => rfl
              case hxw8 => rfl
              case hkw8 => rfl
              case hltw8 => exact hlt
          conv => whnf
          conv =>
            arg 2
            tactic' =>
              apply eff_load_sub (ho := ?how9) (hT := ?hTw9) (hx := ?hxw9) (hb := ?hbw9) (hm := ?hmw9) (hv := ?hvw9)
              case how9 => rfl
              case hTw9 => rfl
              case hxw9 => rfl
              case hbw9 => rfl
              case hmw9 => exact pa
              case hvw9 => rfl
          conv => whnf
          conv =>
            arg 2
            tactic' =>
              apply eff_len_val (hi := p.ok.ir) (ho := ?how10) (hc := ?hcw10) (ha := ?haw10) (ht := ?htw10) (hT := ?hTw10) (hx := ?hxw10)
              case how10 => rfl
              case hcw10 => rfl
              case haw10 => rfl
              case htw10 => rfl
              case hTw10 => rfl
              case hxw10 => rfl
          conv => whnf
          refine bcase_intro (fun hjl => ?_) (fun hjl => ?_)
          · have hjl : j < p.len := n_lt hjl
            have hjf : j < p.full.length := by rw [hpm.2.2]; exact hjl
            conv => whnf
            conv =>
              arg 2
              tactic' =>
                apply eff_index_sli (k := k) (hi := (ow_len hF ho30 hk)) (ho := ?how8) (hT := ?hTw8) (hx := ?hxw8) (hk := ?hkw8) (hlt := ?hltw8)
                case how8 => rfl
                case hTw8 => rfl
                case hxw8 => rfl
                case hkw8 => rfl
                case hltw8 => exact hlt
            conv => whnf
            conv =>
              arg 2
              tactic' =>
                apply eff_index_sli (k := k) (hi := (ow_len hF ho30 hk)) (ho := ?how8) (hT := ?hTw8) (hx := ?hxw8) (hk := ?hkw8) (hlt := ?hltw8)
                case how8 => rfl
                case hTw8 => rfl
                case hxw8 => rfl
                case hkw8 => rfl
                case hltw8 => exact hlt
            conv => whnf
            refine imp_via (Z := ?Z7_0 ∧ ?Z7_1 ∧ ?Z7_2) (fun hmg => ?cur7) ?nxt7
            case cur7 =>
              refine ⟨?_, ?_, ?_, trivial⟩
              · conv => whnf
                conv =>
                  arg 2
                  tactic' =>
                    apply eff_load_sub (ho := ?how9) (hT := ?hTw9) (hx := ?hxw9) (hb := ?hbw9) (hm := ?hmw9) (hv := ?hvw9)
                    case how9 => rfl
                    case hTw9 => rfl
                    case hxw9 => rfl
                    case hbw9 => rfl
                    case hmw9 => exact pa
                    case hvw9 => rfl
                conv => whnf
                exact hmg.1
              · conv => whnf
                conv =>
                  arg 2
                  tactic' =>
                    apply eff_load_sub (ho := ?how9) (hT := ?hTw9) (hx := ?hxw9) (hb := ?hbw9) (hm := ?hmw9) (hv := ?hvw9)
                    case how9 => rfl
                    case hTw9 => rfl
                    case hxw9 => rfl
                    case hbw9 => rfl
                    case hmw9 => exact pa
                    case hvw9 => rfl
                conv => whnf
                exact hmg.2.1
              · conv => whnf
                exact hmg.2.2
            case nxt7 =>
              refine imp_via (Z := ?Z8_0 ∧ ?Z8_1 ∧ ?Z8_2 ∧ ?Z8_3) (fun hmg => ?cur8) ?nxt8
              case cur8 =>
                refine ⟨?_, ?_, ?_⟩
                · refine ⟨?_, ?_, trivial⟩
                  · conv => whnf
                    conv =>
                      arg 2
                      tactic' =>
                        apply eff_load_sub (ho := ?how9) (hT := ?hTw9) (hx := ?hxw9) (hb := ?hbw9) (hm := ?hmw9) (hv := ?hvw9)
                        case how9 => rfl
                        case hTw9 => rfl
                        case hxw9 => rfl
                        case hbw9 => rfl
                        case hmw9 => exact pa
                        case hvw9 => rfl
                    conv => whnf
                    exact hmg.1
                  · conv => whnf
                    exact hmg.2.1
                · refine ⟨?_, ?_, ?_, trivial⟩
                  · conv => whnf
                    conv =>
                      arg 2
                      tactic' =>
                        apply eff_load_sub (ho := ?how9) (hT := ?hTw9) (hx := ?hxw9) (hb := ?hbw9) (hm := ?hmw9) (hv := ?hvw9)
                        case how9 => rfl
                        case hTw9 => rfl
                        case hxw9 => rfl
                        case hbw9 => rfl
                        case hmw9 => exact pa
                        case hvw9 => rfl
                    conv => whnf
                    exact hmg.1
                  · conv => whnf
                    refine .inr ⟨_, _, _, _, j, rfl, rfl, hjl, ?_⟩
                    conv => whnf
                    exact hmg.2.2.1
                  · conv => whnf
                    exact hmg.2.2.2
                · refine ⟨?_, ?_, trivial⟩
                  · conv => whnf
                    conv =>
                      arg 2
                      tactic' =>
                        apply eff_load_sub (ho := ?how9) (hT := ?hTw9) (hx := ?hxw9) (hb := ?hbw9) (hm := ?hmw9) (hv := ?hvw9)
                        case how9 => rfl
                        case hTw9 => rfl
                        case hxw9 => rfl
                        case hbw9 => rfl
                        case hmw9 => exact pa
                        case hvw9 => rfl
                    conv => whnf
                    exact hmg.2.1
                  · conv => whnf
                    conv =>
                      arg 2
                      tactic' =>
                        apply eff_load_sub (ho := ?how9) (hT := ?hTw9) (hx := ?hxw9) (hb := ?hbw9) (hm := ?hmw9) (hv := ?hvw9)
                        case how9 => rfl
                        case hTw9 => rfl
                        case hxw9 => rfl
                        case hbw9 => rfl
                        case hmw9 => exact pa
                        case hvw9 => rfl
                    conv => whnf
                    exact hmg.2.2.2
              case nxt8 =>
                refine imp_via (Z := ?Z9_0 ∧ ?Z9_1 ∧ ?Z9_2 ∧ ?Z9_3) (fun hmg => ?cur9) ?nxt9
                case cur9 =>
                  refine ⟨?_, ?_, ?_, ?_⟩
                  · refine ⟨?_, ?_, trivial⟩
                    · conv => whnf
                      refine .inr ⟨_, _, _, _, j, rfl, rfl, hjl, ?_⟩
                      conv => whnf
                      exact hmg.1
                    · conv => whnf
                      exact hmg.2.1
                  · refine ⟨?_, trivial⟩
                    · conv => whnf
                      conv =>
                        arg 2
                        tactic' =>
                          apply eff_load_sub (ho := ?how9) (hT := ?hTw9) (hx := ?hxw9) (hb := ?hbw9) (hm := ?hmw9) (hv := ?hvw9)
                          case how9 => rfl
                          case hTw9 => rfl
                          case hxw9 => rfl
                          case hbw9 => rfl
                          case hmw9 => exact pa
                          case hvw9 => rfl
                      conv => whnf
                      exact hmg.2.1
                  · refine ⟨?_, ?_, ?_, trivial⟩
                    · conv => whnf
                      conv =>
                        arg 2
                        tactic' =>
                          apply eff_load_sub (ho := ?how9) (hT := ?hTw9) (hx := ?hxw9) (hb := ?hbw9) (hm := ?hmw9) (hv := ?hvw9)
                          case how9 => rfl
                          case hTw9 => rfl
                          case hxw9 => rfl
                          case hbw9 => rfl
                          case hmw9 => exact pa
                          case hvw9 => rfl
                      conv => whnf
                      exact hmg.1
                    · conv => whnf
                      refine .inr ⟨_, 0, _, 5, _, .agg (ptC p.full[j]), rfl, ⟨_, _, _, rfl, rfl, ⟨pjE m p j, List.mem_append_right _ List.mem_cons_self, rfl, rfl⟩⟩, ⟨part_mv m p.full hjf, fun _ _ => rfl⟩, ?_⟩
                      conv => whnf
                      exact hmg.2.2.1
                    · conv => whnf
                      exact hmg.2.2.2
                  · refine ⟨?_, ?_, trivial⟩
                    · conv => whnf
                      conv =>
                        arg 2
                        tactic' =>
                          apply eff_load_sub (ho := ?how9) (hT := ?hTw9) (hx := ?hxw9) (hb := ?hbw9) (hm := ?hmw9) (hv := ?hvw9)
                          case how9 => rfl
                          case hTw9 => rfl
                          case hxw9 => rfl
                          case hbw9 => rfl
                          case hmw9 => exact pa
                          case hvw9 => rfl
                      conv => whnf
                      exact hmg.2.1
                    · conv => whnf
                      refine .inr ⟨_, _, _, _, j, rfl, rfl, hjl, ?_⟩
                      conv => whnf
                      exact hmg.2.2.2
                case nxt9 =>
                  refine imp_via (Z := ?Z10_0 ∧ ?Z10_1 ∧ ?Z10_2) (fun hmg => ?cur10) ?nxt10
                  case cur10 =>
                    refine ⟨?_, ?_, ?_, ?_⟩
                    · refine ⟨?_, ?_, trivial⟩
                      · conv => whnf
                        refine .inr ⟨_, 0, _, 5, _, .agg (ptC p.full[j]), rfl, ⟨_, _, _, rfl, rfl, ⟨pjE m p j, List.mem_append_right _ List.mem_cons_self, rfl, rfl⟩⟩, ⟨part_mv m p.full hjf, fun _ _ => rfl⟩, ?_⟩
                        conv => whnf
                        exact hmg.1
                      · conv => whnf
                        exact hmg.2.1
                    · refine ⟨?_, trivial⟩
                      · conv => whnf
                        refine .inr ⟨_, _, _, _, j, rfl, rfl, hjl, ?_⟩
                        conv => whnf
                        exact hmg.2.1
                    · refine ⟨?_, ?_, trivial⟩
                      · conv => whnf
                        conv =>
                          arg 2
                          tactic' =>
                            apply eff_load_sub (ho := ?how9) (hT := ?hTw9) (hx := ?hxw9) (hb := ?hbw9) (hm := ?hmw9) (hv := ?hvw9)
                            case how9 => rfl
                            case hTw9 => rfl
                            case hxw9 => rfl
                            case hbw9 => rfl
                            case hmw9 => exact pa
                            case hvw9 => rfl
                        conv => whnf
                        exact hmg.1
                      · conv => whnf
                        exact hmg.2.2
                    · refine ⟨?_, ?_, trivial⟩
                      · conv => whnf
                        conv =>
                          arg 2
                          tactic' =>
                            apply eff_load_sub (ho := ?how9) (hT := ?hTw9) (hx := ?hxw9) (hb := ?hbw9) (hm := ?hmw9) (hv := ?hvw9)
                            case how9 => rfl
                            case hTw9 => rfl
                            case hxw9 => rfl
                            case hbw9 => rfl
                            case hmw9 => exact pa
                            case hvw9 => rfl
                        conv => whnf
                        exact hmg.2.1
                      · conv => whnf
                        refine .inr ⟨_, 0, _, 5, _, .agg (ptC p.full[j]), rfl, ⟨_, _, _, rfl, rfl, ⟨pjE m p j, List.mem_append_right _ List.mem_cons_self, rfl, rfl⟩⟩, ⟨part_mv m p.full hjf, fun _ _ => rfl⟩, ?_⟩
                        conv => whnf
                        exact hmg.2.2
                  case nxt10 =>
                    refine imp_via (Z := ?Z11_0) (fun hmg => ?cur11) ?nxt11
                    case cur11 =>
                      refine ⟨?_, ?_, ?_⟩
                      · refine ⟨?_, trivial⟩
                        · conv => whnf
                          exact hmg
                      · refine ⟨?_, trivial⟩
                        · conv => whnf
                          refine .inr ⟨_, 0, _, 5, _, .agg (ptC p.full[j]), rfl, ⟨_, _, _, rfl, rfl, ⟨pjE m p j, List.mem_append_right _ List.mem_cons_self, rfl, rfl⟩⟩, ⟨part_mv m p.full hjf, fun _ _ => rfl⟩, ?_⟩
                          conv => whnf
                          exact hmg
                      · refine ⟨?_, ?_, trivial⟩
                        · conv => whnf
                          conv =>
                            arg 2
                            tactic' =>
                              apply eff_load_sub (ho := ?how9) (hT := ?hTw9) (hx := ?hxw9) (hb := ?hbw9) (hm := ?hmw9) (hv := ?hvw9)
                              case how9 => rfl
                              case hTw9 => rfl
                              case hxw9 => rfl
                              case hbw9 => rfl
                              case hmw9 => exact pa
                              case hvw9 => rfl
                          conv => whnf
                          exact hmg
                        · clear hmg
                          conv => whnf
                          refine ⟨?_, trivial⟩
                          conv => whnf
                          conv =>
                            arg 2
                            tactic' =>
                              apply eff_load_sub (ho := ?how9) (hT := ?hTw9) (hx := ?hxw9) (hb := ?hbw9) (hm := ?hmw9) (hv := ?hvw9)
                              case how9 => rfl
                              case hTw9 => rfl
                              case hxw9 => rfl
                              case hbw9 => rfl
                              case hmw9 => exact pa
                              case hvw9 => rfl
                          conv => whnf
                          refine .inr ⟨_, _, _, _, j, rfl, rfl, hjl, ?_⟩
                          conv => whnf
                          refine .inr ⟨_, _, 5, (o2.l.take k).map (fun p => (p.mv m).ent), pjE m p j, (o2.l.drop (k + 1)).map PY.ent, ptsC (mvL m p.full (j + 1)), rfl, ⟨rfl, rfl, rfl⟩, rfl, ⟨put_mv m p.full hjf, ptsC_pure _⟩, ⟨⟨.inr rfl, .inl rfl, o1.new.2, .inr rfl, o2.new.2, .inr rfl, trivial⟩, ⟨trivial, trivial, trivial, fun e he => hF.f1 e he p (hp ▸ List.getElem_mem hlt), trivial, trivial, trivial⟩, by rw [hp]; exact dis_k hF.nd hlt⟩, ?_⟩
                          conv => whnf
                          refine ⟨[0, 1, 2, 3, 4, 5], [4, 7, 8, 9, 11, 12, 13], [2, 4], fun vs3 => ?_⟩
                          conv => whnf
                          refine ⟨o1.new.1.pure, o2.new.1.pure, ?_⟩
                          conv => whnf
                          refine ⟨_, _, ?_, ?_, (⟨j + 1, hjl⟩, vs3), (by omega : p.len - (j + 1) < p.len - j), rfl, rfl⟩
                          · exact ⟨fun _ => rfl, fun _ => rfl, fun _ => rfl, fun _ => rfl, fun _ => rfl, fun _ => rfl, fun _ => rfl, fun _ => rfl, fun _ => rfl, fun _ => rfl, fun _ => rfl, fun _ => rfl, fun _ => rfl, fun ρ => sint_e (wrap_add1 hjl p.ok.ir) ρ, stm _⟩
                          · exact ⟨⟨rfl, rfl, rfl, fun _ => rfl⟩, ⟨rfl, rfl, rfl, fun _ => rfl⟩, ⟨rfl, rfl, rfl, fun _ => rfl⟩, ⟨rfl, rfl, rfl, fun _ => rfl⟩, ⟨rfl, rfl, rfl, fun _ => rfl⟩, ⟨rfl, rfl, rfl, fun _ => rfl⟩, trivial⟩
                    case nxt11 =>
                      refine ⟨?_, trivial⟩
                      · conv => whnf
                        refine .inr ⟨_, _, _, _, j, rfl, rfl, hjl, ?_⟩
                        conv => whnf
                        refine .inr ⟨_, _, 5, (o2.l.take k).map (fun p => (p.mv m).ent), pjE m p j, (o2.l.drop (k + 1)).map PY.ent, ptsC (mvL m p.full (j + 1)), rfl, ⟨rfl, rfl, rfl⟩, rfl, ⟨put_mv m p.full hjf, ptsC_pure _⟩, ⟨⟨.inr rfl, .inl rfl, o1.new.2, .inr rfl, o2.new.2, .inr rfl, trivial⟩, ⟨trivial, trivial, trivial, fun e he => hF.f1 e he p (hp ▸ List.getElem_mem hlt), trivial, trivial, trivial⟩, by rw [hp]; exact dis_k hF.nd hlt⟩, ?_⟩
                        conv => whnf
                        refine ⟨[0, 1, 2, 3, 4, 5], [4, 7, 8, 9, 11, 12, 13], [2, 4], fun vs3 => ?_⟩
                        conv => whnf
                        refine ⟨o1.new.1.pure, o2.new.1.pure, ?_⟩
                        conv => whnf
                        refine ⟨_, _, ?_, ?_, (⟨j + 1, hjl⟩, vs3), (by omega : p.len - (j + 1) < p.len - j), rfl, rfl⟩
                        · exact ⟨fun _ => rfl, fun _ => rfl, fun _ => rfl, fun _ => rfl, fun _ => rfl, fun _ => rfl, fun _ => rfl, fun _ => rfl, fun _ => rfl, fun _ => rfl, fun _ => rfl, fun _ => rfl, fun _ => rfl, fun ρ => sint_e (wrap_add1 hjl p.ok.ir) ρ, stm _⟩
                        · exact ⟨⟨rfl, rfl, rfl, fun _ => rfl⟩, ⟨rfl, rfl, rfl, fun _ => rfl⟩, ⟨rfl, rfl, rfl, fun _ => rfl⟩, ⟨rfl, rfl, rfl, fun _ => rfl⟩, ⟨rfl, rfl, rfl, fun _ => rfl⟩, ⟨rfl, rfl, rfl, fun _ => rfl⟩, trivial⟩
          · have hjl : p.len ≤ j := n_ge hjl
            obtain rfl : j = p.len := Nat.le_antisymm hj hjl
            conv => whnf
            refine ⟨[0, 1, 2, 3, 4, 5], [4, 7, 8, 9, 11, 12], [2, 4], fun vs3 => ?_⟩
            conv => whnf
            refine ⟨o1.new.1.pure, o2.new.1.pure, ?_⟩
            conv => whnf
            refine ⟨_, _, ?_, ?_, (⟨k + 1, hlt⟩, vs3), (by omega : o2.l.length - (k + 1) < o2.l.length - k), rfl, rfl⟩
            · exact ⟨fun _ => rfl, fun _ => rfl, fun _ => rfl, fun _ => rfl, fun _ => rfl, fun _ => rfl, fun _ => rfl, fun _ => rfl, fun _ => rfl, fun _ => rfl, fun _ => rfl, fun _ => rfl, fun ρ => sint_e (wrap_add1 hlt (ow_len hF ho30 (Nat.le_refl _))) ρ, stm _⟩
            · exact ⟨⟨rfl, rfl, rfl, fun _ => rfl⟩, ⟨rfl, rfl, rfl, fun _ => rfl⟩, ⟨rfl, rfl, rfl, fun _ => rfl⟩, ⟨rfl, rfl, rfl, fun _ => rfl⟩, ⟨rfl, rfl, rfl, fun _ => rfl⟩, ⟨congrArg TyX.x (by subst hp; exact fK_out m hlt hpm.2.2), rfl, rfl, fun _ => rfl⟩, trivial⟩
      · have hlt : o2.l.length ≤ k := n_ge hlt
        obtain rfl : k = o2.l.length := Nat.le_antisymm hk hlt
        conv => whnf
        refine .inl ?_
        conv => whnf
        refine .inl ?_
        conv => whnf
        refine .inl ?_
        conv => whnf
        refine .inl ?_
        conv => whnf
        refine ⟨3, ?_⟩
        conv => whnf
        refine ⟨.inl rfl, ⟨pysC_pure o1.l, trivial⟩, ⟨_, _, _, _, o1.l, _, rfl, rfl, ⟨by omega, fun p hp => ⟨Nat.le_trans (hI.ps p hp).1 (by decide), (hI.ps p hp).2⟩⟩, fun t f ht hf => ?_⟩⟩
        conv => whnf
        obtain ⟨oM, hoM⟩ : ∃ oM : OY, oM = ⟨o2.l.map (PY.mv m), o2.nl, o2.cap, by rw [List.length_map]; exact o2.ok⟩ := ⟨_, rfl⟩
        refine .inl ?_
        conv => whnf
        refine .inr ⟨[oM.sl 4], [_, _, _, _, oM.blk, _, _, _], ⟨fun ρ => by subst hoM; exact mv_sl ρ, trivial⟩, ⟨sameB _, sameB _, sameB _, sameB _, by subst hoM; exact mv_blk, sameB _, sameB _, sameB _, trivial⟩, ?_⟩
        conv => whnf
        refine .inl ?_
        conv => whnf
        refine .inl ?_
        conv => whnf
        refine ⟨5, ?_⟩
        conv => whnf
        refine ⟨.inl rfl, ⟨pysC_pure oM.l, trivial⟩, ⟨_, _, _, _, oM.l, _, rfl, rfl, ⟨by subst hoM; show (o2.l.map _).length ≤ _; rw [List.length_map, hF.len]; omega, fun q hq => ?_⟩, fun u g hu hg => ?_⟩⟩
        · subst hoM
          obtain ⟨p, hp, rfl⟩ := List.mem_map.1 (show q ∈ o2.l.map (PY.mv m) from hq)
          obtain ⟨i, hi, rfl⟩ := List.mem_iff_getElem.1 hp
          refine ⟨?_, .inr ⟨(o2.l[i].mv m).ent, ?_, ?_, rfl⟩⟩
          · show o2.l[i].len ≤ 1000
            rw [(hF.eq i hi (by have := hF.len; omega)).2.2]; exact Nat.le_trans (hI.ps _ (List.getElem_mem _)).1 (by decide)
          · show _ ∈ fK m o2.l o2.l.length
            unfold fK
            rw [List.take_length]; exact List.mem_append_left _ (List.mem_map.2 ⟨_, hp, rfl⟩)
          · show (o2.l[i].r, 0) = (o2.l[i].r, o2.l[i].o)
            rw [(hF.at_ _ hp).2.1]
        have hmv := heal_mv (m := m) (l := o1.l) (l' := oM.l) (by rw [hoM]; show (o2.l.map _).length = _; rw [List.length_map]; exact hF.len) (fun i hi hi2 => by
          subst hoM
          have hi2 : i < (o2.l.map (PY.mv m)).length := hi2
          rw [List.length_map] at hi2
          obtain ⟨e1, e2, e3⟩ := hF.eq i hi2 hi
          show _ ∧ ((o2.l.map (PY.mv m))[i]'(by rw [List.length_map]; exact hi2)).cor = _ ∧ ((o2.l.map (PY.mv m))[i]'(by rw [List.length_map]; exact hi2)).pl = _
          rw [List.getElem_map]
          refine ⟨hI.sm _ (List.getElem_mem _), ?_, e2⟩
          show (o2.l[i].full.map (mvP m)).take o2.l[i].len = _
          rw [← e1, List.take_of_length_le (by rw [List.length_map, (hF.at_ _ (List.getElem_mem hi2)).2.2]; exact Nat.le_refl _)])
        have hu : u.l = t.l.map (mvT m) := by rw [hu, hmv.1, ht]
        have hg : g.l = f.l := by rw [hg, hmv.2, hf]
        have hul : u.l.length = t.l.length := by rw [hu, List.length_map]
        have ht1 : t.l.length ≤ 240 := by
          have h1 := heal_less o1.l fun p hp => (hI.ps p hp).1
          rw [ht]; omega
        conv => whnf
        refine bcase_intro (fun h => absurd h (by rw [hul]; simp)) (fun _ => ?_)
        conv => whnf
        refine loop_st (G := {k : Nat // k ≤ t.l.length} × (Nat → Value)) (fun x => (.c (.val (x.2 0)) :: .c (.val (x.2 1)) :: .c (.val (x.2 2)) :: .c (.val (x.2 3)) :: .c (.ptr 1 0) :: .c (.val (x.2 5)) :: .c (.val (x.2 6)) :: .c (.val (.bool true)) :: .c (.val (x.2 8)) :: .c (.int m.s m.irs) :: .c (.val (x.2 10)) :: .c (.val (x.2 11)) :: .c (.val (x.2 12)) :: .c (.val (x.2 13)) :: t.sl 2 :: f.sl 3 :: u.sl 4 :: g.sl 5 :: .c (.int (x.1.1 : Nat) (ir_m (Nat.le_trans x.1.2 ht1) (by decide))) :: .c (.val (x.2 19)) :: .c (.val (x.2 20)) :: .c (.val (x.2 21)) :: .c (.val (x.2 22)) :: .c (.val (x.2 23)) :: .c (.val (x.2 24)) :: .c (.val (x.2 25)) :: .c (.val (x.2 26)) :: .c (.val (x.2 27)) :: .c (.val (x.2 28)) :: .c (.val (x.2 29)) :: .c (.val (x.2 30)) :: .c (.val (x.2 31)) :: .c (.val (x.2 32)) :: .c (.val (x.2 33)) :: .c (.val (x.2 34)) :: .c (.val (x.2 35)) :: .c (.val (x.2 36)) :: .c (.val (x.2 37)) :: .c (.val (x.2 38)) :: .c (.val (x.2 39)) :: .c (.val (x.2 40)) :: .c (.val (x.2 41)) :: .c (.val (x.2 42)) :: .c (.val (x.2 43)) :: .c (.val (x.2 44)) :: .c (.val (x.2 45)) :: .c (.val (x.2 46)) :: .c (.val (x.2 47)) :: .c (.val (x.2 48)) :: .c (.val (x.2 49)) :: .c (.val (x.2 50)) :: .c (.val (x.2 51)) :: .c (.val (x.2 52)) :: .c (.val (x.2 53)) :: .c (.val (x.2 54)) :: .c (.val (x.2 55)) :: .c (.val (x.2 56)) :: .c (.val (x.2 57)) :: .c (.val (x.2 58)) :: .c (.val (x.2 59)) :: .c (.val (x.2 60)) :: .c (.val (x.2 61)) :: .c (.val (x.2 62)) :: .c (.val (x.2 63)) :: .c (.val (x.2 64)) :: .c (.val (x.2 65)) :: .c (.val (x.2 66)) :: .c (.val (x.2 67)) :: .c (.val (x.2 68)) :: .c (.val (x.2 69)) :: .c (.val (x.2 70)) :: .c (.val (x.2 71)) :: .c (.val (x.2 72)) :: .c (.val (x.2 73)) :: .c (.val (x.2 74)) :: .c (.val (x.2 75)) :: .c (.val (x.2 76)) :: .c (.val (x.2 77)) :: .c (.val (x.2 78)) :: .c (.val (x.2 79)) :: .c (.val (x.2 80)) :: .c (.val (x.2 81)) :: .c (.val (x.2 82)) :: .c (.val (x.2 83)) :: .c (.val (x.2 84)) :: .c (.val (x.2 85)) :: .c (.val (x.2 86)) :: .c (.val (x.2 87)) :: .c (.val (x.2 88)) :: .c (.val (x.2 89)) :: .c (.val (x.2 90)) :: .c (.val (x.2 91)) :: .c (.val (x.2 92)) :: .c (.val (x.2 93)) :: .c (.val (x.2 94)) :: .c (.val (x.2 95)) :: .c (.val (x.2 96)) :: .c (.val (x.2 97)) :: .c (.val (x.2 98)) :: .c (.val (x.2 99)) :: .c (.val (x.2 100)) :: .c (.val (x.2 101)) :: .c (.val (x.2 102)) :: .c (.val (x.2 103)) :: .c (.val (x.2 104)) :: .c (.val (x.2 105)) :: .c (.val (x.2 106)) :: .c (.val (x.2 107)) :: .c (.val (x.2 108)) :: .c (.val (x.2 109)) :: [])) (fun x => [⟨.x fam, true, [], 3⟩, byB m, t.blk, f.blk, u.blk, g.blk]) (fun x => t.l.length - x.1.1) ?_ ?_
        · refine ⟨[0, 1, 6, 7, 8, 9], [4, 7, 9, 14, 15, 16, 17, 18], [2, 3, 4, 5], fun vs3 => ?_⟩
          conv => whnf
          refine ⟨trsC_pure _, ftsC_pure _, trsC_pure _, ftsC_pure _, ?_⟩
          conv => whnf
          refine ⟨_, _, ?_, ?_, (⟨0, Nat.zero_le _⟩, vs3), rfl, rfl⟩
          · exact ⟨fun _ => rfl, fun _ => rfl, fun _ => rfl, fun _ => rfl, fun _ => rfl, fun _ => rfl, fun _ => rfl, fun _ => rfl, fun _ => rfl, fun _ => rfl, fun _ => rfl, fun _ => rfl, fun _ => rfl, fun _ => rfl, fun _ => rfl, fun _ => rfl, fun _ => rfl, fun _ => rfl, fun _ => rfl, stm _⟩
          · exact ⟨⟨rfl, rfl, rfl, fun _ => rfl⟩, ⟨rfl, rfl, rfl, fun _ => rfl⟩, ⟨rfl, rfl, rfl, fun _ => rfl⟩, ⟨rfl, rfl, rfl, fun _ => rfl⟩, ⟨rfl, rfl, rfl, fun _ => rfl⟩, ⟨rfl, rfl, rfl, fun _ => rfl⟩, trivial⟩
        · rintro ⟨⟨k, hk⟩, vs3⟩
          have hk : k ≤ t.l.length := hk
          dsimp only
          conv => whnf
          refine bcase_intro (fun hkt => ?_) (fun hkt => ?_)
          · have hkt : k < t.l.length := n_lt hkt
            have hku : k < u.l.length := by rw [hul]; exact hkt
            obtain ⟨T, hT⟩ : ∃ T, T = t.l[k] := ⟨_, rfl⟩
            have pT : subC (trsC t.l) (0 + k * 9) 9 = some (trC T) := by rw [Nat.zero_add, hT]; exact subC_trs t.l hkt
            have pU : subC (trsC u.l) (0 + k * 9) 9 = some (trC (mvT m T)) := by
              have e : u.l[k] = mvT m T := by simp only [hu, List.getElem_map, hT]
              rw [Nat.zero_add, ← e]; exact subC_trs u.l hku
            conv => whnf
            conv =>
              arg 2
              tactic' =>
                apply eff_index_sli (k := k) (hi := (ir_m (Nat.le_trans hk ht1) (by decide))) (ho := ?how11) (hT := ?hTw11) (hx := ?hxw11) (hk := ?hkw11) (hlt := ?hltw11)
                case how11 => rfl
                case hTw11 => rfl
                case hxw11 => rfl
                case hkw11 => rfl
                case hltw11 => exact hkt
            conv => whnf
            conv =>
              arg 2
              tactic' =>
                apply eff_load_sub (ho := ?how12) (hT := ?hTw12) (hx := ?hxw12) (hb := ?hbw12) (hm := ?hmw12) (hv := ?hvw12)
                case how12 => rfl
                case hTw12 => rfl
                case hxw12 => rfl
                case hbw12 => rfl
                case hmw12 => exact pT
                case hvw12 => rfl
            conv => whnf
            conv =>
              arg 2
              tactic' =>
                apply eff_index_sli (k := k) (hi := (ir_m (Nat.le_trans hk ht1) (by decide))) (ho := ?how13) (hT := ?hTw13) (hx := ?hxw13) (hk := ?hkw13) (hlt := ?hltw13)
                case how13 => rfl
                case hTw13 => rfl
                case hxw13 => rfl
                case hkw13 => rfl
                case hltw13 => exact hku
            conv => whnf
            conv =>
              arg 2
              tactic' =>
                apply eff_load_sub (ho := ?how14) (hT := ?hTw14) (hx := ?hxw14) (hb := ?hbw14) (hm := ?hmw14) (hv := ?hvw14)
                case how14 => rfl
                case hTw14 => rfl
                case hxw14 => rfl
                case hbw14 => rfl
                case hmw14 => exact pU
                case hvw14 => rfl
            conv => whnf
            refine bcase_intro (fun h => absurd h (by simp [mvT, mvP])) (fun _ => ?_)
            conv => whnf
            refine ⟨[0, 1, 2, 3, 4, 5], [4, 7, 9, 14, 15, 16, 17, 18], [2, 3, 4, 5], fun vs4 => ?_⟩
            conv => whnf
            refine ⟨trsC_pure _, ftsC_pure _, trsC_pure _, ftsC_pure _, ?_⟩
            conv => whnf
            refine ⟨_, _, ?_, ?_, (⟨k + 1, hkt⟩, vs4), (by omega : t.l.length - (k + 1) < t.l.length - k), rfl, rfl⟩
            · exact ⟨fun _ => rfl, fun _ => rfl, fun _ => rfl, fun _ => rfl, fun _ => rfl, fun _ => rfl, fun _ => rfl, fun _ => rfl, fun _ => rfl, fun _ => rfl, fun _ => rfl, fun _ => rfl, fun _ => rfl, fun _ => rfl, fun _ => rfl, fun _ => rfl, fun _ => rfl, fun _ => rfl, fun ρ => sint_e (wrap_add1 hkt (ir_m ht1 (by decide))) ρ, stm _⟩
            · exact ⟨⟨rfl, rfl, rfl, fun _ => rfl⟩, ⟨rfl, rfl, rfl, fun _ => rfl⟩, ⟨rfl, rfl, rfl, fun _ => rfl⟩, ⟨rfl, rfl, rfl, fun _ => rfl⟩, ⟨rfl, rfl, rfl, fun _ => rfl⟩, ⟨rfl, rfl, rfl, fun _ => rfl⟩, trivial⟩
          · conv => whnf
            refine .inl ?_
            conv => whnf
            refine .inl ?_
            conv => whnf
            refine .inl ?_
            conv => whnf
            refine .inl ?_
            conv => whnf
            refine ⟨⟨ftsC_pure _, ftsC_pure _, trivial⟩, ⟨_, _, _, _, _, _, _, _, _, _, f.l, g.l, true, rfl, rfl, Nat.le_refl _, Nat.le_refl _, (by rw [List.take_length, List.take_length, hg]; exact eqFs_iff.2 rfl), ?_⟩⟩
            conv => whnf
            refine ⟨[0], [], fun _ => ?_⟩
            conv => whnf
            exact ⟨_, [], rfl, ⟨⟨rfl, rfl, rfl, fun _ => rfl⟩, trivial⟩, trivial, _, fun _ => rfl, hc⟩
end Go.Proofs.YtdjpbccaglkafaaDoor
