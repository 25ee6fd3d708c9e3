/- Rows over arguments of plain values: the arguments opened, the reading behind the call. -/
import Derived.Test.YtdjpbccaglkafaaDoorRows
import Derived.Test.YtdjpbccaglkafaaDoorHA
import Derived.ChangeSlices
import Derived.ProofKit
import Derived.OpenShut
import Derived.Carry
import Derived.LaidMore
import Derived.Lay
import Derived.SevenTiedAt
import Derived.Stop.Joined
namespace Go.Proofs.YtdjpbccaglkafaaDoor
open Go.ChangeShapes Go.WideShapes Go.ChangeAt Go.RowKit
set_option maxRecDepth 100000

theorem own : ownKnob Tryd.prog.godebug = none := by kernel_rfl
theorem laidOut : laidOutB Tryd.prog = true := by kernel_rfl

section
variable {H : Type} {enc : TypeId × Value → H}
theorem trodAll_stays {W W' : World} (hb : Below W.heap.size W W') {sp : Nat → Bool} : ∀ {ts : List TypeId} {vs : List Value} {ds : List (DataW H)} {ps : List MemPlace}, DataW.TrodAll enc Tryd.prog W 0 (fun _ => true) true ts vs ds ps →
    (∀ t ∈ ts, Tryd.prog.readableRec t = true ∧ t < Tryd.prog.types.size) → (∀ x ∈ ps, x.block < W.heap.size) → (∀ x ∈ ps, sp x.block = true) → DataW.TrodAll enc Tryd.prog W' 0 sp true ts vs ds ps
  | [], [], [], _, h, _, _, _ => h
  | t :: ts, v :: vs, d :: ds, ps, h, ht, hlt, hsp => by
    obtain ⟨p, q, h1, h2, rfl⟩ := h
    refine ⟨p, q, WideElems.Trod_stays laidOut (ht t List.mem_cons_self).1 (ht t List.mem_cons_self).2 h1 (fun x hx => hb.same (hlt x (List.mem_append_left _ hx))) (fun x hx => hsp x (List.mem_append_left _ hx)), ?_, rfl⟩
    exact trodAll_stays hb h2 (fun t ht' => ht t (List.mem_cons_of_mem _ ht')) (fun x hx => hlt x (List.mem_append_right _ hx)) (fun x hx => hsp x (List.mem_append_right _ hx))
  | [], _ :: _, _, _, h, _, _, _ => h.elim
  | [], [], _ :: _, _, h, _, _, _ => h.elim
  | _ :: _, [], _, _, h, _, _, _ => by cases ‹List (DataW H)› <;> exact h.elim
  | _ :: _, _ :: _, [], _, h, _, _, _ => h.elim

variable {w : World} {base : Nat} {sp : Nat → Bool} {held : Bool}
theorem cells_int {t : TypeId} (ht : Tryd.prog.underlying t = some (.int .i64)) {fuel : Nat} {c : Value} {x : DataW H × List MemPlace} (h : DataW.trod enc Tryd.prog w base sp held fuel t [c] = some x) : ∃ z, c = .int .i64 z ∧ IR z := by
  obtain ⟨z, e, _, hw⟩ := DataW.trod_int ht h
  have := bounds_i64 hw
  exact ⟨z, by simpa using e, this⟩
theorem u3 : Tryd.prog.underlying 3 = some (.int .i64) := by kernel_rfl
theorem trod_elems {t e : TypeId} {n k : Nat} (ht : Tryd.prog.underlying t = some (.array n e)) (hk : Tryd.prog.cellsOf e = k) {fuel : Nat} {l : List Value} {x : DataW H × List MemPlace} (h : DataW.trod enc Tryd.prog w base sp held fuel t l = some x) :
    l.length = Tryd.prog.cellsOf t ∧ ∀ i, i < n → ∃ m y, DataW.trod enc Tryd.prog w base sp held m e ((l.drop (i * k)).take k) = some y := by
  obtain ⟨xs, m, _, _, hl, hn, hf⟩ := DataW.trod_array ht h
  refine ⟨hl, fun i hi => ?_⟩
  have := hf i hi
  rw [hk] at this
  exact ⟨m, xs[i]'(by omega), this.trans (List.getElem?_eq_getElem (by omega))⟩
theorem okWide_array {t e : TypeId} {n : Nat} (ht : Tryd.prog.underlying t = some (.array n e)) {b0 : Nat} {v : Value} (h : Value.okWide Tryd.prog w .any b0 t v) : ∃ cs : Array Value, v = .agg cs := by
  unfold Value.okWide at h
  rw [ht] at h
  obtain ⟨cs, e, _⟩ := h
  exact ⟨cs, e⟩
theorem cz_int : Tryd.prog.cellsOf 3 = 1 := by kernel_rfl
theorem open_int {b0 : Nat} {v : Value} {d : DataW H} {ps : List MemPlace} (hval : Value.okWide Tryd.prog w .any b0 3 v) (hd : DataW.Trod enc Tryd.prog w base sp held 3 v d ps) : ∃ x : Int, v = .int .i64 x ∧ IR x := by
  obtain ⟨x, rfl⟩ := okWide_int u3 hval
  obtain ⟨fuel, h⟩ := hd
  obtain ⟨y, e, hy⟩ := cells_int u3 h
  refine ⟨x, rfl, ?_⟩
  simp only [Value.int.injEq, true_and] at e
  rw [e]; exact hy
theorem cz_api_Point : Tryd.prog.cellsOf 34 = 3 := by kernel_rfl
theorem cells_api_Point {fuel : Nat} {l : List Value} {x : DataW H × List MemPlace} (h : DataW.trod enc Tryd.prog w base sp held fuel 34 l = some x) : ∃ (v0 v1 v2 : Int), l = [.int .i64 v0, .int .i64 v1, .int .i64 v2] ∧ IR v0 ∧ IR v1 ∧ IR v2 := by
  obtain ⟨xs, n, _, _, hl, hn, hf⟩ := DataW.trod_struct Tryd.underlying34 h
  rw [cz_api_Point] at hl
  match l, hl with
  | [a0, a1, a2], _ =>
    have hn : xs.length = 3 := hn
    match xs, hn with
    | [y0, y1, y2], _ =>
      have g0 := hf 0 _ rfl
      have h0 : DataW.trod enc Tryd.prog w base sp held n 3 (([a0, a1, a2].drop 0).take (Tryd.prog.cellsOf 3)) = some y0 := g0
      rw [cz_int] at h0
      change DataW.trod enc Tryd.prog w base sp held n 3 [a0] = some y0 at h0
      have g1 := hf 1 _ rfl
      have h1 : DataW.trod enc Tryd.prog w base sp held n 3 (([a0, a1, a2].drop 1).take (Tryd.prog.cellsOf 3)) = some y1 := g1
      rw [cz_int] at h1
      change DataW.trod enc Tryd.prog w base sp held n 3 [a1] = some y1 at h1
      have g2 := hf 2 _ rfl
      have h2 : DataW.trod enc Tryd.prog w base sp held n 3 (([a0, a1, a2].drop 2).take (Tryd.prog.cellsOf 3)) = some y2 := g2
      rw [cz_int] at h2
      change DataW.trod enc Tryd.prog w base sp held n 3 [a2] = some y2 at h2
      obtain ⟨v0, rfl, k0⟩ := cells_int u3 h0
      obtain ⟨v1, rfl, k1⟩ := cells_int u3 h1
      obtain ⟨v2, rfl, k2⟩ := cells_int u3 h2
      exact ⟨v0, v1, v2, rfl, k0, k1, k2⟩
theorem open_api_Point {b0 : Nat} {v : Value} {d : DataW H} {ps : List MemPlace} (hval : Value.okWide Tryd.prog w .any b0 34 v) (hd : DataW.Trod enc Tryd.prog w base sp held 34 v d ps) : ∃ (v0 v1 v2 : Int), v = .agg #[.int .i64 v0, .int .i64 v1, .int .i64 v2] ∧ IR v0 ∧ IR v1 ∧ IR v2 := by
  obtain ⟨cs, rfl, _⟩ := okWide_struct Tryd.underlying34 hval
  obtain ⟨fuel, h⟩ := hd
  obtain ⟨v0, v1, v2, e, hh⟩ := cells_api_Point h
  refine ⟨v0, v1, v2, ?_, hh⟩
  have e : cs.toList = [.int .i64 v0, .int .i64 v1, .int .i64 v2] := e
  rw [← Array.toArray_toList (xs := cs), e]
end
theorem weights_two {H : Type} {P : Program} {t : TypeId} {ts : List TypeId} {d : DataW H} {ds : List (DataW H)} (h : (DataW.weightsEach P (t :: ts) (d :: ds)).all (· ≤ reachBytes) = true) : (d.weights P t).all (· ≤ reachBytes) = true ∧ (DataW.weightsEach P ts ds).all (· ≤ reachBytes) = true := by
  unfold DataW.weightsEach at h
  rw [List.all_append, Bool.and_eq_true] at h
  exact h
theorem weights_mem {H : Type} {P : Program} {e : TypeId} : ∀ {l : List (DataW H)}, (DataW.weightsAll P e l).all (· ≤ reachBytes) = true → ∀ d ∈ l, (d.weights P e).all (· ≤ reachBytes) = true
  | [], _, d, hd => by cases hd
  | x :: l, h, d, hd => by
    unfold DataW.weightsAll at h
    rw [List.all_append, Bool.and_eq_true] at h
    rcases List.mem_cons.1 hd with rfl | hd
    · exact h.1
    · exact weights_mem h.2 d hd
theorem cellsL_pns (ρ : Rho) : ∀ L : List PN, cellsL ρ (pnsC L) = L.flatMap fun p => [p.val, .int .i64 p.pl]
  | [] => rfl
  | z :: l => by rw [pnsC, cellsL_append, cellsL_pns ρ l]; rfl
theorem cellsL_pts (ρ : Rho) : ∀ L : List PT, cellsL ρ (ptsC L) = L.flatMap fun p => [.int .i64 p.x, .int .i64 p.y, .int .i64 p.z]
  | [] => rfl
  | z :: l => by rw [ptsC, cellsL_append, cellsL_pts ρ l]; rfl
theorem flat_get {α β : Type} {n : Nat} (hn : 0 < n) (f : α → List β) (hf : ∀ a, (f a).length = n) : ∀ (L : List α) (j : Nat), (L.flatMap f)[j]? = (L[j / n]?).bind fun a => (f a)[j % n]?
  | [], j => by simp
  | a :: L, j => by
    rw [List.flatMap_cons]
    by_cases h : j < n
    · rw [List.getElem?_append_left (by rw [hf]; exact h), Nat.div_eq_of_lt h, Nat.mod_eq_of_lt h]; rfl
    · rw [List.getElem?_append_right (by rw [hf]; omega), hf, flat_get hn f hf L (j - n)]
      have e1 : j / n = (j - n) / n + 1 := by rw [Nat.div_eq j n, if_pos ⟨hn, by omega⟩]
      have e2 : j % n = (j - n) % n := by rw [Nat.mod_eq_sub_mod (by omega)]
      rw [e1, e2]; rfl
section
variable {H : Type} {enc : TypeId × Value → H} {w : World} {held : Bool}
theorem cell_row {a : Addr} {v : Value} (h : w.cell? a = some v) : ∃ x : Obj, w.heap[a.block]? = some x ∧ x.isCells = true := by
  unfold World.cell? at h
  split at h
  · rename_i c e f hc; exact ⟨_, hc, rfl⟩
  · cases h
theorem add_add (a : Addr) (x y : Nat) : (a.add x).add y = a.add (x + y) := by
  unfold Addr.add
  by_cases hx : x = 0
  · subst hx; simp
  · by_cases hy : y = 0
    · subst hy; simp [hx]
    · simp [hx, hy, Nat.add_assoc]
theorem choose_list {α : Type} {P : Nat → α → Prop} : ∀ n, (∀ i, i < n → ∃ x, P i x) → ∃ l : List α, l.length = n ∧ ∀ i x, l[i]? = some x → P i x
  | 0, _ => ⟨[], rfl, fun i x h => by simp at h⟩
  | n + 1, h => by
    obtain ⟨l, hl, hp⟩ := choose_list n fun i hi => h i (by omega)
    obtain ⟨x, hx⟩ := h n (by omega)
    refine ⟨l ++ [x], by simp [hl], fun i y hy => ?_⟩
    by_cases hi : i < l.length
    · rw [List.getElem?_append_left hi] at hy; exact hp i y hy
    · rw [List.getElem?_append_right (by omega)] at hy
      have : i - l.length = 0 := by
        rcases Nat.eq_zero_or_pos (i - l.length) with h0 | h0
        · exact h0
        · rw [List.getElem?_eq_none (by simp; omega)] at hy; cases hy
      rw [this] at hy
      simp at hy
      subst hy
      obtain rfl : i = n := by omega
      exact hx
def PN.piece (p : PN) : Ent := ⟨(p.r, p.o), ptsC p.full, 0, 0⟩
/-- what a slice of points is -/
structure PtsAt (w : World) (a : Option Addr) (len cap : Nat) (p : PN) : Prop where
  a : p.a = a
  len : p.len = len
  cap : p.cap = cap
  piece : ptsC p.full = [] ∨ FamAt w.heap.size w false p.piece
  size : p.len * 3 ≤ 17592186044416
theorem open_pts {fuel : Nat} {cs : List Value} {x : DataW H × List MemPlace} (h : DataW.trod enc Tryd.prog w 0 (fun _ => true) held fuel 29 cs = some x) (hw : (x.1.weights Tryd.prog 29).all (· ≤ reachBytes) = true) (pl : Int) (hp : IR pl) :
    ∃ (a : Option Addr) (len cap : Nat) (p : PN), cs = [.slice a len cap] ∧ PtsAt w a len cap p ∧ p.pl = pl := by
  rcases DataW.trod_slice Tryd.underlying29 h with ⟨hcs, _⟩ | ⟨a, len, cap, elems, rest, n, _, hcs, hx, hb, hl, hm, hlen, hel, hsp, _⟩
  · exact ⟨none, 0, 0, ⟨none, false, 0, 0, 0, 0, by unfold SliOk; decide, fun h => absurd rfl h, [], Nat.le_refl _, pl, hp⟩, hcs, ⟨rfl, rfl, rfl, .inl rfl, by show 0 * 3 ≤ 17592186044416; decide⟩, rfl⟩
  · have hc3 : Tryd.prog.cellsOf 34 = 3 := by kernel_rfl
    have hby : Tryd.prog.bytesOf 34 = 24 := by kernel_rfl
    have hsz : len * 3 ≤ 17592186044416 := by
      rw [hx] at hw
      unfold DataW.weights at hw
      rw [Tryd.underlying29] at hw
      simp only [List.all_cons, Bool.and_eq_true, decide_eq_true_eq] at hw
      have h3 := hw.1
      rw [hby, List.length_map, List.length_map, hlen] at h3
      unfold reachBytes at h3
      omega
    by_cases h0 : cap = 0
    · subst h0
      obtain rfl : len = 0 := by omega
      exact ⟨some a, 0, 0, ⟨some a, false, 0, 0, 0, 0, by unfold SliOk; decide, fun h => absurd rfl h, [], Nat.le_refl _, pl, hp⟩, hcs, ⟨rfl, rfl, rfl, .inl rfl, by show 0 * 3 ≤ 17592186044416; decide⟩, rfl⟩
    · obtain ⟨hr1, hr2⟩ := hsp rfl
      have each : ∀ i, i < len → ∃ p : PT, ∀ j v, [Value.int .i64 p.x, .int .i64 p.y, .int .i64 p.z][j]? = some v → w.cell? (a.add (i * 3 + j)) = some v := fun i hi => by
        have h1 := hel i hi
        rw [List.getElem?_eq_getElem (by omega : i < elems.length), hc3, Option.bind_eq_some_iff] at h1
        obtain ⟨cs', h2, h3⟩ := h1
        obtain ⟨x0, x1, x2, rfl, k0, k1, k2⟩ := cells_api_Point h3
        obtain ⟨-, -, hc⟩ := World.cells?_some h2
        refine ⟨⟨x0, x1, x2, k0, k1, k2⟩, fun j v hj => ?_⟩
        have hj3 : j < 3 := (List.getElem?_eq_some_iff.1 hj).1
        have := hc j hj3
        rw [hj] at this
        rw [add_add] at this
        exact this
      have hspot : a.spot = none := by
        by_cases hl0 : len = 0
        · have h1 := hr2 0 (by omega)
          rw [List.getElem?_eq_getElem (by omega : 0 < rest.length), hc3, Option.bind_eq_some_iff] at h1
          obtain ⟨cs', h2, h3⟩ := h1
          obtain ⟨x0, x1, x2, rfl, -⟩ := cells_api_Point h3
          obtain ⟨-, -, hc⟩ := World.cells?_some h2
          have hz := World.cell?_spot (hc 0 (by omega))
          rw [hl0] at hz
          simpa [Addr.add] using hz
        · obtain ⟨p, hp⟩ := each 0 (by omega)
          simpa [Addr.add] using World.cell?_spot (hp 0 _ rfl)
      obtain ⟨ab, ao, spot⟩ := a
      simp only at hspot
      subst hspot
      obtain ⟨P, hP, hpp⟩ := choose_list len each
      have hcell : ∀ j v, (cellsL (fun _ => (0, 0)) (ptsC P))[j]? = some v → w.cell? ⟨ab, ao + j, none⟩ = some v := fun j v hj => by
        rw [cellsL_pts, flat_get (n := 3) (by decide) _ (fun _ => rfl)] at hj
        obtain ⟨p, hp', hv⟩ := Option.bind_eq_some_iff.1 hj
        have := hpp _ _ hp' _ _ hv
        rw [Addr.add_lit] at this
        rw [show ao + j = ao + (j / 3 * 3 + j % 3) by omega]
        exact this
      refine ⟨_, len, cap, ⟨some ⟨ab, ao, none⟩, false, ab, ao, len, cap, ⟨hl, hm, fun h => (by cases h)⟩, fun _ => rfl, P, by omega, pl, hp⟩, hcs, ⟨rfl, rfl, rfl, ?_, hsz⟩, rfl⟩
      by_cases hPn : P = []
      · exact .inl (by show ptsC P = []; rw [hPn]; rfl)
      · have h1 := hpp 0 _ (List.getElem?_eq_getElem (List.length_pos_iff.2 hPn)) 0 _ rfl
        obtain ⟨x, hx, hx2⟩ := cell_row h1
        have hx : w.heap[ab]? = some x := hx
        exact .inr ⟨ptsC_pure _, ⟨x, hx, hx2⟩, fun h => (by cases h), hcell, fun _ => (Array.getElem?_eq_some_iff.1 hx).1⟩
theorem open_pol {fuel : Nat} {cs : List Value} {x : DataW H × List MemPlace} (h : DataW.trod enc Tryd.prog w 0 (fun _ => true) held fuel 31 cs = some x) (hw : (x.1.weights Tryd.prog 31).all (· ≤ reachBytes) = true) :
    ∃ p : PN, cs = [p.val, .int .i64 p.pl] ∧ (ptsC p.full = [] ∨ FamAt w.heap.size w false p.piece) ∧ p.len * 3 ≤ 17592186044416 := by
  obtain ⟨xs, n, _, rfl, hl, hn, hf⟩ := DataW.trod_struct Tryd.underlying31 h
  have cN : Tryd.prog.cellsOf 31 = 2 := by kernel_rfl
  rw [cN] at hl
  match cs, hl with
  | [a, b], _ =>
    have hn : xs.length = 2 := hn
    have c1 : Tryd.prog.cellsOf 29 = 1 := by kernel_rfl
    have c2 : Tryd.prog.cellsOf 3 = 1 := by kernel_rfl
    match xs, hn with
    | [y0, y1], _ =>
      have g0 := hf 0 _ rfl
      have h0 : DataW.trod enc Tryd.prog w 0 (fun _ => true) held n 29 (([a, b].drop 0).take (Tryd.prog.cellsOf 29)) = some y0 := g0
      rw [c1] at h0
      change DataW.trod enc Tryd.prog w 0 (fun _ => true) held n 29 [a] = some y0 at h0
      have g1 := hf 1 _ rfl
      have h1 : DataW.trod enc Tryd.prog w 0 (fun _ => true) held n 3 (([a, b].drop 1).take (Tryd.prog.cellsOf 3)) = some y1 := g1
      rw [c2] at h1
      change DataW.trod enc Tryd.prog w 0 (fun _ => true) held n 3 [b] = some y1 at h1
      obtain ⟨z, ec, hz⟩ := cells_int (by kernel_rfl) h1
      have hw1 : (y0.1.weights Tryd.prog 29).all (· ≤ reachBytes) = true := by
        have e : (DataW.agg ([y0, y1].map (·.1))).weights Tryd.prog 31 = DataW.weightsEach Tryd.prog [29, 3] [y0.1, y1.1] := by
          unfold DataW.weights
          rw [Tryd.underlying31]
          rfl
        rw [e] at hw
        exact (weights_two hw).1
      obtain ⟨sa, len, cap, p, hcs, hp, hpl⟩ := open_pts h0 hw1 z hz
      obtain rfl : a = .slice sa len cap := by simpa using hcs
      subst ec
      refine ⟨p, ?_, hp.piece, hp.size⟩
      unfold PN.val
      rw [hp.a, hp.len, hp.cap, hpl]
open Classical in
theorem open_pols {b0 : Nat} {v : Value} {d : DataW H} {ps : List MemPlace} (hval : Value.okWide Tryd.prog w .any b0 25 v) (hd : DataW.Trod enc Tryd.prog w 0 (fun _ => true) held 25 v d ps) (hw : (d.weights Tryd.prog 25).all (· ≤ reachBytes) = true) :
    ∃ (hv : C) (ty : TypeId) (fam : List Ent) (L : List PN) (a : Nat × Nat), v = (SV.c hv).den (fun _ => a) ∧ okPw [.c hv] [⟨.t ty, true, pnsC L, 0⟩, ⟨.x fam, true, [], 3⟩] hv ty fam L ∧ w.rangeAt a.1 a.2 (cellsL (fun _ => a) (pnsC L)) ∧ ∀ e ∈ fam, FamAt w.heap.size w false e := by
  obtain ⟨a1, len, cap, rfl⟩ := okWide_slice Tryd.underlying25 hval
  obtain ⟨fuel, hf⟩ := hd
  have nothing : ∀ (a : Option Addr) (c : Nat), ∃ (hv : C) (ty : TypeId) (fam : List Ent) (L : List PN) (a' : Nat × Nat), Value.slice a 0 c = (SV.c hv).den (fun _ => a') ∧ okPw [.c hv] [⟨.t ty, true, pnsC L, 0⟩, ⟨.x fam, true, [], 3⟩] hv ty fam L ∧ w.rangeAt a'.1 a'.2 (cellsL (fun _ => a') (pnsC L)) ∧ ∀ e ∈ fam, FamAt w.heap.size w false e := fun a c =>
    ⟨.val (.slice a 0 c), 0, [], [], (0, 0), rfl, ⟨rfl, rfl, .inr ⟨a, c, rfl, rfl⟩, fun p hp => (by cases hp)⟩, fun j v h => by simp [pnsC, cellsL] at h, fun e he => (by cases he)⟩
  rcases DataW.trod_slice Tryd.underlying25 hf with h0 | ⟨a, len', cap', elems, rest, n, _, hcs, hx, hb, hl, hm, hlen, hel, hsp, hns⟩
  · have hcs := h0.1
    simp [Value.cells] at hcs
    obtain ⟨rfl, rfl, rfl⟩ := hcs
    exact nothing none 0
  · simp [Value.cells] at hcs
    obtain ⟨rfl, rfl, rfl⟩ := hcs
    have hc2 : Tryd.prog.cellsOf 31 = 2 := by kernel_rfl
    by_cases h0 : len = 0
    · subst h0; exact nothing (some a) cap
    · have hwe : ∀ y ∈ elems, (y.1.weights Tryd.prog 31).all (· ≤ reachBytes) = true := fun y hy => by
        have hx1 : d = _ := congrArg Prod.fst hx
        rw [hx1] at hw
        unfold DataW.weights at hw
        rw [Tryd.underlying25] at hw
        simp only [List.all_cons, Bool.and_eq_true, List.all_append] at hw
        exact weights_mem hw.2.1 _ (List.mem_map_of_mem hy)
      have each : ∀ i, i < len → ∃ p : PN, (∀ j v, [p.val, .int .i64 p.pl][j]? = some v → w.cell? (a.add (i * 2 + j)) = some v) ∧ (ptsC p.full = [] ∨ FamAt w.heap.size w false p.piece) ∧ p.len * 3 ≤ 17592186044416 := fun i hi => by
        have h1 := hel i hi
        rw [List.getElem?_eq_getElem (by omega : i < elems.length), hc2, Option.bind_eq_some_iff] at h1
        obtain ⟨cs', h2, h3⟩ := h1
        obtain ⟨p, rfl, hp⟩ := open_pol h3 (hwe _ (List.getElem_mem _))
        obtain ⟨-, -, hc⟩ := World.cells?_some h2
        refine ⟨p, fun j v hj => ?_, hp⟩
        have hj2 : j < 2 := (List.getElem?_eq_some_iff.1 hj).1
        have := hc j hj2
        rw [hj] at this
        rw [add_add] at this
        exact this
      obtain ⟨L, hL, hp⟩ := choose_list len each
      have hspot : a.spot = none := by
        obtain ⟨p0, hp0, _⟩ := each 0 (by omega)
        simpa [Addr.add] using World.cell?_spot (hp0 0 _ rfl)
      obtain ⟨ab, ao, spot⟩ := a
      simp only at hspot
      subst hspot
      refine ⟨.sli false 0 0 L.length cap ⟨by rw [hL]; exact hl, hm, fun h => (by cases h)⟩, 0, (L.filter fun p => decide (ptsC p.full ≠ [])).map PN.piece, L, (ab, ao), by show Value.slice (some ⟨ab, ao, none⟩) len cap = Value.slice (some ⟨ab, ao, none⟩) L.length cap; rw [hL], ⟨rfl, rfl, .inl ⟨_, _, _, rfl⟩, fun p hpm => ⟨?_, ?_⟩⟩, fun j v hj => ?_, fun e he => ?_⟩
      · obtain ⟨i, hi, he'⟩ := List.mem_iff_getElem.1 hpm
        exact (hp i p (by rw [List.getElem?_eq_getElem hi, he'])).2.2
      · by_cases hne : ptsC p.full = []
        · exact .inl hne
        · exact .inr ⟨p.piece, List.mem_map.2 ⟨p, List.mem_filter.2 ⟨hpm, decide_eq_true hne⟩, rfl⟩, rfl, rfl⟩
      · rw [cellsL_pns, flat_get (n := 2) (by decide) _ (fun _ => rfl)] at hj
        obtain ⟨p, hp', hv⟩ := Option.bind_eq_some_iff.1 hj
        have := (hp _ _ hp').1 _ _ hv
        rw [Addr.add_lit] at this
        show w.cell? ⟨ab, ao + j, none⟩ = some v
        rw [show ao + j = ao + (j / 2 * 2 + j % 2) by omega]
        exact this
      · obtain ⟨p, hpm, rfl⟩ := List.mem_map.1 he
        obtain ⟨h1, h2⟩ := List.mem_filter.1 hpm
        obtain ⟨i, hi, he'⟩ := List.mem_iff_getElem.1 h1
        exact ((hp i p (by rw [List.getElem?_eq_getElem hi, he'])).2.1).resolve_left (of_decide_eq_true h2)
end
end Go.Proofs.YtdjpbccaglkafaaDoor
