/- The reckoner: operations by laws of their own: append, make. The reckoner: contracts of functions that look into slices of their caller's and hand back slices of their own. The reckoner: operations by laws of their own: make, clear, copy, stores at a place that is known by a proof. The reckoner: a slice against nil; bytes as a string, a string as bytes. -/
import Derived.Deep.AppendSrc
import Derived.Deep.Upon
import Derived.Below
import Derived.Test.YthmdmbpecgakkaaDoorEnb
import Derived.Laws.MakeOwn
import Derived.Laws.IdiomCopy
import Derived.Lib.SliceRun
import Derived.Lib.LazyBuf
import Derived.Laws.IdiomStrings
namespace Go.Proofs.YthmdmbpecgakkaaDoor
open Go.RowKit

theorem sx_setCells_grown {g : Nat} : ∀ (vs : List Value) (o : Nat) (w : World), w.grownBy (w.setCells g o vs) (some g)
  | [], _, w => ⟨rfl, rfl, rfl, Nat.le_refl _, fun _ _ _ => rfl⟩
  | v :: vs, o, w => by
    have h := sx_setCells_grown (g := g) vs (o + 1) (w.setCell ⟨g, o, none⟩ v)
    rw [World.setCells]
    have hs : (w.setCell ⟨g, o, none⟩ v).heap.size = w.heap.size := by simp [World.setCell]
    exact ⟨h.os, h.tape, h.output, by rw [← hs]; exact h.size, fun k hk hne => (h.block k (by rw [hs]; exact hk) hne).trans (Below.heap_setCell w ⟨g, o, none⟩ v k (fun e => hne (by rw [e])))⟩
def AppOut (P : Program) (w : World) (s : Sem Value) (e : TypeId) (size : Nat) (g0 : Option Nat) (n : Nat) (cs : List Value) : Prop :=
  ∃ w' g cap2 cur, s.run P w = .ok (.slice (some ⟨g, 0, none⟩) n cap2) w' ∧ w'.heap[g]? = some (.cells cur e (0, 0)) ∧ n ≤ cap2 ∧ cap2 ≤ maxLen ∧ cur.size = cap2 * size ∧ cur.toList.take (n * size) = cs ∧
    (some g = g0 ∨ g = w.heap.size) ∧ w.grownBy w' g0
section
variable {P : Program}
theorem app_new (w : World) (t tx ty e : TypeId) (i : TypeInfo) (z : Value) (ht : P.underlying t = some (.slice e)) (hi : P.info? e = some i) (hz : i.zero = some z) (hzs : z.cells.size = i.size) (base : Option Addr) (len cap : Nat) (olds : List Value)
    (hol : olds.length = len * i.size) (hold : (Builtin.firstCells i.size len (.slice base len cap)).run P w.drew = .ok olds.toArray w.drew) {x : Value} {m : Nat} {news : List Value} (hs : Src P i.size tx x m news w) (hg : cap < len + m)
    (h63 : len + m ≤ maxLen) (hby : (len + m) * i.bytes ≤ 140737488355328) (g0 : Option Nat) : AppOut P w (Builtin.append_ #[t, tx] ty #[.slice base len cap, x]) e i.size g0 (len + m) (olds ++ news) := by
  have hsmall : ((len + m : Nat) : Int) ≤ 9223372036854775807 := by simp only [maxLen] at h63; omega
  have hr := run_append_grow_src (P := P) w t tx ty e i z ht hi hz base len cap olds hold x m news hs hg hsmall (growslice_fits hg hby)
  have hge := grownCap_ge w (len + m) cap e
  have hcm := grownCap_le_maxLen w (len + m) cap e h63
  have hL : (olds ++ news).length = (len + m) * i.size := by rw [List.length_append, hol, hs.newsLen, Nat.add_mul]
  refine ⟨_, w.heap.size, _, _, hr, heap_alloc_new w.drew _, hge, hcm, ?_, ?_, .inr rfl, ⟨rfl, rfl, rfl, by simp, fun k hk _ => Below.heap_alloc w.drew _ k hk⟩⟩
  · rw [Array.size_append, List.size_toArray, hL, size_zeroCells, hzs, ← Nat.add_mul]
    congr 1
    omega
  · rw [Array.toList_append, ← hL]
    exact List.take_left
theorem app_own (w : World) (t tx ty e : TypeId) (i : TypeInfo) (z : Value) (ht : P.underlying t = some (.slice e)) (hi : P.info? e = some i) (hz : i.zero = some z) (hzs : z.cells.size = i.size) (g len cap : Nat) (cur : Array Value) (olds : List Value)
    (hg : w.heap[g]? = some (.cells cur e (0, 0))) (hlc : len ≤ cap) (hcm : cap ≤ maxLen) (hcs : cur.size = cap * i.size) (htk : cur.toList.take (len * i.size) = olds) {x : Value} {m : Nat} {news : List Value} (hs : Src P i.size tx x m news w)
    (h63 : len + m ≤ maxLen) (hby : (len + m) * i.bytes ≤ 140737488355328) : AppOut P w (Builtin.append_ #[t, tx] ty #[.slice (some ⟨g, 0, none⟩) len cap, x]) e i.size (some g) (len + m) (olds ++ news) := by
  have hle : len * i.size ≤ cur.toList.length := by rw [Array.length_toList, hcs]; exact Nat.mul_le_mul_right _ hlc
  have hol : olds.length = len * i.size := by rw [← htk, List.length_take]; omega
  by_cases hroom : len + m ≤ cap
  · have hfit : len * i.size + news.length ≤ cur.size := by rw [hs.newsLen, hcs, ← Nat.add_mul]; exact Nat.mul_le_mul_right _ hroom
    have hcell : ∀ j, j < news.length → (w.cell? ⟨g, 0 + len * i.size + j, none⟩).isSome = true := fun j hj => by
      rw [cell_of_row _ _ _ _ _ _ hg, Array.getElem?_eq_getElem (by omega)]; rfl
    have hr := run_append_room_src (P := P) w t tx ty e i ht hi g 0 len cap x m news hs hroom hcell (fun j _ => frozen_of_row _ _ _ _ _ hg)
    have hcur : cur = (olds ++ ((cur.toList.drop (len * i.size)).take news.length ++ (cur.toList.drop (len * i.size)).drop news.length)).toArray := by
      rw [List.take_append_drop, ← htk, List.take_append_drop]
    rw [hcur] at hg
    have hb := sx_setCells_block (W := w) (g := g) (t := e) news (0 + len * i.size) olds _ _ (by omega) (by simp only [List.length_take, List.length_drop, Array.length_toList]; omega) hg
    refine ⟨_, g, cap, _, hr, hb, hroom, hcm, ?_, ?_, .inl rfl, sx_setCells_grown _ _ _⟩
    · simp only [List.size_toArray, List.length_append, List.length_drop, Array.length_toList]; omega
    · rw [List.toList_toArray, ← List.append_assoc, show (len + m) * i.size = (olds ++ news).length by rw [List.length_append, hol, hs.newsLen, Nat.add_mul]]
      exact List.take_left
  · refine app_new w t tx ty e i z ht hi hz hzs _ len cap olds hol ?_ hs (by omega) h63 hby _
    refine run_firstCells_some w.drew i.size len ⟨g, 0, none⟩ len cap olds hol (fun j u hu => ?_)
    have e1 : (Addr.add ⟨g, 0, none⟩ j) = ⟨g, j, none⟩ := by unfold Addr.add; split <;> simp_all
    show w.cell? _ = _
    rw [e1, cell_of_row _ _ _ _ _ _ hg]
    rw [← htk, List.getElem?_take] at hu
    split at hu
    · simpa using hu
    · cases hu
end

/-- what is appended -/
def srcK (esz : Nat) (x : SV) (hp : List Blk) (K : Nat → List C → Prop) : Prop :=
  match x with
  | .c (.val (.slice _ 0 0)) => K 0 []
  | .c (.sli _ b off n _ _) => (match nthO hp b with
    | some blk => (match subC blk.cs off (n * esz) with
      | some ms => allOne ms = true ∧ K n ms
      | none => False)
    | none => False)
  | _ => False
/-- how long a slice may get -/
def capZ : List C → Nat
  | [.val (.int .u8 _)] => 140737488355328
  | [.int _ _, .int _ _, .int _ _] => 17592186044416
  | _ => 5000000000000
theorem capZ_ge (z : List C) : 5000000000000 ≤ capZ z := by unfold capZ; split <;> decide
theorem capZ_fac {z : List C} {k b s : Nat} (hb : b ≤ facZ z * s) (hk : k * s ≤ capZ z) : k * b ≤ 140737488355328 := by
  have h1 : k * b ≤ k * (facZ z * s) := Nat.mul_le_mul_left _ hb
  have h2 : k * (facZ z * s) = facZ z * (k * s) := by rw [Nat.mul_left_comm]
  unfold capZ at hk
  unfold facZ at h1 h2
  split at hk
  · simp only at h1 h2; omega
  · simp only at h1 h2; omega
  · rename_i hz hz2
    split at h1
    · exact absurd rfl (hz _)
    · exact absurd rfl (hz2 _ _ _ _ _ _)
    · simp only at h1 h2; omega
theorem capZ_max {z : List C} {k s : Nat} (h0 : 0 < s) (hk : k * s ≤ capZ z) : k ≤ maxLen := by
  have h3 : k * 1 ≤ k * s := Nat.mul_le_mul_left _ h0
  have h4 : capZ z ≤ 140737488355328 := by unfold capZ; split <;> decide
  unfold maxLen
  omega
def capK (z : List C) (K : Nat → Prop) : Prop :=
  match z with
  | [.val (.int .u8 _)] => K 140737488355328
  | [.int _ _, .int _ _, .int _ _] => K 17592186044416
  | _ => K 5000000000000
theorem capK_eq (z : List C) (K : Nat → Prop) : capK z K = K (capZ z) := by
  unfold capK capZ
  split <;> rfl
/-- append: the slice that is appended to is given up -/
def oAppend (T : TypeId → Option TI) (o : Oper) (tm : List SV) (hp : List Blk) (K : List SV → List Blk → Prop) : Prop :=
  match o.op with
  | .call c => (match c.callee, c.args.toList, c.argTypes.toList with
    | .builtin .append, [s, x], [t, t'] => if t = t' then (match T t with
      | some { sh := .slice e esz ez, .. } => srcK esz (evm tm x) hp fun m ms => (match evm tm s with
        | .c (.val (.slice none 0 0)) => m * esz ≤ 5000000000000 ∧ ∀ (cap2 : Nat) (h2 : SliOk (decide (m = 0)) m cap2), snocK hp ⟨e, decide (m = 0), ms, (cap2 - m) * esz⟩ fun hp' => lenK hp fun n => putK o.dst (.c (.sli (decide (m = 0)) n 0 m cap2 h2)) tm fun tm => K tm hp'
        | .c (.sli nl b 0 len cap _) => (match nthO hp b with
          | some ⟨e', ro, cs, tl⟩ => capK ez fun lim => (e' = e ∧ ro = nl ∧ sizeC cs = len * esz ∧ (nl = false → sizeC cs + tl = cap * esz) ∧ (len + m) * esz ≤ lim) ∧
            ∀ (cap2 : Nat) (h2 : SliOk (nl && decide (m = 0)) (len + m) cap2), updK hp b ⟨e', true, [], 0⟩ fun hp' => snocK hp' ⟨e, nl && decide (m = 0), cs ++ ms, (cap2 - (len + m)) * esz⟩ fun hp'' => lenK hp fun n => putK o.dst (.c (.sli (nl && decide (m = 0)) n 0 (len + m) cap2 h2)) tm fun tm => K tm hp''
          | none => False)
        | _ => Bad o 21 [])
      | _ => Bad o 22 []) else Bad o 23 []
    | _, _, _ => Bad o 3 (opEv o tm))
  | _ => Bad o 3 (opEv o tm)

section
variable {P : Program} {T : TypeId → Option TI} (hT : TOk P T)
include hT
/-- what a slice's type tells -/
theorem sli_ok {t e : TypeId} {esz : Nat} {ez : List C} {sz : Nat} {ag : Bool} {z : List C} {eq : Option (List K)} (h : T t = some ⟨sz, ag, z, .slice e esz ez, eq⟩) :
    ∃ i v, P.underlying t = some (.slice e) ∧ P.info? e = some i ∧ i.zero = some v ∧ v.cells.size = i.size ∧ i.size = esz ∧ 0 < esz ∧ i.bytes ≤ 24 * esz := by
  obtain ⟨hu, hc, hi, h0, hb, hz⟩ := sh_ok hT h
  obtain ⟨i, hi⟩ := Option.isSome_iff_exists.1 hi
  obtain ⟨hz, hl⟩ := hz (fun _ => (0, 0))
  rw [hi] at hb
  cases hz0 : i.zero with
  | none => simp [hi, hz0] at hz
  | some v =>
    simp only [hi, Option.bind_some, hz0, Option.map_some, Option.some.injEq] at hz
    have hs : i.size = esz := by simpa [Program.cellsOf, hi] using hc
    refine ⟨i, v, hu, hi, hz0, ?_, hs, h0, by have h1 := facZ_le ez; have h2 : i.bytes ≤ facZ ez * esz := (by simpa using hb); exact Nat.le_trans h2 (Nat.mul_le_mul_right _ h1)⟩
    rw [hz, hs]; simpa using hl
theorem sli_fac {t e : TypeId} {esz : Nat} {ez : List C} {sz : Nat} {ag : Bool} {z : List C} {eq : Option (List K)} (h : T t = some ⟨sz, ag, z, .slice e esz ez, eq⟩) {i : TypeInfo} (hi : P.info? e = some i) : i.bytes ≤ facZ ez * esz := by
  obtain ⟨-, -, -, -, hb, -⟩ := sh_ok hT h
  rw [hi] at hb
  simpa using hb
theorem srcK_ok {tx e' : TypeId} (hk : P.underlying tx = some (.slice e')) {esz : Nat} {x : SV} {hp : List Blk} {K : Nat → List C → Prop} (h : srcK esz x hp K) : ∃ m ms, K m ms ∧ sizeC ms = m * esz ∧ ∀ {ρ : Rho} {w : World}, (∀ b blk, nthO hp b = some blk → Holds ρ blk b w) →
    Src P esz tx (x.den ρ) m (cellsL ρ ms) w := by
  have _ := hT
  unfold srcK at h
  split at h
  · rename_i a
    refine ⟨0, [], h, by simp [sizeC], fun {ρ w} _ => ?_⟩
    cases a with
    | none => exact Src.ofNil w hk 0
    | some a => exact Src.ofSlice w hk a 0 0 [] (by simp) (fun j u hj => by simp at hj) (fun u hu => by cases hu)
  · rename_i nl b off n cap hl
    split at h
    · rename_i blk hb
      split at h
      · rename_i ms hms
        obtain ⟨x, r, e1, e2, e3⟩ := subC_spec hms
        refine ⟨n, ms, h.2, e3, fun {ρ w} hh => ?_⟩
        have hone := allOne_of ρ h.1
        have hr := (hh b blk hb).1
        rw [e1, cellsL_append, cellsL_append] at hr
        have hr := range_sub hr
        rw [← sizeC_eq, e2] at hr
        cases nl with
        | true =>
          have h1 := hl.1; have h2 := hl.2.2 rfl
          have hn : n = 0 := by omega
          have hc : cap = 0 := h2
          subst hn; subst hc
          rw [Nat.zero_mul] at e3
          have : cellsL ρ ms = [] := List.eq_nil_of_length_eq_zero (by rw [← sizeC_eq]; exact e3)
          rw [this]
          exact Src.ofNil w hk 0
        | false =>
          refine Src.ofSlice w hk ⟨(ρ b).1, (ρ b).2 + off, none⟩ n cap _ (by rw [← sizeC_eq]; exact e3) (fun j u hu => ?_) hone
          have := hr j u hu
          rw [Addr.add_mid]; exact this
      · exact h.elim
    · exact h.elim
  · exact h.elim
omit hT in
theorem wp_append_sx {o : Oper} {c : Call} {s x : Operand} {t t' : TypeId} (ho : o.op = .call c) (hc : c.callee = .builtin .append) (ha : c.args.toList = [s, x]) (ht : c.argTypes.toList = [t, t']) {a : Act} {w : World} {next : Act → World → Prop} {Q : Exit → Act → World → Prop}
    {v : Value} {w' : World} (hr : (Builtin.append_ #[t, t'] o.type #[a.eval s, a.eval x]).run P w = .ok v w') (hn : next (a.put o.dst v) w') : o.wp P a w next Q := by
  obtain ⟨ce, args, ts⟩ := c
  simp only at hc ha ht
  subst hc
  have ea : args = #[s, x] := Array.toList_inj.1 (by rw [ha])
  have et : ts = #[t, t'] := Array.toList_inj.1 (by rw [ht])
  subst ea; subst et
  unfold Oper.wp execOp
  simp only [ho, resolve, invoke, builtin, Sem.run_bind, Sem.run_pure, Result.andThen_ok, List.map_toArray, List.map_cons, List.map_nil, hr]
  exact hn
end

section
variable {N : Nat} {w0 : Base} {hf : Nat → Option Blk} {ρ0 : Rho} {w : World}
theorem HRel.kill (h : HRel N w0 hf ρ0 w) {b : Nat} {v : Blk} (hv : v.void = true) (hvm : v.mapOf = none) (hvf : v.famOf = none) : HRel N w0 (upF hf b v) ρ0 w := by
  have hup : ∀ i c, upF hf b v i = some c → (c.void = true ∧ c.ro = true ∧ c.mapOf = none ∧ c.famOf = none) ∨ (i ≠ b ∧ hf i = some c) := fun i c hi => by
    unfold upF at hi
    split at hi
    · cases hi; exact .inl ⟨hv, (void_spec hv).1, hvm, hvf⟩
    · rename_i e; exact .inr ⟨e, hi⟩
  have hagr : ∀ ρ, Agr (upF hf b v) ρ ρ0 → Agr hf ρ ρ0 := fun ρ hρ i hi => hρ i (by unfold upF; split; rfl; exact hi)
  refine ⟨fun i c hi hc => ?_, fun i c hi hc => ?_, fun i j c d hi hc hj hd hne => ?_, fun ρ hρ i c hi => ?_, h.bel, h.big, fun i hi => ?_, fun i c e hi he => ?_, fun i j c d hi hj hc hd hne => ?_, h.fam.up (fun i c hi hm => ?_) fun j c hj hc => ?_⟩
  · rcases hup i c hi with ⟨h1, -⟩ | ⟨-, h1⟩
    · rw [h1] at hc; cases hc
    · exact h.old i c h1 hc
  · rcases hup i c hi with ⟨-, h1, -⟩ | ⟨-, h1⟩
    · rw [h1] at hc; cases hc
    · exact h.own i c h1 hc
  · rcases hup i c hi with ⟨-, h1, -⟩ | ⟨-, h1⟩
    · rw [h1] at hc; cases hc
    · rcases hup j d hj with ⟨h2, -⟩ | ⟨-, h2⟩
      · rw [h2] at hd; cases hd
      · exact h.apart i j c d h1 hc h2 hd hne
  · rcases hup i c hi with ⟨h1, -⟩ | ⟨-, h1⟩
    · exact Holds.void h1 ρ i w
    · exact h.holds ρ (hagr ρ hρ) i c h1
  · have := h.ext i hi
    refine ⟨?_, this.2⟩
    unfold upF; split
    · rfl
    · exact this.1
  · rcases hup i c hi with ⟨-, -, h1, -⟩ | ⟨-, h1⟩
    · rw [h1] at he; cases he
    · exact h.maps i c e h1 he
  · rcases hup i c hi with ⟨-, -, h1, -⟩ | ⟨-, h1⟩
    · rw [h1] at hc; cases hc
    · rcases hup j d hj with ⟨-, -, h2, -⟩ | ⟨-, h2⟩
      · rw [h2] at hd; cases hd
      · exact h.mapA i j c d h1 h2 hc hd hne
  · rcases hup i c hi with ⟨-, -, -, h1⟩ | ⟨-, h1⟩
    · rw [h1] at hm; cases hm
    · exact ⟨i, c, h1, rfl⟩
  · rcases hup j c hj with ⟨-, h1, -⟩ | ⟨-, h1⟩
    · rw [h1] at hc; cases hc
    · exact .inl ⟨j, c, h1, hc, rfl⟩
theorem HRel.app (h : HRel N w0 hf ρ0 w) {n : Nat} (hn : hf n = none) {w' : World} {g0 : Option Nat} (hgrow : w.grownBy w' g0) (hg0 : ∀ k, g0 = some k → N ≤ k ∧ (∃ vs t p, w.heap[k]? = some (.cells vs t p)) ∧ ∀ i b, hf i = some b → b.void = false → (ρ0 i).1 ≠ k) (hgf : ∀ k, g0 = some k → ∀ i b o l e, hf i = some b → b.famOf = some (o, l) → e ∈ l → e.a.1 ≠ k) {g : Nat} (hgg : some g = g0 ∨ g = w.heap.size)
    {c : Blk} (hro : c.ro = false) {L t : List Value} (hheap : w'.heap[g]? = some (.cells (L ++ t).toArray c.ty (0, 0))) (ht : t.length = c.tl) (hL : ∀ ρ, Agr hf ρ ρ0 → cellsL ρ c.cs = L) : HRel N w0 (upF hf n c) (upR ρ0 n (g, 0)) w' := by
  have hne : ∀ i d, hf i = some d → i ≠ n := fun i d hi e => by rw [e, hn] at hi; cases hi
  have hup : ∀ i d, upF hf n c i = some d → (i = n ∧ d = c) ∨ (i ≠ n ∧ hf i = some d) := fun i d hi => by
    unfold upF at hi
    split at hi
    · rename_i e; cases hi; exact .inl ⟨e, rfl⟩
    · rename_i e; exact .inr ⟨e, hi⟩
  have hr : ∀ i, i ≠ n → upR ρ0 n (g, 0) i = ρ0 i := fun i e => if_neg e
  have hrn : upR ρ0 n (g, 0) n = (g, 0) := if_pos rfl
  have hNg : N ≤ g := by
    rcases hgg with e | e
    · exact (hg0 g e.symm).1
    · rw [e]; exact h.big
  have hgne : ∀ i b, hf i = some b → b.void = false → (ρ0 i).1 ≠ g := fun i b hi hv => by
    rcases hgg with e | e
    · exact (hg0 g e.symm).2.2 i b hi hv
    · have := h.old i b hi hv; omega
  refine ⟨fun i d hi hv => ?_, fun i d hi hc => ?_, fun i j d e hi hc hj he hji => ?_, fun ρ hρ i d hi => ?_, h.bel.grown hgrow h.big (fun k hk => (hg0 k hk).1) (fun k hk => (hg0 k hk).2.1), Nat.le_trans h.big hgrow.size, fun i hi => ?_, fun i d e hi he => ?_, fun i j d e hi hj hd he hji => ?_, (h.fam.up (fun i d hi hm => ?_) fun j d hj hd => ?_).keep fun i d o l e hi hm he hk hs => hgrow.block _ hk.lt fun e2 => ?_⟩
  · rcases hup i d hi with ⟨rfl, rfl⟩ | ⟨e, hi⟩
    · rw [hrn]; exact (Array.getElem?_eq_some_iff.1 hheap).1
    · rw [hr i e]; exact Nat.lt_of_lt_of_le (h.old i d hi hv) hgrow.size
  · rcases hup i d hi with ⟨rfl, rfl⟩ | ⟨e, hi⟩
    · rw [hrn]; exact hNg
    · rw [hr i e]; exact h.own i d hi hc
  · rcases hup i d hi with ⟨rfl, rfl⟩ | ⟨e1, hi1⟩ <;> rcases hup j e hj with ⟨rfl, rfl⟩ | ⟨e', hj1⟩
    · exact absurd rfl hji
    · rw [hrn, hr j e']; exact hgne j e hj1 he
    · rw [hrn, hr i e1]; exact (hgne i d hi1 (own_live hc)).symm
    · rw [hr i e1, hr j e']; exact h.apart i j d e hi1 hc hj1 he hji
  · have hρ' : Agr hf ρ ρ0 := fun k hk => by
      obtain ⟨c', hc'⟩ := Option.isSome_iff_exists.1 hk
      have := hρ k (by unfold upF; rw [if_neg (hne k c' hc')]; exact hk)
      rw [this, hr k (hne k c' hc')]
    rcases hup i d hi with ⟨rfl, rfl⟩ | ⟨e, hi⟩
    · have hi' : ρ i = (g, 0) := by rw [hρ i (by unfold upF; rw [if_pos rfl]; rfl), hrn]
      unfold Holds
      rw [hi', hL ρ hρ']
      exact ⟨range_head hheap, fun _ => ⟨rfl, t, ht, hheap⟩⟩
    · refine (void_or d).elim (fun hv => Holds.void hv ρ i _) fun hv => (h.holds ρ hρ' i d hi).keep (hgrow.block _ ?_ ?_)
      · rw [hρ' i (by rw [hi]; rfl)]; exact h.old i d hi hv
      · rw [hρ' i (by rw [hi]; rfl)]
        exact fun e => (hg0 _ e.symm).2.2 i d hi hv rfl
  · obtain ⟨h1, h2⟩ := h.ext i hi
    have hin : i ≠ n := fun e => by rw [e, hn] at h1; cases h1
    rw [hr i hin]
    refine ⟨?_, h2⟩
    unfold upF; rw [if_neg hin]; exact h1
  · rcases hup i d hi with ⟨rfl, rfl⟩ | ⟨e2, hi⟩
    · rw [map_ro hro] at he; cases he
    · rw [hr i e2]
      have hm := h.maps i d e hi he
      refine ⟨hm.1, (hgrow.block _ (Array.getElem?_eq_some_iff.1 hm.2).1 fun e3 => ?_).trans hm.2⟩
      obtain ⟨-, ⟨vs, t, p, hc⟩, -⟩ := hg0 _ e3.symm
      rw [hm.2] at hc; cases hc
  · rcases hup i d hi with ⟨rfl, rfl⟩ | ⟨e1, hi1⟩
    · rw [map_ro hro] at hd; cases hd
    · rcases hup j e hj with ⟨rfl, rfl⟩ | ⟨e', hj1⟩
      · rw [map_ro hro] at he; cases he
      · rw [hr i e1, hr j e']; exact h.mapA i j d e hi1 hj1 hd he hji
  · rcases hup i d hi with ⟨rfl, rfl⟩ | ⟨e1, hi1⟩
    · rw [fam_ro hro] at hm; cases hm
    · exact ⟨i, d, hi1, rfl⟩
  · rcases hup j d hj with ⟨rfl, rfl⟩ | ⟨e1, hj1⟩
    · refine .inr fun i b o l e hi hm he hk => ?_
      rw [hrn]
      rcases hgg with e2 | e2
      · exact (hgf g e2.symm i b o l e hi hm he).symm
      · have := hk.lt
        show g ≠ _
        omega
    · exact .inl ⟨j, d, hj1, hd, by rw [hr j e1]⟩
  · rcases hup i d hi with ⟨rfl, rfl⟩ | ⟨e1, hi1⟩
    · rw [fam_ro hro] at hm; cases hm
    · exact hgf _ e2.symm i d o l e hi1 hm he rfl
theorem HRel.addVoid (h : HRel N w0 hf ρ0 w) {n : Nat} (hn : hf n = none) {v : Blk} (hv : v.void = true) (hvm : v.mapOf = none) (hvf : v.famOf = none) (p : Nat × Nat) : HRel N w0 (upF hf n v) (upR ρ0 n p) w := by
  have hne : ∀ i d, hf i = some d → i ≠ n := fun i d hi e => by rw [e, hn] at hi; cases hi
  have hup : ∀ i c, upF hf n v i = some c → (c.void = true ∧ c.ro = true ∧ c.mapOf = none ∧ c.famOf = none) ∨ (i ≠ n ∧ hf i = some c) := fun i c hi => by
    unfold upF at hi
    split at hi
    · cases hi; exact .inl ⟨hv, (void_spec hv).1, hvm, hvf⟩
    · rename_i e; exact .inr ⟨e, hi⟩
  have hr : ∀ i, i ≠ n → upR ρ0 n p i = ρ0 i := fun i e => if_neg e
  have hagr : ∀ ρ, Agr (upF hf n v) ρ (upR ρ0 n p) → Agr hf ρ ρ0 := fun ρ hρ i hi => by
    obtain ⟨c', hc'⟩ := Option.isSome_iff_exists.1 hi
    have := hρ i (by unfold upF; split; rfl; exact hi)
    rw [this, hr i (hne i c' hc')]
  refine ⟨fun i c hi hc => ?_, fun i c hi hc => ?_, fun i j c d hi hc hj hd hne => ?_, fun ρ hρ i c hi => ?_, h.bel, h.big, fun i hi => ?_, fun i c e hi he => ?_, fun i j c d hi hj hc hd hne => ?_, h.fam.up (fun i c hi hm => ?_) fun j c hj hc => ?_⟩
  · rcases hup i c hi with ⟨h1, -⟩ | ⟨e, h1⟩
    · rw [h1] at hc; cases hc
    · rw [hr i e]; exact h.old i c h1 hc
  · rcases hup i c hi with ⟨-, h1, -⟩ | ⟨e, h1⟩
    · rw [h1] at hc; cases hc
    · rw [hr i e]; exact h.own i c h1 hc
  · rcases hup i c hi with ⟨-, h1, -⟩ | ⟨e, h1⟩
    · rw [h1] at hc; cases hc
    · rcases hup j d hj with ⟨h2, -⟩ | ⟨e', h2⟩
      · rw [h2] at hd; cases hd
      · rw [hr i e, hr j e']; exact h.apart i j c d h1 hc h2 hd hne
  · rcases hup i c hi with ⟨h1, -⟩ | ⟨-, h1⟩
    · exact Holds.void h1 ρ i w
    · exact h.holds ρ (hagr ρ hρ) i c h1
  · obtain ⟨h1, h2⟩ := h.ext i hi
    have hin : i ≠ n := fun e => by rw [e, hn] at h1; cases h1
    rw [hr i hin]
    refine ⟨?_, h2⟩
    unfold upF; rw [if_neg hin]; exact h1
  · rcases hup i c hi with ⟨-, -, h1, -⟩ | ⟨e2, h1⟩
    · rw [h1] at he; cases he
    · rw [hr i e2]; exact h.maps i c e h1 he
  · rcases hup i c hi with ⟨-, -, h1, -⟩ | ⟨e, h1⟩
    · rw [h1] at hc; cases hc
    · rcases hup j d hj with ⟨-, -, h2, -⟩ | ⟨e', h2⟩
      · rw [h2] at hd; cases hd
      · rw [hr i e, hr j e']; exact h.mapA i j c d h1 h2 hc hd hne
  · rcases hup i c hi with ⟨-, -, -, h1⟩ | ⟨-, h1⟩
    · rw [h1] at hm; cases hm
    · exact ⟨i, c, h1, rfl⟩
  · rcases hup j c hj with ⟨-, h1, -⟩ | ⟨e, h1⟩
    · rw [h1] at hc; cases hc
    · exact .inl ⟨j, c, h1, hc, by rw [hr j e]⟩
end
theorem sizeC_nil {l : List C} (h : sizeC l = 0) : l = [] := by
  cases l with
  | nil => rfl
  | cons x l => cases x <;> simp [sizeC, C.n] at h
theorem src_same {P : Program} {esz : Nat} {tx : TypeId} {x : Value} {m : Nat} {n1 n2 : List Value} {w : World} (h1 : Src P esz tx x m n1 w) (h2 : Src P esz tx x m n2 w) : n1 = n2 := by
  have := h1.cells
  rw [h2.cells] at this
  simpa using this.symm
section
variable {P : Program} {T : TypeId → Option TI} (hT : TOk P T)
include hT
theorem oAppend_ok : OOk P (oAppend T) := by
  intro o tm hp K h N w0 a w next Q hr hn
  unfold oAppend at h
  split at h
  · rename_i c hop
    split at h
    · rename_i s x t t' hce hargs htys
      split at h
      · rename_i htt
        subst htt
        split at h
        · rename_i sz ag z e esz ez eq hTt
          obtain ⟨i, z0, hu, hi, hz, hzs, hsz, h0, -⟩ := sli_ok hT hTt
          have hby := sli_fac hT hTt hi
          subst hsz
          obtain ⟨m, ms, h, hms, hsrc⟩ := srcK_ok hT hu h
          obtain ⟨ρ0, hh, htm, hd⟩ := hr
          have hev : ∀ ρ, Agr (nthO hp) ρ ρ0 → a.eval = evr (evm tm) ρ := fun ρ hρ => eval_ok (htm ρ hρ)
          have hev0 := hev ρ0 (Agr.refl _ _)
          have hS : Src P i.size t (a.eval x) m (cellsL ρ0 ms) w := by rw [hev0]; exact hsrc (hh.holds ρ0 (Agr.refl _ _))
          have hSρ : ∀ ρ, Agr (nthO hp) ρ ρ0 → cellsL ρ ms = cellsL ρ0 ms := fun ρ hρ => by
            have h1 : Src P i.size t (a.eval x) m (cellsL ρ ms) w := by rw [hev ρ hρ]; exact hsrc (hh.holds ρ hρ)
            exact src_same h1 hS
          have hml : (cellsL ρ0 ms).length = m * i.size := by rw [← sizeC_eq]; exact hms
          have bytes : ∀ {k : Nat}, k * i.size ≤ capZ ez → k * i.bytes ≤ 140737488355328 ∧ k ≤ maxLen := fun {k} hk => ⟨capZ_fac hby hk, capZ_max h0 hk⟩
          -- a slice that is nil
          have nilc : ∀ {hp1 : List Blk}, HRel N w0 (nthO hp1) ρ0 w → hp1.length = hp.length → (∀ i, (nthO hp i).isSome = true → (nthO hp1 i).isSome = true) → (∀ i, (nthO hp1 i).isSome = true → (nthO hp i).isSome = true) → a.eval s = .slice none 0 0 → m * i.size ≤ (capZ ez) →
              (∀ (cap2 : Nat) (h2 : SliOk (decide (m = 0)) m cap2), K (match o.dst with | some t => tm.set t (.c (.sli (decide (m = 0)) hp.length 0 m cap2 h2)) | none => tm) (hp1 ++ [⟨e, decide (m = 0), ms, (cap2 - m) * i.size⟩])) → o.wp P a w next Q := by
            intro hp1 hh1 hlen hs1 hs2 hsv hm hK
            have hnone : nthO hp1 hp.length = none := by rw [← hlen]; exact nthO_none hp1
            have hsn : ∀ (b : Blk), nthO (hp1 ++ [b]) = upF (nthO hp1) hp.length b := fun b => by rw [nthO_snoc', hlen]
            by_cases hm0 : m = 0
            · subst hm0
              rw [Nat.zero_mul] at hms
              have hmn := sizeC_nil hms
              subst hmn
              have hr := run_append_nothing (P := P) w t t o.type e i hu hi none 0 0 (Nat.le_refl _) (a.eval x) hS
              have hk := hK 0 ⟨by omega, by omega, fun _ => rfl⟩
              refine wp_append_sx hop hce hargs htys (by rw [hsv]; exact hr) (hn _ _ _ _ hk (RelS.put (ρ1 := upR ρ0 hp.length (0, 0)) htm hd ?_ (fun j hj => ?_) o.dst fun ρ hρ => rfl))
              · rw [hsn]; exact hh1.addVoid hnone rfl (map_tl (by simp)) (fam_tl (by simp)) _
              · rw [hsn]; exact up_agr hnone j (hs1 j hj)
            · obtain ⟨w', g, cap2, cur, hr, hg, hc1, hc2, hcs, htk, hgg, hgrow⟩ := app_new (P := P) w t t o.type e i z0 hu hi hz hzs none 0 0 [] (by simp) (run_firstCells_none w.drew i.size 0 0 0) hS (by omega) (by have := (bytes hm).2; omega) (by rw [Nat.zero_add]; exact (bytes hm).1) none
              simp only [Nat.zero_add, List.nil_append] at hr hc1 htk
              have hd0 : decide (m = 0) = false := by simpa using hm0
              have hk := hK cap2
              rw [hd0] at hk
              have hk := hk ⟨hc1, by simpa [maxLen] using hc2, fun h => by cases h⟩
              have hcur : cur = (cellsL ρ0 ms ++ cur.toList.drop (m * i.size)).toArray := by rw [← htk, List.take_append_drop]
              rw [hcur] at hg
              refine wp_append_sx hop hce hargs htys (by rw [hsv]; exact hr) (hn _ _ _ _ hk (RelS.put (ρ1 := upR ρ0 hp.length (g, 0)) htm hd ?_ (fun j hj => ?_) o.dst fun ρ hρ => ?_))
              · rw [hsn]
                refine hh1.app hnone hgrow (fun k hk => by cases hk) (fun k hk => by cases hk) hgg rfl hg ?_ (fun ρ hρ => hSρ ρ fun j hj => hρ j (hs1 j hj))
                rw [List.length_drop, Array.length_toList, hcs, ← Nat.sub_mul]
              · rw [hsn]; exact up_agr hnone j (hs1 j hj)
              · have hgn : ρ hp.length = (g, 0) := by
                  rw [hρ _ (by rw [hsn]; unfold upF; rw [if_pos rfl]; rfl)]; unfold upR; rw [if_pos rfl]
                simp [SV.den, C.den, C.cells, nlA, hgn]
          split at h
          · rename_i hsx
            obtain ⟨hm, h⟩ := h
            refine nilc hh rfl (fun _ h => h) (fun _ h => h) (by rw [hev0]; show (evm tm s).den ρ0 = _; rw [hsx]; rfl) (Nat.le_trans hm (capZ_ge ez)) (fun cap2 h2 => ?_)
            have h := h cap2 h2
            rw [snocK_eq, lenK_eq, putK_eq] at h
            exact h
          · rename_i nl b len cap hl hsx
            split at h
            · rename_i e' ro cs tl hb
              rw [capK_eq] at h
              obtain ⟨⟨he, hro, hcs, htl, hm⟩, h⟩ := h
              subst he; subst hro
              simp only [updK_eq, snocK_eq, lenK_eq, putK_eq] at h
              have hvk := hh.kill (b := b) (v := ⟨e, true, [], 0⟩) rfl (map_tl rfl) (fam_tl rfl)
              have hset : nthO (hp.set b ⟨e, true, [], 0⟩) = upF (nthO hp) b ⟨e, true, [], 0⟩ := nthO_set _ _ _ _ hb
              rw [← hset] at hvk
              have hs1 : ∀ j, (nthO hp j).isSome = true → (nthO (hp.set b ⟨e, true, [], 0⟩) j).isSome = true := fun j hj => by rw [hset]; unfold upF; split; rfl; exact hj
              have hs2 : ∀ j, (nthO (hp.set b ⟨e, true, [], 0⟩) j).isSome = true → (nthO hp j).isSome = true := fun j hj => by
                rw [hset] at hj; unfold upF at hj
                split at hj
                · rename_i ej; rw [ej, hb]; rfl
                · exact hj
              cases ro with
              | true =>
                have hc0 := hl.2.2 rfl
                have hl0 : len = 0 := by have := hl.1; omega
                subst hl0
                subst hc0
                rw [Nat.zero_mul] at hcs
                have hcn := sizeC_nil hcs
                subst hcn
                simp only [Nat.zero_add, Bool.true_and, List.nil_append] at h hm
                exact nilc hvk (by simp) hs1 hs2 (by rw [hev0]; show (evm tm s).den ρ0 = _; rw [hsx]; rfl) hm h
              | false =>
                simp only [Bool.false_and] at h
                obtain ⟨h01, t0, ht0, hheap⟩ := (hh.holds ρ0 (Agr.refl _ _) b _ hb).2 rfl
                have htl := htl rfl
                have hcl : (cellsL ρ0 cs).length = len * i.size := by rw [← sizeC_eq]; exact hcs
                have hNb := hh.own b _ hb rfl
                obtain ⟨w', g, cap2, cur, hr, hg, hc1, hc2, hcs2, htk, hgg, hgrow⟩ := app_own (P := P) w t t o.type e i z0 hu hi hz hzs (ρ0 b).1 len cap _ (cellsL ρ0 cs) hheap hl.1 (by simpa [maxLen] using hl.2.1) (by simp only [List.size_toArray, List.length_append, hcl, ht0]; rw [← hcs]; exact htl) (by rw [List.toList_toArray, ← hcl]; exact List.take_left) hS (bytes hm).2 (bytes hm).1
                have hk := h cap2 ⟨hc1, by simpa [maxLen] using hc2, fun h => by cases h⟩
                have hcur : cur = (cellsL ρ0 cs ++ cellsL ρ0 ms ++ cur.toList.drop ((len + m) * i.size)).toArray := by rw [← htk, List.take_append_drop]
                rw [hcur] at hg
                have hsv : a.eval s = .slice (some ⟨(ρ0 b).1, 0, none⟩) len cap := by
                  rw [hev0]; show (evm tm s).den ρ0 = _; rw [hsx]; simp [SV.den, C.den, C.cells, nlA, h01]
                have hcsρ : ∀ ρ, Agr (nthO hp) ρ ρ0 → cellsL ρ cs = cellsL ρ0 cs := fun ρ hρ => by
                  obtain ⟨-, t1, ht1, hheap1⟩ := (hh.holds ρ hρ b _ hb).2 rfl
                  rw [hρ b (by rw [hb]; rfl), hheap] at hheap1
                  have h3 := congrArg Array.toList (Obj.cells.inj (Option.some.inj hheap1)).1
                  exact (List.append_inj_left h3 (by rw [← sizeC_eq ρ0, ← sizeC_eq ρ])).symm
                have hnone : nthO (hp.set b ⟨e, true, [], 0⟩) hp.length = none := by have := nthO_none (hp.set b ⟨e, true, [], 0⟩); simpa using this
                have hsn : ∀ (c : Blk), nthO (hp.set b ⟨e, true, [], 0⟩ ++ [c]) = upF (nthO (hp.set b ⟨e, true, [], 0⟩)) hp.length c := fun c => by rw [nthO_snoc']; simp
                refine wp_append_sx hop hce hargs htys (by rw [hsv]; exact hr) (hn _ _ _ _ hk (RelS.put (ρ1 := upR ρ0 hp.length (g, 0)) htm hd ?_ (fun j hj => ?_) o.dst fun ρ hρ => ?_))
                · rw [hsn]
                  refine hvk.app hnone hgrow (fun k hk => ?_) (fun k hk i c o l e' hi hm he => ?_) hgg rfl hg ?_ (fun ρ hρ => ?_)
                  · cases hk
                    refine ⟨hNb, ⟨_, _, _, hheap⟩, fun j c hj hv => ?_⟩
                    rw [hset] at hj
                    unfold upF at hj
                    split at hj
                    · cases hj; cases hv
                    · rename_i ej; exact hh.apart b j _ c hb rfl hj hv ej
                  · cases hk
                    rw [hset] at hi
                    unfold upF at hi
                    split at hi
                    · cases hi; rw [fam_tl rfl] at hm; cases hm
                    · exact fun e2 => (hh.fam i c o l e' hi hm he).2 b _ hb rfl e2.symm
                  · rw [List.length_drop, Array.length_toList, hcs2, ← Nat.sub_mul]
                  · have hρ2 : Agr (nthO hp) ρ ρ0 := fun j hj => hρ j (hs1 j hj)
                    rw [cellsL_append, hcsρ ρ hρ2, hSρ ρ hρ2]
                · rw [hsn]; exact up_agr hnone j (hs1 j hj)
                · have hgn : ρ hp.length = (g, 0) := by
                    rw [hρ _ (by rw [hsn]; unfold upF; rw [if_pos rfl]; rfl)]; unfold upR; rw [if_pos rfl]
                  simp [SV.den, C.den, C.cells, nlA, hgn]
            · exact h.elim
          · cases h
        · cases h
      · cases h
    · cases h
  · cases h
end
end Go.Proofs.YthmdmbpecgakkaaDoor

namespace Go.Proofs.YthmdmbpecgakkaaDoor
open Go.RowKit

/-- what is asked of a call, and what comes back: the arguments (slices numbered anew), the blocks that they look into, what is said of the value and the blocks made -/
abbrev NewC := List SV → List Blk → (SV → List Blk → Prop) → Prop
def pureAll : List Blk → Prop
  | [] => True
  | b :: l => PureL b.cs ∧ pureAll l
/-- a block made: its own, or nothing -/
def PureB (b : Blk) : Prop := match b.ty with
  | .x _ => b.tl = 2 ∧ PureL b.cs
  | _ => PureL b.cs
theorem PureB.pure {b : Blk} (h : PureB b) : PureL b.cs := by
  unfold PureB at h
  split at h
  · exact h.2
  · exact h
theorem PureB.fam {b : Blk} (h : PureB b) {o : Bool} {l : List Ent} (hb : b.famOf = some (o, l)) : o = true := by
  obtain ⟨ty, ro, cs, tl⟩ := b
  unfold Blk.famOf famC at hb
  split at hb
  · cases hb; rfl
  · rename_i h1 h2 h3
    cases hb
    simp only at h1 h3
    subst h1 h3
    cases h.1
  · cases hb
def NewB (b : Blk) : Prop := PureB b ∧ (b.ro = false ∨ b.void = true)
def newAll : List Blk → Prop
  | [] => True
  | b :: l => NewB b ∧ newAll l
def roAll : List Blk → Prop
  | [] => True
  | b :: l => (b.ro = true ∧ b.tl = 0) ∧ roAll l
theorem pureAll_get : ∀ {l : List Blk} (_ : pureAll l) {i : Nat} {b : Blk}, nthO l i = some b → PureL b.cs
  | [], _, i, b, h => by simp [nthO] at h
  | x :: l, hp, 0, b, h => by simp [nthO] at h; subst h; exact hp.1
  | x :: l, hp, i + 1, b, h => pureAll_get hp.2 (by simpa [nthO] using h)
theorem newAll_get : ∀ {l : List Blk} (_ : newAll l) {i : Nat} {b : Blk}, nthO l i = some b → NewB b
  | [], _, i, b, h => by simp [nthO] at h
  | x :: l, hp, 0, b, h => by simp [nthO] at h; subst h; exact hp.1
  | x :: l, hp, i + 1, b, h => newAll_get hp.2 (by simpa [nthO] using h)
theorem roAll_get2 : ∀ {l : List Blk} (_ : roAll l) {i : Nat} {b : Blk}, nthO l i = some b → b.ro = true ∧ b.tl = 0
  | [], _, i, b, h => by simp [nthO] at h
  | x :: l, hp, 0, b, h => by simp [nthO] at h; subst h; exact hp.1
  | x :: l, hp, i + 1, b, h => roAll_get2 hp.2 (by simpa [nthO] using h)
theorem roAll_get {l : List Blk} (h : roAll l) {i : Nat} {b : Blk} (hi : nthO l i = some b) : b.ro = true := (roAll_get2 h hi).1
def CSp (P : Program) (f : FuncId) (c : NewC) : Prop := Callable P f ∧ ∀ args ros K, c args ros K → roAll ros → pureAll ros → ∀ ρ w, (∀ i b, nthO ros i = some b → w.rangeAt (ρ i).1 (ρ i).2 (cellsL ρ b.cs)) →
  Calls P f (args.map (SV.den ρ)).toArray w fun e w' => ∃ v news σ, K v news ∧ newAll news ∧ HRel w.heap.size ⟨w, fun _ => False, ρ, 0⟩ (nthO (ros ++ news)) σ w' ∧ (∀ i, i < ros.length → σ i = ρ i) ∧ ∀ ρ', Agr (nthO (ros ++ news)) ρ' σ → e = .returned (v.den ρ')

/-! the caller's side -/
/-- slices and pointers numbered anew -/
def argK (hp : List Blk) : Nat → List SV → (List SV → List Blk → List Nat → Prop) → Prop
  | _, [], K => K [] [] []
  | k, .c (.sli nl b off len cap h) :: l, K => (match nthO hp b with
    | some ⟨ty, _, cs, _⟩ => argK hp (k + 1) l fun l ros bs => K (.c (.sli nl k off len cap h) :: l) (⟨ty, true, cs, 0⟩ :: ros) (b :: bs)
    | none => False)
  | k, .c (.ptr b off) :: l, K => (match nthO hp b with
    | some ⟨ty, _, cs, _⟩ => argK hp (k + 1) l fun l ros bs => K (.c (.ptr k off) :: l) (⟨ty, true, cs, 0⟩ :: ros) (b :: bs)
    | none => False)
  | k, .c (.val v) :: l, K => argK hp k l fun l ros bs => K (.c (.val v) :: l) ros bs
  | k, .c (.int n h) :: l, K => argK hp k l fun l ros bs => K (.c (.int n h) :: l) ros bs
  | k, .agg x :: l, K => PureL x ∧ argK hp k l fun l ros bs => K (.agg x :: l) ros bs
  | _, _, _ => False
/-- a number among the call's blocks, in the caller's numbering -/
def mvN (bs : List Nat) (n i : Nat) : Nat := match nthO bs i with | some b => b | none => n + (i - bs.length)
def C.mv (bs : List Nat) (n : Nat) : C → C
  | .ptr b off => .ptr (mvN bs n b) off
  | .sli nl b off len cap h => .sli nl (mvN bs n b) off len cap h
  | .fn f bd caps => .fn f bd (caps.map fun p => (mvN bs n p.1, p.2))
  | .mp b => .mp (mvN bs n b)
  | x => x
def T1.mv (bs : List Nat) (n : Nat) : T1 → T1
  | .c x => .c (x.mv bs n)
  | .agg l => .agg (l.map (C.mv bs n))
def SV.mv (bs : List Nat) (n : Nat) : SV → SV
  | .c x => .c (x.mv bs n)
  | .agg l => .agg (l.map (C.mv bs n))
  | .tup l => .tup (l.map (T1.mv bs n))
def appB : List Blk → List Blk → (List Blk → Prop) → Prop
  | [], l, K => K l
  | x :: m, l, K => appB m l fun l => K (x :: l)
theorem appB_eq : ∀ (l m : List Blk) (K : List Blk → Prop), appB l m K = K (l ++ m)
  | [], _, _ => rfl
  | _ :: l, m, K => by simp only [appB, appB_eq l m, List.cons_append]
def lkC : List (FuncId × NewC) → FuncId → Option NewC
  | [], _ => none
  | (g, c) :: l, f => if f = g then some c else lkC l f
def hnew (l : List (FuncId × NewC)) (H : FuncId → List SV → List Blk → (SV → List Blk → Prop) → Prop) (f : FuncId) (args : List SV) (hp : List Blk) (K : SV → List Blk → Prop) : Prop :=
  match lkC l f with
  | some c => argK hp 0 args fun args' ros bs => pureAll ros ∧ c args' ros fun v news => lenK hp fun n => appB hp news fun hp' => K (v.mv bs n) hp'
  | none => H f args hp K
def AllC (P : Program) (l : List (FuncId × NewC)) : Prop := ∀ x ∈ l, CSp P x.1 x.2
theorem AllC.nil {P : Program} : AllC P [] := fun x hx => by simp at hx
theorem AllC.cons {P : Program} {f : FuncId} {c : NewC} {l : List (FuncId × NewC)} (h : CSp P f c) (hl : AllC P l) : AllC P ((f, c) :: l) := fun x hx => by
  rcases List.mem_cons.1 hx with rfl | hx
  · exact h
  · exact hl x hx
theorem lkC_mem : ∀ {l : List (FuncId × NewC)} {f : FuncId} {c : NewC}, lkC l f = some c → (f, c) ∈ l
  | [], _, _, h => by simp [lkC] at h
  | (g, d) :: l, f, c, h => by
    unfold lkC at h
    split at h
    · rename_i e; cases h; subst e; exact List.mem_cons_self
    · exact List.mem_cons_of_mem _ (lkC_mem h)
theorem mv_cells {bs : List Nat} {n : Nat} (ρ : Rho) (x : C) : (x.mv bs n).cells ρ = x.cells (fun i => ρ (mvN bs n i)) := by
  cases x <;> simp [C.mv, C.cells, adr, Function.comp_def]
theorem mv_cellsL {bs : List Nat} {n : Nat} (ρ : Rho) : ∀ l : List C, cellsL ρ (l.map (C.mv bs n)) = cellsL (fun i => ρ (mvN bs n i)) l
  | [] => rfl
  | x :: l => by rw [List.map_cons, cellsL_cons, cellsL_cons, mv_cells, mv_cellsL ρ l]
theorem mv_t1 {bs : List Nat} {n : Nat} (ρ : Rho) (x : T1) : (x.mv bs n).den ρ = x.den (fun i => ρ (mvN bs n i)) := by
  cases x with
  | c x => simp only [T1.mv, T1.den, C.den, mv_cells]
  | agg l => simp only [T1.mv, T1.den, mv_cellsL]
theorem mv_den {bs : List Nat} {n : Nat} (ρ : Rho) (x : SV) : (x.mv bs n).den ρ = x.den (fun i => ρ (mvN bs n i)) := by
  cases x with
  | c x => simp only [SV.mv, SV.den, C.den, mv_cells]
  | agg l => simp only [SV.mv, SV.den, mv_cellsL]
  | tup l => simp only [SV.mv, SV.den, List.map_map]; congr 2; apply List.map_congr_left; intro a _; exact mv_t1 ρ a
/-- what the arguments come to -/
def ArgOut (hp : List Blk) (k : Nat) (l : List SV) (K : List SV → List Blk → List Nat → Prop) : Prop := ∃ l' ros bs, K l' ros bs ∧ ros.length = bs.length ∧ roAll ros ∧
    (∀ (i b : Nat), bs[i]? = some b → ∃ c d, nthO hp b = some c ∧ nthO ros i = some d ∧ d.cs = c.cs) ∧ ∀ ρ ρ' : Rho, (∀ (i b : Nat), bs[i]? = some b → ρ' (k + i) = ρ b) → l.map (SV.den ρ) = l'.map (SV.den ρ')
theorem argK_spec {hp : List Blk} : ∀ {l : List SV} {k : Nat} {K : List SV → List Blk → List Nat → Prop}, argK hp k l K → ArgOut hp k l K
  | [], k, K, h => ⟨[], [], [], h, rfl, trivial, fun i b h => by simp at h, fun _ _ _ => rfl⟩
  | x :: l, k, K, h => by
    have one : ∀ (y : SV) (ty : TyX) (cs : List C) (b : Nat) (c : Blk), nthO hp b = some c → c.cs = cs → (∀ ρ ρ' : Rho, ρ' k = ρ b → x.den ρ = y.den ρ') → argK hp (k + 1) l (fun l ros bs => K (y :: l) (⟨ty, true, cs, 0⟩ :: ros) (b :: bs)) → ArgOut hp k (x :: l) K := fun y ty cs b c hb hc hd h => by
      obtain ⟨l', ros, bs, hK, hlen, hro, hbs, hden⟩ := argK_spec h
      refine ⟨y :: l', ⟨ty, true, cs, 0⟩ :: ros, b :: bs, hK, by simp [hlen], ⟨⟨rfl, rfl⟩, hro⟩, fun i b' hi => ?_, fun ρ ρ' h => ?_⟩
      · cases i with
        | zero => simp at hi; subst hi; exact ⟨c, _, hb, rfl, hc.symm⟩
        | succ i => exact hbs i b' (by simpa using hi)
      · rw [List.map_cons, List.map_cons, hden ρ ρ' (fun i b' hi => by have := h (i + 1) b' (by simpa using hi); rw [show k + 1 + i = k + (i + 1) by omega]; exact this), hd ρ ρ' (by have := h 0 b rfl; simpa using this)]
    have plain : ∀ (y : SV), (∀ ρ ρ' : Rho, x.den ρ = y.den ρ') → argK hp k l (fun l ros bs => K (y :: l) ros bs) → ArgOut hp k (x :: l) K := fun y hd h => by
      obtain ⟨l', ros, bs, hK, hlen, hro, hbs, hden⟩ := argK_spec h
      exact ⟨y :: l', ros, bs, hK, hlen, hro, hbs, fun ρ ρ' h => by rw [List.map_cons, List.map_cons, hden ρ ρ' h, hd ρ ρ']⟩
    unfold argK at h
    split at h
    · rename_i heq; cases heq
    · rename_i heq
      cases heq
      split at h
      · rename_i ty ro cs tl hb
        exact one _ ty cs _ _ hb rfl (fun ρ ρ' e => by simp only [SV.den, C.den, C.cells, e]) h
      · exact h.elim
    · rename_i heq
      cases heq
      split at h
      · rename_i ty ro cs tl hb
        exact one _ ty cs _ _ hb rfl (fun ρ ρ' e => by simp only [SV.den, C.den, C.cells, adr, e]) h
      · exact h.elim
    · rename_i heq; cases heq; exact plain _ (fun _ _ => rfl) h
    · rename_i heq; cases heq; exact plain _ (fun _ _ => rfl) h
    · rename_i heq; cases heq; exact plain _ (fun ρ ρ' => by simp only [SV.den]; rw [show cellsL ρ _ = cellsL ρ' _ from h.1 ρ ρ']) h.2
    · exact h.elim
theorem nthO_append (l m : List Blk) (i : Nat) : nthO (l ++ m) i = if i < l.length then nthO l i else nthO m (i - l.length) := by
  rw [nthO_eq, nthO_eq, nthO_eq]
  split
  · rename_i h; rw [List.getElem?_append_left h]
  · rename_i h; rw [List.getElem?_append_right (by omega)]
/-- the blocks made stand behind the caller's -/
theorem HRel.join {N : Nat} {w0 : Base} {hp : List Blk} {ρ0 : Rho} {w w' : World} (h : HRel N w0 (nthO hp) ρ0 w) {ros news : List Blk} {ρ σ : Rho} (hc : HRel w.heap.size ⟨w, fun _ => False, ρ, 0⟩ (nthO (ros ++ news)) σ w') (hn : newAll news) :
    HRel N w0 (nthO (hp ++ news)) (fun i => if i < hp.length then ρ0 i else σ (i - hp.length + ros.length)) w' := by
  have hb := hc.bel.below
  have hold := h.below hb
  have hnew : ∀ {i : Nat} {b : Blk}, ¬ i < hp.length → nthO (hp ++ news) i = some b → nthO (ros ++ news) (i - hp.length + ros.length) = some b ∧ nthO news (i - hp.length) = some b := fun {i b} hi hb => by
    rw [nthO_append, if_neg hi] at hb
    refine ⟨?_, hb⟩
    rw [nthO_append, if_neg (by omega), Nat.add_sub_cancel]; exact hb
  have hlow : ∀ {i : Nat} {b : Blk}, i < hp.length → nthO (hp ++ news) i = some b → nthO hp i = some b := fun {i b} hi hb => by rw [nthO_append, if_pos hi] at hb; exact hb
  have hown : ∀ {i : Nat} {b : Blk}, nthO news i = some b → b.void = false → b.ro = false := fun hi hv => by
    rcases (newAll_get hn hi).2 with h | h
    · exact h
    · rw [h] at hv; cases hv
  refine ⟨fun i b hi hv => ?_, fun i b hi hro => ?_, fun i j b c hi hro hj hv hne => ?_, fun ρ1 hρ1 i b hi => ?_, hold.bel, hold.big, fun i hi => ?_, fun i b e hi he => ?_, fun i j b c hi hj hm hk hne => ?_, fun i b o l e hi hm he => ?_⟩
  · show (if i < hp.length then ρ0 i else _).1 < _
    split
    · rename_i hlt; exact hold.old i b (hlow hlt hi) hv
    · rename_i hlt; exact hc.old _ b (hnew hlt hi).1 hv
  · show N ≤ (if i < hp.length then ρ0 i else _).1
    split
    · rename_i hlt; exact hold.own i b (hlow hlt hi) hro
    · rename_i hlt; exact Nat.le_trans h.big (hc.own _ b (hnew hlt hi).1 hro)
  · show (if j < hp.length then ρ0 j else _).1 ≠ (if i < hp.length then ρ0 i else _).1
    by_cases hil : i < hp.length <;> by_cases hjl : j < hp.length
    · rw [if_pos hil, if_pos hjl]; exact h.apart i j b c (hlow hil hi) hro (hlow hjl hj) hv hne
    · rw [if_pos hil, if_neg hjl]
      have h1 := h.old i b (hlow hil hi) (own_live hro)
      have h2 := hc.own _ c (hnew hjl hj).1 (hown (hnew hjl hj).2 hv)
      omega
    · rw [if_neg hil, if_pos hjl]
      have h1 := h.old j c (hlow hjl hj) hv
      have h2 := hc.own _ b (hnew hil hi).1 hro
      omega
    · rw [if_neg hil, if_neg hjl]
      exact hc.apart _ _ b c (hnew hil hi).1 hro (hnew hjl hj).1 hv (by omega)
  · by_cases hil : i < hp.length
    · refine hold.holds ρ1 (fun k hk => ?_) i b (hlow hil hi)
      have hkl : k < hp.length := by
        obtain ⟨x, hx⟩ := Option.isSome_iff_exists.1 hk
        rw [nthO_eq] at hx; exact (List.getElem?_eq_some_iff.1 hx).1
      have := hρ1 k (by rw [nthO_append, if_pos hkl]; exact hk)
      rw [this]; exact if_pos hkl
    · have h1 := (hnew hil hi).1
      have h2 := hc.holds (fun k => if k < ros.length then σ k else ρ1 (k - ros.length + hp.length)) (fun k hk => by
        show (if k < ros.length then σ k else ρ1 (k - ros.length + hp.length)) = σ k
        split
        · rfl
        · rename_i hkr
          have hx : (nthO (hp ++ news) (k - ros.length + hp.length)).isSome = true := by
            rw [nthO_append, if_neg (by omega), Nat.add_sub_cancel]
            rw [nthO_append, if_neg hkr] at hk
            exact hk
          rw [hρ1 _ hx]
          show (if k - ros.length + hp.length < hp.length then _ else σ (k - ros.length + hp.length - hp.length + ros.length)) = σ k
          rw [if_neg (by omega)]
          congr 1; omega) _ b h1
      have hp1 : PureL b.cs := (newAll_get hn (hnew hil hi).2).1.pure
      have hp2 : ∀ ρ ρ' : Rho, cellsL ρ b.cs = cellsL ρ' b.cs := hp1
      unfold Holds at h2 ⊢
      have e : (if i - hp.length + ros.length < ros.length then σ (i - hp.length + ros.length) else ρ1 (i - hp.length + ros.length - ros.length + hp.length)) = ρ1 i := by
        rw [if_neg (by omega)]; congr 1; omega
      simp only [e] at h2
      rw [hp2 _ ρ1] at h2
      exact h2
  · have := h.ext i hi
    have hl : i < hp.length := by
      obtain ⟨x, hx⟩ := Option.isSome_iff_exists.1 this.1
      rw [nthO_eq] at hx; exact (List.getElem?_eq_some_iff.1 hx).1
    refine ⟨by rw [nthO_append, if_pos hl]; exact this.1, ?_⟩
    show (if i < hp.length then ρ0 i else _) = _
    rw [if_pos hl]; exact this.2
  · show N ≤ (if i < hp.length then ρ0 i else _).1 ∧ w'.heap[(if i < hp.length then ρ0 i else _).1]? = _
    split
    · rename_i hlt; exact hold.maps i b e (hlow hlt hi) he
    · rename_i hlt
      have := hc.maps _ b e (hnew hlt hi).1 he
      exact ⟨Nat.le_trans h.big this.1, this.2⟩
  · have low : ∀ {i : Nat} {b : Blk}, i < hp.length → nthO (hp ++ news) i = some b → b.mapOf.isSome = true → (ρ0 i).1 < w.heap.size := fun hlt hi hm => by
      obtain ⟨e, he⟩ := Option.isSome_iff_exists.1 hm
      exact (Array.getElem?_eq_some_iff.1 (h.maps _ _ e (hlow hlt hi) he).2).1
    have high : ∀ {i : Nat} {b : Blk}, ¬ i < hp.length → nthO (hp ++ news) i = some b → b.mapOf.isSome = true → w.heap.size ≤ (σ (i - hp.length + ros.length)).1 := fun hlt hi hm => by
      obtain ⟨e, he⟩ := Option.isSome_iff_exists.1 hm
      exact (hc.maps _ _ e (hnew hlt hi).1 he).1
    show (if j < hp.length then ρ0 j else _).1 ≠ (if i < hp.length then ρ0 i else _).1
    by_cases hil : i < hp.length <;> by_cases hjl : j < hp.length
    · rw [if_pos hil, if_pos hjl]; exact h.mapA i j b c (hlow hil hi) (hlow hjl hj) hm hk hne
    · rw [if_pos hil, if_neg hjl]
      have h1 := low hil hi hm
      have h2 := high hjl hj hk
      omega
    · rw [if_neg hil, if_pos hjl]
      have h1 := low hjl hj hk
      have h2 := high hil hi hm
      omega
    · rw [if_neg hil, if_neg hjl]
      exact hc.mapA _ _ b c (hnew hil hi).1 (hnew hjl hj).1 hm hk (by omega)
  · by_cases hil : i < hp.length
    · have h0 := h.fam i b o l e (hlow hil hi) hm he
      have h1 := hold.fam i b o l e (hlow hil hi) hm he
      refine ⟨h1.1, fun j c hj ho => ?_⟩
      show (if j < hp.length then ρ0 j else _).1 ≠ _
      by_cases hjl : j < hp.length
      · rw [if_pos hjl]; exact h1.2 j c (hlow hjl hj) ho
      · rw [if_neg hjl]
        have h2 := hc.own _ c (hnew hjl hj).1 ho
        have h3 := h0.1.lt
        omega
    · have h1 := hc.fam _ b o l e (hnew hil hi).1 hm he
      have ho := (newAll_get hn (hnew hil hi).2).1.fam hm
      have h2 := (h1.1.own ho).1
      refine ⟨⟨h1.1.pure, h1.1.row, fun _ => ⟨Nat.le_trans h.big h2, (h1.1.own ho).2⟩, h1.1.holds, fun hf => (by rw [ho] at hf; cases hf)⟩, fun j c hj ho => ?_⟩
      show (if j < hp.length then ρ0 j else _).1 ≠ _
      by_cases hjl : j < hp.length
      · rw [if_pos hjl]
        have h3 := h.old j c (hlow hjl hj) (own_live ho)
        omega
      · rw [if_neg hjl]; exact h1.2 _ c (hnew hjl hj).1 ho
theorem hnew_ok {P : Program} {l : List (FuncId × NewC)} (hl : AllC P l) {H : FuncId → List SV → List Blk → (SV → List Blk → Prop) → Prop} (hH : HOk P H) : HOk P (hnew l H) := by
  intro f args hp K h
  unfold hnew at h
  split at h
  · rename_i c hc
    have hsp := hl _ (lkC_mem hc)
    refine ⟨hsp.1, fun N w0 ρ0 w hh _ => ?_⟩
    obtain ⟨l', ros, bs, hK, hlen, hro, hbs, hden⟩ := argK_spec h
    obtain ⟨hpure, hK⟩ := hK
    let ρ : Rho := fun i => ρ0 (bs[i]?.getD 0)
    have hρ : ∀ (i b : Nat), bs[i]? = some b → ρ i = ρ0 b := fun i b hi => by show ρ0 (bs[i]?.getD 0) = ρ0 b; rw [hi]; rfl
    have hargs : args.map (SV.den ρ0) = l'.map (SV.den ρ) := hden ρ0 ρ (fun i b hi => by rw [Nat.zero_add]; exact hρ i b hi)
    rw [hargs]
    refine (hsp.2 l' ros _ hK hro hpure ρ w (fun i d hd => ?_)).mono ?_
    · have hi : i < ros.length := by rw [nthO_eq] at hd; exact (List.getElem?_eq_some_iff.1 hd).1
      obtain ⟨b, hb⟩ : ∃ b, bs[i]? = some b := ⟨_, List.getElem?_eq_getElem (by omega)⟩
      obtain ⟨c', d', h1, h2, h3⟩ := hbs i b hb
      rw [hd] at h2; cases h2
      have := (hh.holds ρ0 (Agr.refl _ _) b c' h1).1
      have hp2 : cellsL ρ d.cs = cellsL ρ0 d.cs := (pureAll_get hpure hd) ρ ρ0
      rw [hρ i b hb, hp2, h3]
      exact this
    · rintro e w' ⟨v, news, σ, hK, hn, hc, hσ, he⟩
      rw [lenK_eq, appB_eq] at hK
      refine ⟨_, _, _, hK, hh.join hc hn, fun i hi => ?_, fun ρ1 hρ1 => ?_⟩
      · have hil : i < hp.length := by
          obtain ⟨x, hx⟩ := Option.isSome_iff_exists.1 hi
          rw [nthO_eq] at hx; exact (List.getElem?_eq_some_iff.1 hx).1
        exact ⟨by rw [nthO_append, if_pos hil]; exact hi, if_pos hil⟩
      · rw [mv_den]
        refine he _ (fun k hk => ?_)
        have hkl : k < (ros ++ news).length := by
          obtain ⟨x, hx⟩ := Option.isSome_iff_exists.1 hk
          rw [nthO_eq] at hx; exact (List.getElem?_eq_some_iff.1 hx).1
        show ρ1 (mvN bs hp.length k) = σ k
        unfold mvN
        by_cases hkr : k < ros.length
        · have hkb : k < bs.length := by omega
          obtain ⟨b, hb⟩ : ∃ b, bs[k]? = some b := ⟨_, List.getElem?_eq_getElem hkb⟩
          rw [nthO_eq, hb]
          obtain ⟨c', d', h1, -⟩ := hbs k b hb
          have hbl : b < hp.length := by rw [nthO_eq] at h1; exact (List.getElem?_eq_some_iff.1 h1).1
          rw [hσ k hkr, hρ k b hb]
          have := hρ1 b (by rw [nthO_append, if_pos hbl, h1]; rfl)
          rw [this]; exact if_pos hbl
        · rw [nthO_eq, List.getElem?_eq_none (by omega)]
          have hx : (nthO (hp ++ news) (hp.length + (k - bs.length))).isSome = true := by
            rw [nthO_append, if_neg (by omega)]
            rw [nthO_append, if_neg hkr] at hk
            rw [show hp.length + (k - bs.length) - hp.length = k - ros.length by omega]; exact hk
          have := hρ1 _ hx
          show ρ1 (hp.length + (k - bs.length)) = σ k
          rw [this]
          show (if hp.length + (k - bs.length) < hp.length then _ else σ (hp.length + (k - bs.length) - hp.length + ros.length)) = σ k
          rw [if_neg (by omega)]
          congr 1; omega
  · exact hH f args hp K h

/-! the function's own side: what a walk shows -/
def SameV (x y : SV) : Prop := ∀ ρ, x.den ρ = y.den ρ
def outK (ros : List Blk) (K : SV → List Blk → Prop) (v : SV) (hp : List Blk) : Prop :=
  ∃ sel pf : List Nat, ∀ vs, endK ros.length sel [0] pf vs [v] hp fun tm hp2 => ∃ v2 news, tm = [v2] ∧ SameHp hp2 (ros ++ news) ∧ newAll news ∧ ∃ v3, SameV v2 v3 ∧ K v3 news
theorem csp_of {P : Program} {E : Env} (hE : EOk P E) (hm : P.follows .mixedOrders = true) {H : FuncId → List SV → List Blk → (SV → List Blk → Prop) → Prop} (hH : HOk P H) {f : FuncId} {fn : Func} (hf : FnOk P f fn) {c : NewC}
    (h : ∀ args ros K, c args ros K → (∀ ρ ρ', (∀ i, i < ros.length → ρ i = ρ' i) → args.map (SV.den ρ) = args.map (SV.den ρ')) ∧ vcF E H fn args ros (outK ros K)) : CSp P f c := by
  refine ⟨hf.callable, fun args ros K hc hro hpure ρ w hr => ?_⟩
  obtain ⟨hargs, hwalk⟩ := h args ros K hc
  have hlen : ∀ {i : Nat}, (nthO ros i).isSome = true ↔ i < ros.length := fun {i} => by
    rw [nthO_eq]
    constructor
    · intro h; obtain ⟨x, hx⟩ := Option.isSome_iff_exists.1 h; exact (List.getElem?_eq_some_iff.1 hx).1
    · intro h; rw [List.getElem?_eq_getElem h]; rfl
  have hh : HRel w.heap.size ⟨w, fun i => (nthO ros i).isSome = true, ρ, 0⟩ (nthO ros) ρ w := by
    refine ⟨fun i b hi hv => ?_, fun i b hi ho => ?_, fun i j b c hi ho => ?_, fun ρ' hρ i b hi => ?_, BelO.refl _ _, Nat.le_refl _, fun i h => ⟨h, rfl⟩, fun i b e hi he => (by rw [map_tl (roAll_get2 hro hi).2] at he; cases he), fun i j b c hi hj hm hk hne => (by rw [map_tl (roAll_get2 hro hi).2] at hm; cases hm), fun i b o l e hi hm he => (by rw [fam_tl (roAll_get2 hro hi).2] at hm; cases hm)⟩
    · have h0 : 0 < sizeC b.cs := by
        cases hc : b.cs with
        | nil =>
          unfold Blk.void at hv
          rw [hc, roAll_get hro hi] at hv
          cases hv
        | cons x l => cases x <;> simp [sizeC, C.n] <;> omega
      rw [sizeC_eq ρ] at h0
      exact block_lt_of_cell (hr i b hi 0 _ (List.getElem?_eq_getElem h0))
    · rw [roAll_get hro hi] at ho; cases ho
    · rw [roAll_get hro hi] at ho; cases ho
    · refine ⟨?_, fun ho => by rw [roAll_get hro hi] at ho; cases ho⟩
      have hp2 : cellsL ρ' b.cs = cellsL ρ b.cs := (pureAll_get hpure hi) ρ' ρ
      rw [hρ i (by rw [hi]; rfl), hp2]
      exact hr i b hi
  refine (fn_ok hE hm hH hf hwalk w.heap.size _ ρ w hh (fun ρ' hρ => hargs ρ' ρ fun i hi => hρ i (hlen.2 hi))).mono ?_
  rintro e w' ⟨v, hp', ρ1, ⟨sel, pf, hout⟩, hh', -, he⟩
  have he0 := he ρ1 (Agr.refl _ _)
  have hrel : RelS w.heap.size ⟨w, fun i => (nthO ros i).isSome = true, ρ, 0⟩ [v] hp' { tmps := #[v.den ρ1], defers := [] } w' := ⟨ρ1, hh', fun ρ' hρ' => by
    have := he ρ' hρ'
    rw [he0] at this
    have : v.den ρ1 = v.den ρ' := by simpa using this
    simp [this], Marks.nil _ _ (Nat.zero_le _)⟩
  obtain ⟨tm2, hp2, ⟨v2, news, rfl, hsame, hn, v3, hv3, hK⟩, hr2⟩ := endK_ok (n0 := ros.length) (fun i hi => hlen.1 hi) hrel (hout _)
  have hr3 := hr2.same (tm2 := [v3]) ⟨hv3, trivial⟩ hsame
  obtain ⟨σ, hh3, ht3, -⟩ := hr3
  refine ⟨v3, news, σ, hK, hn, ⟨hh3.old, hh3.own, hh3.apart, hh3.holds, hh3.bel, hh3.big, fun i hi => hi.elim, hh3.maps, hh3.mapA, hh3.fam⟩, fun i hi => ?_, fun ρ' hρ' => ?_⟩
  · exact (hh3.ext i (hlen.2 hi)).2
  · have := ht3 ρ' hρ'
    simp only [List.map_cons, List.map_nil, List.cons.injEq, and_true] at this
    rw [he0, this]
end Go.Proofs.YthmdmbpecgakkaaDoor

namespace Go.Proofs.YthmdmbpecgakkaaDoor
open Go.RowKit

/-- n times a chunk -/
def repX (n : Nat) (x : C) : List C := List.replicate n x
theorem sizeC_rep {x : C} (hx : x.n = 1) : ∀ n, sizeC (repX n x) = n
  | 0 => rfl
  | n + 1 => by show x.n + sizeC (repX n x) = n + 1; rw [hx, sizeC_rep hx n]; omega
theorem cellsL_rep {x : C} {v : Value} {ρ : Rho} (hx : x.cells ρ = [v]) : ∀ n, cellsL ρ (repX n x) = List.replicate n v
  | 0 => rfl
  | n + 1 => by
    show cellsL ρ (x :: repX n x) = _
    rw [cellsL_cons, hx, cellsL_rep hx n]; rfl
theorem madeCells_one (z : Value) (n : Nat) : madeCells #[z] n = (List.replicate n z).toArray := by
  apply Array.ext
  · rw [size_madeCells]; simp
  · intro i h1 h2
    have : i % 1 = 0 := Nat.mod_one i
    simp [madeCells, this]
/-- make: a slice of equal cells -/
def oMake (T : TypeId → Option TI) (o : Oper) (tm : List SV) (hp : List Blk) (K : List SV → List Blk → Prop) : Prop :=
  match o.op with
  | .makeSlice t l c => (match T t, evm tm l, evm tm c with
    | some { sh := .slice e _ [x], .. }, .c (.int a _), .c (.int b _) => x.n = 1 ∧ ∃ n m : Nat, a = n ∧ b = m ∧ n ≤ m ∧ m ≤ 1000000000 ∧
        ∀ h2 : SliOk false n m, snocK hp ⟨e, false, repX n x, m - n⟩ fun hp' => lenK hp fun k => putK o.dst (.c (.sli false k 0 n m h2)) tm fun tm => K tm hp'
    | _, _, _ => Bad o 31 (opEv o tm))
  | _ => oAppend T o tm hp K
section
variable {P : Program} {T : TypeId → Option TI} (hT : TOk P T)
include hT
omit hT in
theorem wp_make_sx {o : Oper} {t : TypeId} {l c : Operand} (ho : o.op = .makeSlice t l c) {a : Act} {w : World} {next : Act → World → Prop} {Q : Exit → Act → World → Prop} {v : Value} {w' : World} (hr : (Instr.makeSlice t (a.eval l) (a.eval c)).run P w = .ok v w') (hn : next (a.put o.dst v) w') : o.wp P a w next Q := by
  unfold Oper.wp execOp
  simp only [ho, Sem.run_bind, Sem.run_pure, Result.andThen_ok, hr]
  exact hn
theorem oMake_ok : OOk P (oMake T) := by
  intro o tm hp K h N w0 a w next Q hr hn
  unfold oMake at h
  split at h
  · rename_i t l c hop
    split at h
    · rename_i sz ag z e esz x eq la ha ca hb hTt hl hc
      obtain ⟨hx, n, m, rfl, rfl, hnm, hm, h⟩ := h
      obtain ⟨i, z0, hu, hi, hz, hzs, hsz, h0, hby⟩ := sli_ok hT hTt
      obtain ⟨ρ0, hh, htm, hd⟩ := hr
      have hev : ∀ ρ, Agr (nthO hp) ρ ρ0 → a.eval = evr (evm tm) ρ := fun ρ hρ => eval_ok (htm ρ hρ)
      have hev0 := hev ρ0 (Agr.refl _ _)
      have hzc : ∀ ρ, (i.zero.map Value.cells) = some (cellsL ρ [x]).toArray := fun ρ => by
        obtain ⟨-, -, -, -, -, hzz⟩ := sh_ok hT hTt
        have := (hzz ρ).1
        rw [hi] at this
        simpa using this
      have hzc0 : z0.cells.toList = cellsL ρ0 [x] := by
        have := hzc ρ0
        rw [hz] at this
        simp only [Option.map_some, Option.some.injEq] at this
        rw [this]
      have hxc : ∀ ρ, ∃ v, x.cells ρ = [v] := fun ρ => by
        have hl : (x.cells ρ).length = 1 := by rw [← hx]; exact (C.cells_length ρ x)
        match hc : x.cells ρ, hl with
        | [v], _ => exact ⟨v, rfl⟩
      obtain ⟨v0, hv0⟩ := hxc ρ0
      have hz1 : z0.cells = #[v0] := by
        apply Array.toList_inj.1
        rw [hzc0, cellsL_cons, hv0]; rfl
      have hxv : ∀ ρ, x.cells ρ = [v0] := fun ρ => by
        have := hzc ρ
        rw [hz] at this
        simp only [Option.map_some, Option.some.injEq] at this
        rw [hz1, cellsL_cons] at this
        have h3 := congrArg Array.toList this
        simpa [cellsL] using h3.symm
      have hs1 : i.size = 1 := by rw [← hzs, hz1]; rfl
      have h2 : SliOk false n m := ⟨hnm, by omega, fun h => by cases h⟩
      have hk := h h2
      rw [snocK_eq, lenK_eq, putK_eq] at hk
      have hsl : a.eval l = .int .i64 n := by rw [hev0]; show (evm tm l).den ρ0 = _; rw [hl]; rfl
      have hsc : a.eval c = .int .i64 m := by rw [hev0]; show (evm tm c).den ρ0 = _; rw [hc]; rfl
      have hbb : i.bytes * m ≤ 281474976710656 := by
        have h1 : i.bytes ≤ 24 := by rw [← hsz, hs1] at hby; omega
        have := Nat.mul_le_mul h1 hm
        omega
      have hbb' : (i.bytes : Int) * (m : Int) ≤ 281474976710656 := by
        have : ((i.bytes * m : Nat) : Int) ≤ 281474976710656 := by omega
        rwa [Int.natCast_mul] at this
      have hr := run_make (P := P) w t e i z0 hu hi hz .i64 .i64 n m (by omega) (by omega) hbb' (by omega)
      simp only [Int.toNat_natCast, hs1, Nat.mul_one, hz1] at hr
      have hnone : nthO hp hp.length = none := nthO_none hp
      have hsn : ∀ (b : Blk), nthO (hp ++ [b]) = upF (nthO hp) hp.length b := fun b => nthO_snoc' _ _
      have hheap : (w.alloc (.cells (madeCells #[v0] m) e)).heap[w.heap.size]? = some (.cells (List.replicate n v0 ++ List.replicate (m - n) v0).toArray e (0, 0)) := by
        rw [List.replicate_append_replicate, show n + (m - n) = m by omega, ← madeCells_one]
        exact heap_alloc_new w _
      refine wp_make_sx hop (by rw [hsl, hsc]; exact hr) (hn _ _ _ _ hk (RelS.put (ρ1 := upR ρ0 hp.length (w.heap.size, 0)) htm hd ?_ (fun j hj => ?_) o.dst fun ρ hρ => ?_))
      · rw [hsn]
        exact hh.app hnone (World.grownBy_alloc w _ none) (fun k hk => by cases hk) (fun k hk => by cases hk) (.inr rfl) rfl hheap (by simp) (fun ρ _ => cellsL_rep (hxv ρ) n)
      · rw [hsn]; exact up_agr hnone j hj
      · have hgn : ρ hp.length = (w.heap.size, 0) := by
          rw [hρ _ (by rw [hsn]; unfold upF; rw [if_pos rfl]; rfl)]; unfold upR; rw [if_pos rfl]
        simp [SV.den, C.den, C.cells, nlA, hgn]
    · cases h
  · exact oAppend_ok hT o tm hp K h hr hn
end
/-- append to a slice without room: its elements are new, or there are none -/
def oClone (T : TypeId → Option TI) (o : Oper) (tm : List SV) (hp : List Blk) (K : List SV → List Blk → Prop) : Prop :=
  match o.op with
  | .call c => (match c.callee, c.args.toList, c.argTypes.toList with
    | .builtin .append, [s, x], [t, t'] => if t = t' then (match T t with
      | some { sh := .slice e esz _, .. } => srcK esz (evm tm x) hp fun m ms => (match evm tm s with
        | .c (.sli nl b off len cap h) => (len = 0 ∧ cap = 0 ∧ m * esz ≤ 5000000000000) ∧ (m = 0 → putK o.dst (.c (.sli nl b off len cap h)) tm fun tm => K tm hp) ∧
            (0 < m → ∀ (cap2 : Nat) (h2 : SliOk false m cap2), snocK hp ⟨e, false, ms, (cap2 - m) * esz⟩ fun hp' => lenK hp fun n => putK o.dst (.c (.sli false n 0 m cap2 h2)) tm fun tm => K tm hp')
        | _ => False)
      | _ => False) else False
    | _, _, _ => False)
  | _ => False
section
variable {P : Program} {T : TypeId → Option TI} (hT : TOk P T)
theorem run_firstCells_zero (w : World) (sz : Nat) (a : Option Addr) : (Builtin.firstCells sz 0 (.slice a 0 0)).run P w = .ok #[] w := by
  cases a with
  | none => exact run_firstCells_none w sz 0 0 0
  | some a => exact run_firstCells_some w sz 0 a 0 0 [] (by simp) (fun j u hu => by simp at hu)
include hT
theorem oClone_ok : OOk P (oClone T) := by
  intro o tm hp K h N w0 a w next Q hr hn
  unfold oClone at h
  split at h
  · rename_i c hop
    split at h
    · rename_i s x t t' hce hargs htys
      split at h
      · rename_i htt
        subst htt
        split at h
        · rename_i sz ag z e esz ez eq hTt
          obtain ⟨i, z0, hu, hi, hz, hzs, hsz, h0, hby⟩ := sli_ok hT hTt
          subst hsz
          obtain ⟨m, ms, h, hms, hsrc⟩ := srcK_ok hT hu h
          split at h
          · rename_i nl b off len cap hl hs
            obtain ⟨⟨rfl, rfl, hm⟩, h0', h1'⟩ := h
            obtain ⟨ρ0, hh, htm, hd⟩ := hr
            have hev : ∀ ρ, Agr (nthO hp) ρ ρ0 → a.eval = evr (evm tm) ρ := fun ρ hρ => eval_ok (htm ρ hρ)
            have hev0 := hev ρ0 (Agr.refl _ _)
            have hS : Src P i.size t (a.eval x) m (cellsL ρ0 ms) w := by rw [hev0]; exact hsrc (hh.holds ρ0 (Agr.refl _ _))
            have hSρ : ∀ ρ, Agr (nthO hp) ρ ρ0 → cellsL ρ ms = cellsL ρ0 ms := fun ρ hρ => by
              have h1 : Src P i.size t (a.eval x) m (cellsL ρ ms) w := by rw [hev ρ hρ]; exact hsrc (hh.holds ρ hρ)
              exact src_same h1 hS
            have bytes : ∀ {k : Nat}, k * i.size ≤ 5000000000000 → k * i.bytes ≤ 140737488355328 ∧ k ≤ maxLen := fun {k} hk => by
              have h1 : k * i.bytes ≤ k * (24 * i.size) := Nat.mul_le_mul_left _ hby
              have h2 : k * (24 * i.size) = 24 * (k * i.size) := by rw [Nat.mul_left_comm]
              have h3 : k * 1 ≤ k * i.size := Nat.mul_le_mul_left _ h0
              unfold maxLen
              omega
            have hsv : ∀ ρ, Agr (nthO hp) ρ ρ0 → a.eval s = .slice (nlA nl ⟨(ρ b).1, (ρ b).2 + off, none⟩) 0 0 := fun ρ hρ => by
              rw [hev ρ hρ]; show (evm tm s).den ρ = _; rw [hs]; rfl
            by_cases hm0 : m = 0
            · subst hm0
              have hk := h0' rfl
              rw [putK_eq] at hk
              rw [Nat.zero_mul] at hms
              have hmn := sizeC_nil hms
              subst hmn
              have hr := run_append_nothing (P := P) w t t o.type e i hu hi (nlA nl ⟨(ρ0 b).1, (ρ0 b).2 + off, none⟩) 0 0 (Nat.le_refl _) (a.eval x) hS
              refine wp_append_sx hop hce hargs htys (by rw [hsv ρ0 (Agr.refl _ _)]; exact hr) (hn _ _ _ _ hk (RelS.put (ρ1 := ρ0) htm hd hh (fun j hj => ⟨hj, rfl⟩) o.dst fun ρ hρ => ?_))
              have e1 := hsv ρ hρ
              rw [hsv ρ0 (Agr.refl _ _)] at e1
              exact e1
            · obtain ⟨w', g, cap2, cur, hr, hg, hc1, hc2, hcs, htk, hgg, hgrow⟩ := app_new (P := P) w t t o.type e i z0 hu hi hz hzs (nlA nl ⟨(ρ0 b).1, (ρ0 b).2 + off, none⟩) 0 0 [] (by simp) (run_firstCells_zero _ _ _) hS (by omega) (by have := (bytes hm).2; omega) (by rw [Nat.zero_add]; exact (bytes hm).1) none
              simp only [Nat.zero_add, List.nil_append] at hr hc1 htk
              have hk := h1' (by omega) cap2 ⟨hc1, by simpa [maxLen] using hc2, fun h => by cases h⟩
              rw [snocK_eq, lenK_eq, putK_eq] at hk
              have hcur : cur = (cellsL ρ0 ms ++ cur.toList.drop (m * i.size)).toArray := by rw [← htk, List.take_append_drop]
              rw [hcur] at hg
              have hnone : nthO hp hp.length = none := nthO_none hp
              have hsn : ∀ (b : Blk), nthO (hp ++ [b]) = upF (nthO hp) hp.length b := fun b => nthO_snoc' _ _
              refine wp_append_sx hop hce hargs htys (by rw [hsv ρ0 (Agr.refl _ _)]; exact hr) (hn _ _ _ _ hk (RelS.put (ρ1 := upR ρ0 hp.length (g, 0)) htm hd ?_ (fun j hj => ?_) o.dst fun ρ hρ => ?_))
              · rw [hsn]
                refine hh.app hnone hgrow (fun k hk => by cases hk) (fun k hk => by cases hk) hgg rfl hg ?_ (fun ρ hρ => hSρ ρ hρ)
                rw [List.length_drop, Array.length_toList, hcs, ← Nat.sub_mul]
              · rw [hsn]; exact up_agr hnone j hj
              · have hgn : ρ hp.length = (g, 0) := by
                  rw [hρ _ (by rw [hsn]; unfold upF; rw [if_pos rfl]; rfl)]; unfold upR; rw [if_pos rfl]
                simp [SV.den, C.den, C.cells, nlA, hgn]
          · exact h.elim
        · exact h.elim
      · exact h.elim
    · exact h.elim
  · exact h.elim
end
/-- clear, copy: cells of a block of the call's own are written anew -/
def oMore (T : TypeId → Option TI) (o : Oper) (tm : List SV) (hp : List Blk) (K : List SV → List Blk → Prop) : Prop :=
  match o.op with
  | .call c => (match c.callee, c.args.toList, c.argTypes.toList with
    | .builtin .append, _, _ => oAppend T o tm hp K ∨ oClone T o tm hp K
    | .builtin .clear, [s], [t] => (match T t, evm tm s with
      | some { sh := .slice _ _ [x], .. }, .c (.sli false b off n _ _) => (match nthO hp b with
        | some ⟨ty, false, cs, tl⟩ => x.n = 1 ∧ allOne [x] = true ∧ ∃ A m B, cs = A ++ (m ++ B) ∧ sizeC A = off ∧ sizeC m = n ∧ updK hp b ⟨ty, false, A ++ (repX n x ++ B), tl⟩ fun hp => putK o.dst (.tup []) tm fun tm => K tm hp
        | _ => Bad o 32 (opEv o tm))
      | _, _ => Bad o 33 (opEv o tm))
    | .builtin .copy, [d, s], [t, _] => (match T t, evm tm d, evm tm s with
      | some { sh := .slice _ _ [x], .. }, .c (.sli false b off n _ _), .c (.sli false b2 off2 n2 _ _) => (match nthO hp b, nthO hp b2 with
        | some ⟨ty, false, cs, tl⟩, some blk2 => x.n = 1 ∧ ∃ (k : Nat) (hk : IR k) (A m B ms : List C), k = min n2 n ∧ cs = A ++ (m ++ B) ∧ sizeC A = off ∧ sizeC m = k ∧ subC blk2.cs off2 k = some ms ∧ allOne ms = true ∧
            updK hp b ⟨ty, false, A ++ (ms ++ B), tl⟩ fun hp => putK o.dst (.c (.int k hk)) tm fun tm => K tm hp
        | _, _ => Bad o 34 (opEv o tm))
      | _, _, _ => Bad o 35 (opEv o tm))
    | _, _, _ => oMake T o tm hp K)
  | _ => oMake T o tm hp K
theorem own_splice {ρ : Rho} {w : World} {b : Nat} {ty : TyX} {A m B : List C} {tl : Nat} (h : Holds ρ ⟨ty, false, A ++ (m ++ B), tl⟩ b w) {M : List Value} (hM : M.length = sizeC m) :
    ∃ t : List Value, t.length = tl ∧ (w.setCells (ρ b).1 (sizeC A) M).heap[(ρ b).1]? = some (.cells (cellsL ρ A ++ (M ++ cellsL ρ B) ++ t).toArray ty (0, 0)) := by
  obtain ⟨t, ht, hh⟩ := (h.2 rfl).2
  refine ⟨t, ht, ?_⟩
  have e : cellsL ρ (A ++ (m ++ B)) ++ t = cellsL ρ A ++ (cellsL ρ m ++ (cellsL ρ B ++ t)) := by simp only [cellsL_append, List.append_assoc]
  have hh : w.heap[(ρ b).1]? = some (.cells (cellsL ρ A ++ (cellsL ρ m ++ (cellsL ρ B ++ t))).toArray ty (0, 0)) := by rw [← e]; exact hh
  have := sx_setCells_block (W := w) M (sizeC A) _ _ _ (sizeC_eq ρ A).symm (by rw [← sizeC_eq ρ m, hM]) hh
  rw [this]
  simp only [List.append_assoc]
section
variable {P : Program} {T : TypeId → Option TI} (hT : TOk P T)
include hT
omit hT in
theorem wp_clear_sx {o : Oper} {c : Call} {x : Operand} {t : TypeId} (ho : o.op = .call c) (hc : c.callee = .builtin .clear) (ha : c.args.toList = [x]) (ht : c.argTypes.toList = [t]) {a : Act} {w : World} {next : Act → World → Prop} {Q : Exit → Act → World → Prop}
    {v : Value} {w' : World} (hr : (Builtin.clear_ #[t] o.type #[a.eval x]).run P w = .ok v w') (hn : next (a.put o.dst v) w') : o.wp P a w next Q := by
  obtain ⟨ce, args, ts⟩ := c
  simp only at hc ha ht
  subst hc
  have ea : args = #[x] := Array.toList_inj.1 (by rw [ha])
  have et : ts = #[t] := Array.toList_inj.1 (by rw [ht])
  subst ea; subst et
  unfold Oper.wp execOp
  simp only [ho, resolve, invoke, builtin, Sem.run_bind, Sem.run_pure, Result.andThen_ok, List.map_toArray, List.map_cons, List.map_nil, hr]
  exact hn
omit hT in
theorem wp_copy_sx {o : Oper} {c : Call} {x y : Operand} {t t' : TypeId} (ho : o.op = .call c) (hc : c.callee = .builtin .copy) (ha : c.args.toList = [x, y]) (ht : c.argTypes.toList = [t, t']) {a : Act} {w : World} {next : Act → World → Prop} {Q : Exit → Act → World → Prop}
    {v : Value} {w' : World} (hr : (Builtin.copy_ #[t, t'] o.type #[a.eval x, a.eval y]).run P w = .ok v w') (hn : next (a.put o.dst v) w') : o.wp P a w next Q := by
  obtain ⟨ce, args, ts⟩ := c
  simp only at hc ha ht
  subst hc
  have ea : args = #[x, y] := Array.toList_inj.1 (by rw [ha])
  have et : ts = #[t, t'] := Array.toList_inj.1 (by rw [ht])
  subst ea; subst et
  unfold Oper.wp execOp
  simp only [ho, resolve, invoke, builtin, Sem.run_bind, Sem.run_pure, Result.andThen_ok, List.map_toArray, List.map_cons, List.map_nil, hr]
  exact hn
omit hT in
theorem run_clear_sx (w : World) (t e ty : TypeId) (z v0 : Value) (ht : P.underlying t = some (.slice e)) (hv : ∀ w, (zeroValue e).run P w = .ok z w) (hz : z.cells = #[v0]) (h1 : v0.oneCell' = true) (b o n c : Nat) (hn : 0 < n)
    (hc : ∀ j, j < n → (w.cell? ⟨b, o + j, none⟩).isSome = true) (hf : ∀ j, j < n → w.frozen? ⟨b, o + j, none⟩ = false) :
    (Builtin.clear_ #[t] ty #[.slice (some ⟨b, o, none⟩) n c]).run P w = .ok (.tuple #[]) (w.setCells b o (List.replicate n v0)) := by
  have hzc : (Builtin.zeroCells z.cells n).toList = List.replicate n v0 := by
    rw [hz]
    simp [Builtin.zeroCells]
    apply List.ext_getElem
    · simp
    · intro i h1 h2
      simp [Nat.mod_one]
  have hst := run_storeCells_cells (P := P) b o (List.replicate n v0) 0 w (by simpa using hc) (by simpa using hf) (by intro v hv'; rw [List.eq_of_mem_replicate hv']; exact h1)
  simp only [Nat.add_zero] at hst
  obtain ⟨m, rfl⟩ : ∃ m, n = m + 1 := ⟨n - 1, by omega⟩
  simp [Builtin.clear_, run_underlying ht, hv, hzc, hst]
theorem one_ok {t e : TypeId} {esz : Nat} {x : C} {sz : Nat} {ag : Bool} {z : List C} {eq : Option (List K)} (h : T t = some ⟨sz, ag, z, .slice e esz [x], eq⟩) (hx : x.n = 1) :
    ∃ i v0, P.underlying t = some (.slice e) ∧ P.info? e = some i ∧ i.size = 1 ∧ (∃ z0, i.zero = some z0 ∧ z0.cells = #[v0]) ∧ ∀ ρ, x.cells ρ = [v0] := by
  obtain ⟨i, z0, hu, hi, hz, hzs, hsz, h0, hby⟩ := sli_ok hT h
  have hzc : ∀ ρ, z0.cells = (cellsL ρ [x]).toArray := fun ρ => by
    obtain ⟨-, -, -, -, -, hzz⟩ := sh_ok hT h
    have := (hzz ρ).1
    rw [hi] at this
    simpa [hz] using this
  have hl : ∀ ρ, (x.cells ρ).length = 1 := fun ρ => by rw [← hx]; exact C.cells_length ρ x
  obtain ⟨v0, hv0⟩ : ∃ v, x.cells (fun _ => (0, 0)) = [v] := by
    match hc : x.cells (fun _ => (0, 0)), hl (fun _ => (0, 0)) with
    | [v], _ => exact ⟨v, rfl⟩
  have hz1 : z0.cells = #[v0] := by rw [hzc (fun _ => (0, 0)), cellsL_cons, hv0]; rfl
  refine ⟨i, v0, hu, hi, by rw [← hzs, hz1]; rfl, ⟨z0, hz, hz1⟩, fun ρ => ?_⟩
  have := hzc ρ
  rw [hz1, cellsL_cons] at this
  have h3 := congrArg Array.toList this
  simpa [cellsL] using h3.symm
theorem oMore_ok : OOk P (oMore T) := by
  intro o tm hp K h N w0 a w next Q hr hn
  unfold oMore at h
  split at h
  · rename_i c hop
    split at h
    · rcases h with h | h
      · exact oAppend_ok hT o tm hp K h hr hn
      · exact oClone_ok hT o tm hp K h hr hn
    · rename_i s t hce hargs htys
      split at h
      · rename_i sz ag z e esz x eq b off n cap hl hTt hs
        split at h
        · rename_i ty cs tl hb
          obtain ⟨hx, h1, A, m, B, rfl, rfl, rfl, h⟩ := h
          obtain ⟨i, v0, hu, hi, hs1, ⟨z0, hz, hzc⟩, hxv⟩ := one_ok hT hTt hx
          obtain ⟨ρ0, hh, htm, hd⟩ := hr
          have hev : ∀ ρ, Agr (nthO hp) ρ ρ0 → a.eval = evr (evm tm) ρ := fun ρ hρ => eval_ok (htm ρ hρ)
          have hev0 := hev ρ0 (Agr.refl _ _)
          rw [updK_eq, putK_eq] at h
          have hH := hh.holds ρ0 (Agr.refl _ _) b _ hb
          have h0 := (hH.2 rfl).1
          have hsv : a.eval s = .slice (some ⟨(ρ0 b).1, sizeC A, none⟩) (sizeC m) cap := by
            rw [hev0]; show (evm tm s).den ρ0 = _; rw [hs]; simp [SV.den, C.den, C.cells, nlA, h0]
          have hv1 : v0.oneCell' = true := by
            have := allOne_of ρ0 h1 v0 (by rw [cellsL_cons, hxv ρ0]; simp [cellsL])
            exact this
          have hrun : (Builtin.clear_ #[t] o.type #[.slice (some ⟨(ρ0 b).1, sizeC A, none⟩) (sizeC m) cap]).run P w = .ok (.tuple #[]) (w.setCells (ρ0 b).1 (sizeC A) (List.replicate (sizeC m) v0)) := by
            rcases Nat.eq_zero_or_pos (sizeC m) with hm0 | hm0
            · rw [hm0]
              simp [Builtin.clear_, run_underlying hu, World.setCells]
            · obtain ⟨-, t0, ht0, hheap⟩ := hH.2 rfl
              have hcell : ∀ j, j < sizeC m → ∃ u, w.cell? ⟨(ρ0 b).1, sizeC A + j, none⟩ = some u := fun j hj => by
                rw [cell_of_row _ _ _ _ _ _ hheap]
                simp only [List.getElem?_toArray]
                have hlen : sizeC A + j < (cellsL ρ0 (A ++ (m ++ B)) ++ t0).length := by rw [List.length_append, ← sizeC_eq, sizeC_append, sizeC_append]; omega
                exact ⟨_, List.getElem?_eq_getElem hlen⟩
              refine run_clear_sx w t e o.type z0 v0 hu (fun w => ?_) hzc hv1 _ _ _ _ hm0 (fun j hj => ?_) (fun j hj => frozen_of_row _ _ _ _ _ hheap)
              · simp [zeroValue, typeInfo, hi, hz]
              · obtain ⟨u, hu'⟩ := hcell j hj; rw [hu']; rfl
          have hlenM : (List.replicate (sizeC m) v0).length = sizeC m := List.length_replicate
          refine wp_clear_sx hop hce hargs htys (by rw [hsv]; exact hrun) (hn _ _ _ _ h (RelS.put (ρ1 := ρ0) htm hd ?_ (fun j hj => ?_) o.dst fun ρ hρ => rfl))
          · rw [nthO_set _ _ _ _ hb]
            exact hh.put (blk := ⟨ty, false, A ++ (m ++ B), tl⟩) hb rfl fun ρ hρ => by
              have hbb : ρ b = ρ0 b := hρ b (by rw [hb]; rfl)
              obtain ⟨t1, ht1, hk⟩ := own_splice (hh.holds ρ hρ b _ hb) hlenM
              rw [hbb] at hk
              refine ⟨t1, ht1, ?_⟩
              rw [hk, cellsL_append, cellsL_append, cellsL_rep (hxv ρ)]
          · rw [nthO_set _ _ _ _ hb]
            refine ⟨?_, rfl⟩
            unfold upF; split; rfl; exact hj
        · cases h
      · cases h
    · rename_i d s t t' hce hargs htys
      split at h
      · rename_i sz ag z e esz x eq b off n cap hl b2 off2 n2 cap2 hl2 hTt hdd hs
        split at h
        · rename_i ty cs tl blk2 hb hb2
          obtain ⟨hx, k, hik, A, m, B, ms, hkm, rfl, rfl, hmk, hsub, h1, h⟩ := h
          obtain ⟨i, v0, hu, hi, hs1, -, hxv⟩ := one_ok hT hTt hx
          obtain ⟨ρ0, hh, htm, hd⟩ := hr
          have hev : ∀ ρ, Agr (nthO hp) ρ ρ0 → a.eval = evr (evm tm) ρ := fun ρ hρ => eval_ok (htm ρ hρ)
          have hev0 := hev ρ0 (Agr.refl _ _)
          rw [updK_eq, putK_eq] at h
          have hH := hh.holds ρ0 (Agr.refl _ _) b _ hb
          have h0 := (hH.2 rfl).1
          have hdv : a.eval d = .slice (some ⟨(ρ0 b).1, sizeC A, none⟩) n cap := by
            rw [hev0]; show (evm tm d).den ρ0 = _; rw [hdd]; simp [SV.den, C.den, C.cells, nlA, h0]
          have hsv : a.eval s = .slice (some ⟨(ρ0 b2).1, (ρ0 b2).2 + off2, none⟩) n2 cap2 := by
            rw [hev0]; show (evm tm s).den ρ0 = _; rw [hs]; simp [SV.den, C.den, C.cells, nlA]
          have hsz : (P.info? e).map (·.size) = some 1 := by rw [hi]; simp [hs1]
          obtain ⟨X, R, e1, e2, e3⟩ := subC_spec hsub
          have hsrcρ : ∀ ρ, Agr (nthO hp) ρ ρ0 → ∀ j v, (cellsL ρ ms)[j]? = some v → w.cell? ((Addr.mk (ρ0 b2).1 ((ρ0 b2).2 + off2) none).add j) = some v := fun ρ hρ j v hj => by
            have hr := (hh.holds ρ hρ b2 blk2 hb2).1
            rw [e1, cellsL_append, cellsL_append, hρ b2 (by rw [hb2]; rfl)] at hr
            have hr := range_sub hr
            rw [← sizeC_eq, e2] at hr
            rw [Addr.add_mid]
            exact hr j v hj
          have hlen : ∀ ρ, (cellsL ρ ms).length = k := fun ρ => by rw [← sizeC_eq]; exact e3
          have hsame : ∀ ρ, Agr (nthO hp) ρ ρ0 → cellsL ρ ms = cellsL ρ0 ms := fun ρ hρ => by
            apply List.ext_getElem (by rw [hlen, hlen])
            intro j h1 h2
            have a1 := hsrcρ ρ hρ j _ (List.getElem?_eq_getElem h1)
            have a2 := hsrcρ ρ0 (Agr.refl _ _) j _ (List.getElem?_eq_getElem h2)
            rw [a1] at a2
            exact Option.some.inj a2
          obtain ⟨-, t0, ht0, hheap⟩ := hH.2 rfl
          have hcell : ∀ j, j < (cellsL ρ0 ms).length → (w.cell? ⟨(ρ0 b).1, sizeC A + j, none⟩).isSome = true := fun j hj => by
            rw [hlen] at hj
            rw [cell_of_row _ _ _ _ _ _ hheap]
            simp only [List.getElem?_toArray]
            have hlen : sizeC A + j < (cellsL ρ0 (A ++ (m ++ B)) ++ t0).length := by rw [List.length_append, ← sizeC_eq, sizeC_append, sizeC_append]; omega
            rw [List.getElem?_eq_getElem hlen]; rfl
          have hrun := run_copy_cells (P := P) w t t' o.type e (ρ0 b).1 (sizeC A) n cap ⟨(ρ0 b2).1, (ρ0 b2).2 + off2, none⟩ n2 cap2 (cellsL ρ0 ms) hu hsz (by rw [hlen, hkm]) (hsrcρ ρ0 (Agr.refl _ _)) hcell (fun j _ => frozen_of_row _ _ _ _ _ hheap) (allOne_of ρ0 h1)
          rw [hlen] at hrun
          refine wp_copy_sx hop hce hargs htys (by rw [hdv, hsv]; exact hrun) (hn _ _ _ _ h (RelS.put (ρ1 := ρ0) htm hd ?_ (fun j hj => ?_) o.dst fun ρ hρ => rfl))
          · rw [nthO_set _ _ _ _ hb]
            exact hh.put (blk := ⟨ty, false, A ++ (m ++ B), tl⟩) hb rfl fun ρ hρ => by
              have hbb : ρ b = ρ0 b := hρ b (by rw [hb]; rfl)
              obtain ⟨t1, ht1, hk⟩ := own_splice (hh.holds ρ hρ b _ hb) (M := cellsL ρ0 ms) (by rw [hlen, hmk])
              rw [hbb] at hk
              refine ⟨t1, ht1, ?_⟩
              rw [hk, cellsL_append, cellsL_append, hsame ρ hρ]
          · rw [nthO_set _ _ _ _ hb]
            refine ⟨?_, rfl⟩
            unfold upF; split; rfl; exact hj
        · cases h
      · cases h
    · exact oMake_ok hT o tm hp K h hr hn
  · exact oMake_ok hT o tm hp K h hr hn
end
end Go.Proofs.YthmdmbpecgakkaaDoor

namespace Go.Proofs.YthmdmbpecgakkaaDoor
open Go.RowKit

/-- bytes as cells -/
def bsC (l : List UInt8) : List C := l.map fun b => .val (.int .u8 (b.toNat : Int))
theorem bsC_cells (ρ : Rho) : ∀ l : List UInt8, cellsL ρ (bsC l) = l.map fun b => Value.int .u8 (b.toNat : Int)
  | [] => rfl
  | b :: l => by rw [bsC, List.map_cons, cellsL_cons, List.map_cons, ← bsC_cells ρ l]; rfl
theorem bsC_size (l : List UInt8) : sizeC (bsC l) = l.length := by
  rw [sizeC_eq (fun _ => (0, 0)), bsC_cells, List.length_map]
def oAll (T : TypeId → Option TI) (o : Oper) (tm : List SV) (hp : List Blk) (K : List SV → List Blk → Prop) : Prop :=
  match o.op with
  | .binOp bop t x y _ => (match bop, T t, evm tm x, evm tm y with
    | .eql, some { sh := .slice _ _ _, .. }, .c (.sli nl _ _ _ _ _), .c (.val (.slice none 0 0)) => putK o.dst (.c (.val (.bool nl))) tm fun tm => K tm hp
    | .neq, some { sh := .slice _ _ _, .. }, .c (.sli nl _ _ _ _ _), .c (.val (.slice none 0 0)) => putK o.dst (.c (.val (.bool (!nl)))) tm fun tm => K tm hp
    | _, _, _, _ => Bad o 41 (opEv o tm))
  | .convert s d x => (match T s, T d, evm tm x with
    | some { sh := .slice e _ _, .. }, some { sh := .string, .. }, .c (.sli nl b off n _ _) => (match T e, nthO hp b with
      | some { sh := .int .u8, .. }, some blk => ∃ l : List UInt8, l.length = n ∧ (nl = false ∨ n = 0) ∧ subC blk.cs off n = some (bsC l) ∧ putK o.dst (.c (.val (.string ⟨l.toArray⟩))) tm fun tm => K tm hp
      | _, _ => Bad o 42 (opEv o tm))
    | some { sh := .string, .. }, some { sh := .slice e _ _, .. }, .c (.val (.string s)) => (match T e with
      | some { sh := .int .u8, .. } => s.size ≤ 9223372036854775807 ∧ ∀ (cap : Nat) (h2 : SliOk false s.size cap), snocK hp ⟨e, true, bsC s.data.toList, 0⟩ fun hp' => lenK hp fun k => putK o.dst (.c (.sli false k 0 s.size cap h2)) tm fun tm => K tm hp'
      | _ => Bad o 43 (opEv o tm))
    | _, _, _ => Bad o 44 (opEv o tm))
  | _ => oMore T o tm hp K

section
variable {P : Program} {T : TypeId → Option TI} (hT : TOk P T)
theorem wp_bin_sx {o : Oper} {bop : BinOp} {t yt : TypeId} {x y : Operand} (ho : o.op = .binOp bop t x y yt) {a : Act} {w : World} {next : Act → World → Prop} {Q : Exit → Act → World → Prop} {v : Value} {w' : World}
    (hg : (eqGuard bop t x y (a.eval x) (a.eval y)).run P w = .ok () w) (hr : (binOp bop t (a.eval x) (a.eval y)).run P w = .ok v w') (hn : next (a.put o.dst v) w') : o.wp P a w next Q := by
  unfold Oper.wp execOp
  simp only [ho, Sem.run_bind, Sem.run_pure, Result.andThen_ok, hg, hr]
  exact hn
theorem wp_conv_sx {o : Oper} {s d : TypeId} {x : Operand} (ho : o.op = .convert s d x) {a : Act} {w : World} {next : Act → World → Prop} {Q : Exit → Act → World → Prop} {v : Value} {w' : World}
    (hr : (convert s d (a.eval x)).run P w = .ok v w') (hn : next (a.put o.dst v) w') : o.wp P a w next Q := by
  unfold Oper.wp execOp
  simp only [ho, Sem.run_bind, Sem.run_pure, Result.andThen_ok, hr]
  exact hn
/-- a block that is only read, at a place that is new -/
theorem HRel.addRo {N : Nat} {w0 : Base} {hf : Nat → Option Blk} {ρ0 : Rho} {w w' : World} (h : HRel N w0 hf ρ0 w) (hb : Below w.heap.size w w') (hlt : w.heap.size < w'.heap.size) {n : Nat} (hn : hf n = none) {v : Blk} (hro : v.ro = true) (hvm : v.mapOf = none) (hvf : v.famOf = none) (hp : PureL v.cs)
    (hr : w'.rangeAt w.heap.size 0 (cellsL ρ0 v.cs)) : HRel N w0 (upF hf n v) (upR ρ0 n (w.heap.size, 0)) w' := by
  have h' := h.below hb
  have hne : ∀ {i : Nat} {c : Blk}, i ≠ n → upF hf n v i = some c → hf i = some c := fun hi hc => by unfold upF at hc; rwa [if_neg hi] at hc
  have hat : ∀ {c : Blk}, upF hf n v n = some c → c = v := fun hc => by unfold upF at hc; rw [if_pos rfl] at hc; cases hc; rfl
  have rn : upR ρ0 n (w.heap.size, 0) n = (w.heap.size, 0) := by unfold upR; rw [if_pos rfl]
  have ri : ∀ {i : Nat}, i ≠ n → upR ρ0 n (w.heap.size, 0) i = ρ0 i := fun hi => by unfold upR; rw [if_neg hi]
  refine ⟨fun i b hi hv => ?_, fun i b hi ho => ?_, fun i j b c hi ho hj hv hij => ?_, fun ρ hρ i b hi => ?_, h'.bel, h'.big, fun i hi => ?_, fun i b e hi he => ?_, fun i j b c hi hj hb hc hij => ?_, h'.fam.up (fun i b hi hm => ?_) fun j c hj hc => ?_⟩
  · by_cases e : i = n
    · subst e; rw [rn]; exact hlt
    · rw [ri e]; exact h'.old i b (hne e hi) hv
  · by_cases e : i = n
    · subst e; rw [hat hi, hro] at ho; cases ho
    · rw [ri e]; exact h'.own i b (hne e hi) ho
  · by_cases ei : i = n
    · subst ei; rw [hat hi, hro] at ho; cases ho
    · by_cases ej : j = n
      · subst ej
        rw [rn, ri ei]
        have := h.old i b (hne ei hi) (own_live ho)
        show w.heap.size ≠ _
        omega
      · rw [ri ei, ri ej]; exact h'.apart i j b c (hne ei hi) ho (hne ej hj) hv hij
  · by_cases e : i = n
    · subst e
      have := hat hi
      subst this
      have hρn : ρ i = (w.heap.size, 0) := by rw [hρ i (by rw [hi]; rfl), rn]
      refine ⟨?_, fun h0 => by rw [hro] at h0; cases h0⟩
      have hp2 : cellsL ρ b.cs = cellsL ρ0 b.cs := hp ρ ρ0
      rw [hρn, hp2]; exact hr
    · exact h'.holds ρ (fun k hk => by
        have hkn : k ≠ n := fun e => by rw [e, hn] at hk; cases hk
        rw [hρ k (by unfold upF; rw [if_neg hkn]; exact hk), ri hkn]) i b (hne e hi)
  · have := h'.ext i hi
    have hin : i ≠ n := fun e => by rw [e, hn] at this; exact absurd this.1 (by simp)
    exact ⟨by unfold upF; rw [if_neg hin]; exact this.1, by rw [ri hin]; exact this.2⟩
  · by_cases e2 : i = n
    · subst e2; rw [hat hi, hvm] at he; cases he
    · rw [ri e2]; exact h'.maps i b e (hne e2 hi) he
  · by_cases ei : i = n
    · subst ei; rw [hat hi, hvm] at hb; cases hb
    · by_cases ej : j = n
      · subst ej; rw [hat hj, hvm] at hc; cases hc
      · rw [ri ei, ri ej]; exact h'.mapA i j b c (hne ei hi) (hne ej hj) hb hc hij
  · by_cases ei : i = n
    · subst ei; rw [hat hi, hvf] at hm; cases hm
    · exact ⟨i, b, hne ei hi, rfl⟩
  · by_cases ej : j = n
    · subst ej; rw [hat hj, hro] at hc; cases hc
    · exact .inl ⟨j, c, hne ej hj, hc, by rw [ri ej]⟩
theorem nlA_isNone (nl : Bool) (a : Addr) : (nlA nl a).isNone = nl := by cases nl <;> rfl
include hT
theorem under_sli {t e : TypeId} {esz : Nat} {ez : List C} {sz : Nat} {ag : Bool} {z : List C} {eq : Option (List K)} (h : T t = some ⟨sz, ag, z, .slice e esz ez, eq⟩) : P.underlying t = some (.slice e) := (hT _ _ h).sh.1
theorem under_int {t : TypeId} {k : IntKind} {sz : Nat} {ag : Bool} {z : List C} {eq : Option (List K)} (h : T t = some ⟨sz, ag, z, .int k, eq⟩) : P.underlying t = some (.int k) := (hT _ _ h).sh
theorem under_str {t : TypeId} {sz : Nat} {ag : Bool} {z : List C} {eq : Option (List K)} (h : T t = some ⟨sz, ag, z, .string, eq⟩) : P.underlying t = some .string := (hT _ _ h).sh
theorem oAll_ok : OOk P (oAll T) := by
  intro o tm hp K h N w0 a w next Q hr hn
  unfold oAll at h
  split at h
  · rename_i bop t x y yt hop
    split at h
    · rename_i sz ag z e esz ez eq nl b off n cap hl hTt hx hy
      obtain ⟨ρ0, hh, htm, hd⟩ := hr
      have hev : ∀ ρ, Agr (nthO hp) ρ ρ0 → a.eval = evr (evm tm) ρ := fun ρ hρ => eval_ok (htm ρ hρ)
      have hev0 := hev ρ0 (Agr.refl _ _)
      rw [putK_eq] at h
      have ex : a.eval x = .slice (nlA nl ⟨(ρ0 b).1, (ρ0 b).2 + off, none⟩) n cap := by rw [hev0]; show (evm tm x).den ρ0 = _; rw [hx]; rfl
      have ey : a.eval y = .slice none 0 0 := by rw [hev0]; show (evm tm y).den ρ0 = _; rw [hy]; rfl
      have hrun := run_eql_slice_nil (P := P) w t e (nlA nl ⟨(ρ0 b).1, (ρ0 b).2 + off, none⟩) n cap (under_sli hT hTt)
      rw [nlA_isNone] at hrun
      refine wp_bin_sx hop (by rw [ex, ey]; simp [eqGuard]) (by rw [ex, ey]; exact hrun) (hn _ _ _ _ h (RelS.put (ρ1 := ρ0) htm hd hh (fun j hj => ⟨hj, rfl⟩) o.dst fun ρ hρ => rfl))
    · rename_i sz ag z e esz ez eq nl b off n cap hl hTt hx hy
      obtain ⟨ρ0, hh, htm, hd⟩ := hr
      have hev : ∀ ρ, Agr (nthO hp) ρ ρ0 → a.eval = evr (evm tm) ρ := fun ρ hρ => eval_ok (htm ρ hρ)
      have hev0 := hev ρ0 (Agr.refl _ _)
      rw [putK_eq] at h
      have ex : a.eval x = .slice (nlA nl ⟨(ρ0 b).1, (ρ0 b).2 + off, none⟩) n cap := by rw [hev0]; show (evm tm x).den ρ0 = _; rw [hx]; rfl
      have ey : a.eval y = .slice none 0 0 := by rw [hev0]; show (evm tm y).den ρ0 = _; rw [hy]; rfl
      have hrun := run_neq_slice_nil (P := P) w t e (nlA nl ⟨(ρ0 b).1, (ρ0 b).2 + off, none⟩) n cap (under_sli hT hTt)
      rw [nlA_isNone] at hrun
      refine wp_bin_sx hop (by rw [ex, ey]; simp [eqGuard]) (by rw [ex, ey]; exact hrun) (hn _ _ _ _ h (RelS.put (ρ1 := ρ0) htm hd hh (fun j hj => ⟨hj, rfl⟩) o.dst fun ρ hρ => rfl))
    · cases h
  · rename_i s d x hop
    split at h
    · rename_i sz ag z e esz ez eq sz2 ag2 z2 eq2 nl b off n cap hl hTs hTd hx
      split at h
      · rename_i sz3 ag3 z3 eq3 blk hTe hb
        obtain ⟨l, hln, hnl, hsub, h⟩ := h
        obtain ⟨ρ0, hh, htm, hd⟩ := hr
        have hev : ∀ ρ, Agr (nthO hp) ρ ρ0 → a.eval = evr (evm tm) ρ := fun ρ hρ => eval_ok (htm ρ hρ)
        have hev0 := hev ρ0 (Agr.refl _ _)
        rw [putK_eq] at h
        have ex : a.eval x = .slice (nlA nl ⟨(ρ0 b).1, (ρ0 b).2 + off, none⟩) n cap := by rw [hev0]; show (evm tm x).den ρ0 = _; rw [hx]; rfl
        obtain ⟨X, R, e1, e2, e3⟩ := subC_spec hsub
        have hcell : ∀ j (hj : j < l.length), w.cell? ((Addr.mk (ρ0 b).1 ((ρ0 b).2 + off) none).add j) = some (.int .u8 (l[j].toNat : Int)) := fun j hj => by
          have hr := (hh.holds ρ0 (Agr.refl _ _) b blk hb).1
          rw [e1, cellsL_append, cellsL_append] at hr
          have hr := range_sub hr
          rw [← sizeC_eq, e2] at hr
          rw [Addr.add_mid]
          exact hr j _ (by rw [bsC_cells, List.getElem?_map, List.getElem?_eq_getElem hj]; rfl)
        have hrun : (convert s d (a.eval x)).run P w = .ok (.string ⟨l.toArray⟩) w := by
          rw [ex]
          cases nl with
          | false => rw [← hln]; exact run_convert_bytes_back w s d e _ cap l (under_sli hT hTs) (under_int hT hTe) (under_str hT hTd) hcell
          | true =>
            have hl0 : l = [] := List.eq_nil_of_length_eq_zero (by rcases hnl with h | h; cases h; omega)
            subst hl0
            rw [show nlA true _ = none from rfl, run_convert_bytes_string w s d e none n cap (under_sli hT hTs) (under_int hT hTe) (under_str hT hTd)]
            simp [Conv.bytesToString]
            rfl
        exact wp_conv_sx hop hrun (hn _ _ _ _ h (RelS.put (ρ1 := ρ0) htm hd hh (fun j hj => ⟨hj, rfl⟩) o.dst fun ρ hρ => rfl))
      · cases h
    · rename_i sz ag z eq sz2 ag2 z2 e esz ez eq2 str hTs hTd hx
      split at h
      · rename_i sz3 ag3 z3 eq3 hTe
        obtain ⟨hsz, h⟩ := h
        obtain ⟨ρ0, hh, htm, hd⟩ := hr
        have hev : ∀ ρ, Agr (nthO hp) ρ ρ0 → a.eval = evr (evm tm) ρ := fun ρ hρ => eval_ok (htm ρ hρ)
        have hev0 := hev ρ0 (Agr.refl _ _)
        have ex : a.eval x = .string str := by rw [hev0]; show (evm tm x).den ρ0 = _; rw [hx]; rfl
        have hrun := run_bytes_of_string (P := P) w s d e str (under_str hT hTs) (under_sli hT hTd) (under_int hT hTe)
        have hge := grownCap_ge w str.size 0 e
        have hle := grownCap_le_maxLen w str.size 0 e (by simp only [maxLen]; omega)
        have h2 : SliOk false str.size (grownCap w str.size 0 e) := ⟨hge, by simpa only [maxLen] using hle, fun h => by cases h⟩
        have hk := h _ h2
        rw [snocK_eq, lenK_eq, putK_eq] at hk
        have hnone : nthO hp hp.length = none := nthO_none hp
        have hsn : ∀ (b : Blk), nthO (hp ++ [b]) = upF (nthO hp) hp.length b := fun b => nthO_snoc' _ _
        refine wp_conv_sx hop (by rw [ex]; exact hrun) (hn _ _ _ _ hk (RelS.put (ρ1 := upR ρ0 hp.length (w.heap.size, 0)) htm hd ?_ (fun j hj => ?_) o.dst fun ρ hρ => ?_))
        · rw [hsn]
          refine hh.addRo ?_ ?_ hnone rfl (map_tl rfl) (fam_tl rfl) (fun ρ ρ' => ?_) ?_
          · exact ((Below.refl w.heap.size w).drew).alloc (Nat.le_refl _) _
          · simp
          · show cellsL ρ _ = cellsL ρ' _; rw [bsC_cells, bsC_cells]
          · show World.rangeAt _ _ _ (cellsL ρ0 (bsC _))
            rw [bsC_cells]
            intro j v hj
            have hjl := (List.getElem?_eq_some_iff.1 hj).1
            rw [Nat.zero_add, cell_of_row _ w.heap.size j _ _ _ (heap_alloc_new w.drew _), bytesRow, Array.getElem?_append_left (by simpa using hjl), ← Array.getElem?_toList, Array.toList_map]
            exact hj
        · rw [hsn]; exact up_agr hnone j hj
        · have hgn : ρ hp.length = (w.heap.size, 0) := by
            rw [hρ _ (by rw [hsn]; unfold upF; rw [if_pos rfl]; rfl)]; unfold upR; rw [if_pos rfl]
          simp [SV.den, C.den, C.cells, nlA, hgn]
      · cases h
    · cases h
  · exact oMore_ok hT o tm hp K h hr hn
end
end Go.Proofs.YthmdmbpecgakkaaDoor
