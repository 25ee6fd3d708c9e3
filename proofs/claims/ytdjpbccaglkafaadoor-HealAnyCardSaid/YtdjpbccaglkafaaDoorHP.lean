/- law 05: Polys. -/
import Derived.Test.YtdjpbccaglkafaaDoorH5L
namespace Go.Proofs.YtdjpbccaglkafaaDoor
open Go.RowKit
set_option maxRecDepth 100000

/-- a list of polygons of the call's own -/
structure OY where
  l : List PY
  nl : Bool
  cap : Nat
  ok : SliOk nl l.length cap
def OY.sl (o : OY) (b : Nat) : SV := .c (.sli o.nl b 0 o.l.length o.cap o.ok)
def OY.blk (o : OY) : Blk := ⟨31, o.nl, pysC o.l, (o.cap - o.l.length) * 2⟩
def OY.none : OY := ⟨[], true, 0, by unfold SliOk; decide⟩
theorem OY.new (o : OY) : NewB o.blk := by
  refine ⟨pysC_pure o.l, ?_⟩
  cases h : o.nl with
  | false => exact .inl h
  | true =>
    right
    have h1 := o.ok.1; have h2 := o.ok.2.2 h
    have : o.l = [] := List.eq_nil_of_length_eq_zero (by omega)
    unfold OY.blk Blk.void
    rw [h, this]; rfl
theorem OY.app (o : OY) {m : Nat} (hm : (o.l.length + m) * 2 ≤ 5000000000000) : o.blk.ty = 31 ∧ o.blk.ro = o.nl ∧ sizeC o.blk.cs = o.l.length * 2 ∧ (o.nl = false → sizeC o.blk.cs + o.blk.tl = o.cap * 2) ∧ (o.l.length + m) * 2 ≤ 5000000000000 := by
  have h1 : sizeC o.blk.cs = o.l.length * 2 := by show sizeC (pysC o.l) = _; rw [pysC_size]; omega
  refine ⟨rfl, rfl, h1, fun _ => ?_, hm⟩
  rw [h1]
  show o.l.length * 2 + (o.cap - o.l.length) * 2 = o.cap * 2
  have := o.ok.1
  omega
def OY.push (o : OY) (m : List PY) {n : Nat} (hn : m.length = n) (cap2 : Nat) (h2 : SliOk (o.nl && decide (n = 0)) (o.l.length + n) cap2) : OY := ⟨o.l ++ m, o.nl && decide (n = 0), cap2, by rw [List.length_append, hn]; exact h2⟩
theorem OY.push_sl (o : OY) (m : List PY) {n : Nat} (hn : m.length = n) (cap2 : Nat) (h2 : SliOk (o.nl && decide (n = 0)) (o.l.length + n) cap2) (b : Nat) (ρ : Rho) : (SV.c (.sli (o.nl && decide (n = 0)) b 0 (o.l.length + n) cap2 h2)).den ρ = ((o.push m hn cap2 h2).sl b).den ρ := by
  simp only [OY.sl, OY.push, SV.den, C.den, C.cells, List.length_append, hn]
theorem OY.push_blk (o : OY) (m : List PY) {n : Nat} (hn : m.length = n) (cap2 : Nat) (h2 : SliOk (o.nl && decide (n = 0)) (o.l.length + n) cap2) {cs : List C} (hcs : ∀ ρ, cellsL ρ cs = cellsL ρ (pysC m)) :
    31 = (o.push m hn cap2 h2).blk.ty ∧ (o.nl && decide (n = 0)) = (o.push m hn cap2 h2).blk.ro ∧ (cap2 - (o.l.length + n)) * 2 = (o.push m hn cap2 h2).blk.tl ∧ ∀ ρ, cellsL ρ (pysC o.l ++ cs) = cellsL ρ (o.push m hn cap2 h2).blk.cs := by
  refine ⟨rfl, rfl, ?_, fun ρ => ?_⟩
  · simp only [OY.push, OY.blk, List.length_append, hn]
  · show _ = cellsL ρ (pysC (o.l ++ m))
    rw [pysC_append, cellsL_append, cellsL_append, hcs]
structure ZI where
  x : Int
  h : IR x
def intsC : List ZI → List C
  | [] => []
  | z :: l => .int z.x z.h :: intsC l
theorem intsC_size : ∀ l : List ZI, sizeC (intsC l) = l.length
  | [] => rfl
  | _ :: l => by rw [intsC, List.length_cons, ← intsC_size l]; show 1 + _ = _; omega
theorem intsC_append : ∀ a b : List ZI, intsC (a ++ b) = intsC a ++ intsC b
  | [], _ => rfl
  | _ :: l, b => by rw [List.cons_append, intsC, intsC_append l b]; rfl
theorem intsC_pure : ∀ l : List ZI, PureL (intsC l)
  | [] => fun _ _ => rfl
  | x :: l => pureL_append (a := [.int x.x x.h]) (fun _ _ => rfl) (intsC_pure l)
theorem subC_int (l : List ZI) {k : Nat} (hk : k < l.length) : subC (intsC l) (0 + k * 1) 1 = some [.int l[k].x l[k].h] := by
  have e : intsC l = intsC (l.take k) ++ ([.int l[k].x l[k].h] ++ intsC (l.drop (k + 1))) := by
    have h : l = l.take k ++ (l[k] :: l.drop (k + 1)) := by rw [← List.drop_eq_getElem_cons hk, List.take_append_drop]
    rw [show intsC l = intsC (l.take k ++ (l[k] :: l.drop (k + 1))) by rw [← h], intsC_append]
    rfl
  have s : sizeC (intsC (l.take k)) = 0 + k * 1 := by rw [intsC_size]; simp; omega
  rw [e, ← s]
  exact subC_app _ [.int l[k].x l[k].h] _
/-- a row of numbers: where it lies -/
structure LN where
  a : Option Addr
  nl : Bool
  r : Nat
  o : Nat
  len : Nat
  cap : Nat
  ok : SliOk nl len cap
  ha : len ≠ 0 → a = nlA nl ⟨r, o, none⟩
  full : List ZI
  hl : len ≤ full.length
def LN.val (p : LN) : Value := .slice p.a p.len p.cap
theorem LN.val_eq (p : LN) (h : p.len ≠ 0) : p.val = .slice (nlA p.nl ⟨p.r, p.o, none⟩) p.len p.cap := by unfold LN.val; rw [p.ha h]
def LN.l (p : LN) : List ZI := p.full.take p.len
def LN.In (fam : List Ent) (p : LN) : Prop := intsC p.full = [] ∨ InF fam (p.r, p.o) (intsC p.full)
def lnsC : List LN → List C
  | [] => []
  | z :: l => .val z.val :: lnsC l
theorem lnsC_size : ∀ l : List LN, sizeC (lnsC l) = l.length
  | [] => rfl
  | _ :: l => by rw [lnsC, List.length_cons, ← lnsC_size l]; show 1 + _ = _; omega
theorem lnsC_append : ∀ a b : List LN, lnsC (a ++ b) = lnsC a ++ lnsC b
  | [], _ => rfl
  | _ :: l, b => by rw [List.cons_append, lnsC, lnsC_append l b]; rfl
theorem lnsC_pure : ∀ l : List LN, PureL (lnsC l)
  | [] => fun _ _ => rfl
  | x :: l => pureL_append (a := [.val x.val]) (fun _ _ => rfl) (lnsC_pure l)
theorem subC_ln (l : List LN) {k : Nat} (hk : k < l.length) : subC (lnsC l) (0 + k * 1) 1 = some [.val l[k].val] := by
  have e : lnsC l = lnsC (l.take k) ++ ([.val l[k].val] ++ lnsC (l.drop (k + 1))) := by
    have h : l = l.take k ++ (l[k] :: l.drop (k + 1)) := by rw [← List.drop_eq_getElem_cons hk, List.take_append_drop]
    rw [show lnsC l = lnsC (l.take k ++ (l[k] :: l.drop (k + 1))) by rw [← h], lnsC_append]
    rfl
  have s : sizeC (lnsC (l.take k)) = 0 + k * 1 := by rw [lnsC_size]; simp; omega
  rw [e, ← s]
  exact subC_app _ [.val l[k].val] _
/-- the reckoner's world in Polys -/
def hN : FuncId → List SV → List Blk → (SV → List Blk → Prop) → Prop := inl (envH 0 baseH []) noF 0
theorem hN_ok : HOk Tryd.prog hN := inl_ok (envH_ok baseH_ok .nil 0) mixed noF_ok 0
def envP : Env := { envH 0 baseH [] with O := oimp (envH 0 baseH []) hN (ofz (oClr tyT (oMap Tryd.prog tyT)) 1) 1 }
theorem envP_ok : EOk Tryd.prog envP := ⟨(envH_ok baseH_ok .nil 0).T, (envH_ok baseH_ok .nil 0).D, oimp_ok (envH_ok baseH_ok .nil 0) hN_ok (ofz_ok (envH_ok baseH_ok .nil 0).O 1) 1, (envH_ok baseH_ok .nil 0).R⟩
def andZ (a b : Int) : Int := IntKind.i64.wrap ((BitVec.ofInt 64 a &&& BitVec.ofInt 64 b).toNat : Int)
theorem ir_12 {k : Nat} (h : k ≤ 30) : IR k := by unfold IR; omega
/-- a corner of the small grid -/
def Sm3 (c : PT) : Prop := (0 ≤ c.x ∧ c.x ≤ 3) ∧ (0 ≤ c.y ∧ c.y ≤ 3) ∧ 0 ≤ c.z ∧ c.z ≤ 3
structure PoI (n : Nat) (k : Nat) (fam : List Ent) (o : OY) : Prop where
  k1 : k ≤ n
  k2 : k ≤ 30
  len : o.l.length = k
  ps : ∀ p ∈ o.l, p.len ≤ 8 ∧ p.In fam
  sm : ∀ p ∈ o.l, ∀ c ∈ p.cor, Sm3 c
theorem PoI.zero (n : Nat) : PoI n 0 [] OY.none := ⟨Nat.zero_le _, Nat.zero_le _, rfl, fun p hp => (by cases hp), fun p hp => (by cases hp)⟩
def okR0 (v : C) (L : List LN) : Prop := (∃ (nl : Bool) (cap : Nat) (hl : SliOk nl L.length cap), v = .sli nl 0 0 L.length cap hl) ∨ ∃ a c, v = .val (.slice a 0 c) ∧ L = []
def cPolys : NewC := fun args ros K => (∃ (nl : Bool) (cap : Nat) (ty : TypeId) (fam : List Ent) (n : Nat) (L : List LN) (hl : SliOk nl n cap), args = [.c (.sli nl 0 0 n cap hl)] ∧ ros = [⟨.t ty, true, lnsC L, 0⟩, ⟨.x fam, true, [], 3⟩] ∧ n ≤ L.length ∧ (∀ p ∈ L, p.In fam) ∧
    ∀ (o : OY) (fam2 : List Ent), PoI n (min n 30) fam2 o → K (o.sl 2) [o.blk, ⟨.x fam2, true, [], 2⟩]) ∨
  ∃ (a : Option Addr) (c : Nat) (fam : List Ent), args = [.c (.val (.slice a 0 c))] ∧ ros = [⟨.x fam, true, [], 3⟩] ∧ ∀ (o : OY) (fam2 : List Ent), PoI 0 0 fam2 o → K (o.sl 1) [o.blk, ⟨.x fam2, true, [], 2⟩]
theorem eff_len_val {T : TypeId → Option TI} {op : Op} {ev : Operand → SV} {hp : Nat → Option Blk} {c : Call} {x : Operand} {t : TypeId} (ho : op = .call c) (hc : c.callee = .builtin .len) (ha : c.args.toList = [x]) (ht : c.argTypes.toList = [t]) {sz : Nat} {ag : Bool} {z : List C} {e : TypeId} {esz : Nat} {ez : List C} {eq : Option (List K)} (hT : T t = some ⟨sz, ag, z, .slice e esz ez, eq⟩)
    {a : Option Addr} {n cap : Nat} (hx : ev x = .c (.val (.slice a n cap))) (hi : IR n) : eff T op ev hp = some (.val (.c (.int n hi))) := by
  subst ho
  simp only [eff, hc, ha, ht, hT, hx]
  exact dif_pos hi
theorem ir_8 {k : Nat} (h : k ≤ 8) : IR k := by unfold IR; omega
theorem in_famL {hp : List Blk} {fb : Nat} {fam : List Ent} {b : Blk} {o : Bool} {p : LN} (h : p.In fam) (h1 : nthO hp fb = some b) (h2 : b.famOf = some (o, fam)) : intsC p.full = [] ∨ famHas hp fb (p.r, p.o) (intsC p.full) := h.imp id fun h => ⟨_, _, _, h1, h2, h⟩
def pB (k : Nat) (q : OP) : Blk := ⟨31, false, [.sli q.nl 5 0 q.l.length q.cap q.ok, .int (IntKind.i64.wrap ((k : Int) + 1)) (IR.wrap _)], 0⟩
def gridP (z : Int) : PT := ⟨andZ (andZ z 63) 3, andZ ((andZ z 63).fdiv (2 ^ 2)) 3, (andZ z 63).fdiv (2 ^ 4), IR.wrap _, IR.wrap _, (IR.wrap _).fdiv _⟩
theorem andZ_le (a : Int) (b : Nat) (hb : b ≤ 63) : 0 ≤ andZ a b ∧ andZ a b ≤ b := by
  have h : (BitVec.ofInt 64 a &&& BitVec.ofInt 64 (b : Int)).toNat ≤ b := by
    rw [BitVec.toNat_and]
    refine Nat.le_trans Nat.and_le_right ?_
    rw [BitVec.toNat_ofInt]
    omega
  unfold andZ
  rw [wrap_id (by unfold IR; omega)]
  omega
theorem grid_sm (z : Int) : Sm3 (gridP z) := by
  have h1 := andZ_le z 63 (by decide)
  have h2 := andZ_le (andZ z 63) 3 (by decide)
  have h3 := andZ_le ((andZ z 63).fdiv (2 ^ 2)) 3 (by decide)
  refine ⟨h2, h3, ?_⟩
  show 0 ≤ (andZ z 63).fdiv (2 ^ 4) ∧ (andZ z 63).fdiv (2 ^ 4) ≤ 3
  rw [Int.fdiv_eq_ediv_of_nonneg _ (by decide)]
  have h4 : andZ z 63 ≤ 63 := h1.2
  have h5 : 0 ≤ andZ z 63 := h1.1
  omega
theorem push_pB (q : OP) (m : List PT) (c2 : Nat) (k2 : SliOk (q.nl && decide (m.length = 0)) (q.l.length + m.length) c2) {x : Int} {hx : IR x} (ρ : Rho) : cellsL ρ [.sli (q.nl && decide (m.length = 0)) 5 0 (q.l.length + m.length) c2 k2, .int x hx] = cellsL ρ [.sli (q.push m rfl c2 k2).nl 5 0 (q.push m rfl c2 k2).l.length (q.push m rfl c2 k2).cap (q.push m rfl c2 k2).ok, .int x hx] := by
  simp [cellsL, C.cells, OP.push]
theorem PoI.next0 {n : Nat} {k : Nat} {fam : List Ent} {o : OY} (h : PoI n k fam o) (hlt : k < n) (h30 : k < 30) {x : Int} {hx : IR x} {c2 : Nat} (k2 : SliOk (o.nl && decide (1 = 0)) (o.l.length + 1) c2) : PoI n (k + 1) fam (o.push [⟨true, 0, 0, 0, 0, by unfold SliOk; decide, [], Nat.le_refl _, x, hx⟩] rfl c2 k2) := by
  refine ⟨hlt, h30, ?_, fun p hp => ?_, fun p hp => ?_⟩
  · show (o.l ++ [_]).length = _; rw [List.length_append, h.len]; rfl
  · rcases List.mem_append.1 (show p ∈ o.l ++ [_] from hp) with hp | hp
    · exact h.ps p hp
    · obtain rfl := List.mem_singleton.1 hp
      exact ⟨Nat.zero_le _, .inl rfl⟩
  · rcases List.mem_append.1 (show p ∈ o.l ++ [_] from hp) with hp | hp
    · exact h.sm p hp
    · obtain rfl := List.mem_singleton.1 hp
      exact fun c hc => (by cases hc)
theorem PoI.next {n : Nat} {ety : TypeId} {etl : Nat} {k : Nat} {fam : List Ent} {o : OY} (h : PoI n k fam o) (hlt : k < n) (h30 : k < 30) (r : Nat) {ql : List PT} (hq : ql.length ≤ 8 ∧ ∀ c ∈ ql, Sm3 c) {qc : Nat} {qok : SliOk false ql.length qc} {x : Int} {hx : IR x} {c2 : Nat} (k2 : SliOk (o.nl && decide (1 = 0)) (o.l.length + 1) c2) : PoI n (k + 1) (fam ++ [⟨(r, 0), ptsC ql, ety, etl⟩]) (o.push [⟨false, r, 0, ql.length, qc, qok, ql, Nat.le_refl _, x, hx⟩] rfl c2 k2) := by
  refine ⟨hlt, h30, ?_, fun p hp => ?_, fun p hp => ?_⟩
  rotate_left 2
  · rcases List.mem_append.1 (show p ∈ o.l ++ [_] from hp) with hp | hp
    · exact h.sm p hp
    · obtain rfl := List.mem_singleton.1 hp
      exact fun c hc => hq.2 c (List.mem_of_mem_take hc)
  · show (o.l ++ [_]).length = _; rw [List.length_append, h.len]; rfl
  · rcases List.mem_append.1 (show p ∈ o.l ++ [_] from hp) with hp | hp
    · exact ⟨(h.ps p hp).1, (h.ps p hp).2.imp id InF.left⟩
    · obtain rfl := List.mem_singleton.1 hp
      exact ⟨hq.1, .inr InF.last⟩
set_option maxHeartbeats 16000000 in
theorem csPolys : CSpX Tryd.prog 13 cPolys := csp_ofX envP_ok mixed hN_ok ⟨Tryd.func13, by kernel_rfl, by kernel_rfl⟩ fun args ros K hc => by
  obtain ⟨nl, cap, ty, fam, n, L, hl, rfl, rfl, hnL, hin, hc⟩ | ⟨a, c, fam, rfl, rfl, hc⟩ := hc
  · refine ⟨fun ρ ρ' e => ?_, ?_⟩
    · have := e 0 (Nat.zero_lt_succ _)
      simp only [List.map, SV.den, C.den, C.cells, this]
    conv => whnf
    refine loop_st (G := {g : Nat × List Ent × OY // PoI n g.1 g.2.1 g.2.2} × (Nat → Value)) (fun g => (.c (.sli nl 0 0 n cap hl) :: .c (.val (g.2 1)) :: .c (.val (g.2 2)) :: g.1.1.2.2.sl 3 :: .c (.int (g.1.1.1 : Nat) (ir_12 g.1.2.k2)) :: .c (.val (g.2 5)) :: .c (.val (g.2 6)) :: .c (.val (g.2 7)) :: .c (.val (g.2 8)) :: .c (.val (g.2 9)) :: .c (.val (g.2 10)) :: .c (.val (g.2 11)) :: .c (.val (g.2 12)) :: .c (.val (g.2 13)) :: .c (.val (g.2 14)) :: .c (.val (g.2 15)) :: .c (.val (g.2 16)) :: .c (.val (g.2 17)) :: .c (.val (g.2 18)) :: .c (.val (g.2 19)) :: .c (.val (g.2 20)) :: .c (.val (g.2 21)) :: .c (.val (g.2 22)) :: .c (.val (g.2 23)) :: .c (.val (g.2 24)) :: .c (.val (g.2 25)) :: .c (.val (g.2 26)) :: .c (.val (g.2 27)) :: .c (.val (g.2 28)) :: .c (.val (g.2 29)) :: .c (.val (g.2 30)) :: .c (.val (g.2 31)) :: .c (.val (g.2 32)) :: .c (.val (g.2 33)) :: .c (.val (g.2 34)) :: .c (.val (g.2 35)) :: .c (.val (g.2 36)) :: .c (.val (g.2 37)) :: .c (.val (g.2 38)) :: .c (.val (g.2 39)) :: .c (.val (g.2 40)) :: .c (.val (g.2 41)) :: .c (.val (g.2 42)) :: .c (.val (g.2 43)) :: .c (.val (g.2 44)) :: .c (.val (g.2 45)) :: .c (.val (g.2 46)) :: .c (.val (g.2 47)) :: .c (.val (g.2 48)) :: .c (.val (g.2 49)) :: .c (.val (g.2 50)) :: .c (.val (g.2 51)) :: .c (.val (g.2 52)) :: .c (.val (g.2 53)) :: .c (.val (g.2 54)) :: .c (.val (g.2 55)) :: .c (.val (g.2 56)) :: .c (.val (g.2 57)) :: .c (.val (g.2 58)) :: .c (.val (g.2 59)) :: [])) (fun g => [⟨.t ty, true, lnsC L, 0⟩, ⟨.x fam, true, [], 3⟩, ⟨.x g.1.1.2.1, true, [], 2⟩, g.1.1.2.2.blk]) (fun g => 30 - g.1.1.1) ?_ ?_
    · refine ⟨[0, 1, 1000000, 1000 + 31], [0, 3, 4], [0], fun vs => ?_⟩
      conv => whnf
      refine ⟨lnsC_pure L, ?_⟩
      conv => whnf
      refine ⟨_, _, ?_, ?_, (⟨(0, [], OY.none), PoI.zero n⟩, vs), rfl, rfl⟩
      · exact ⟨fun _ => rfl, fun _ => rfl, fun _ => rfl, fun _ => rfl, fun _ => rfl, stm _⟩
      · exact ⟨⟨rfl, rfl, rfl, fun _ => rfl⟩, ⟨rfl, rfl, rfl, fun _ => rfl⟩, ⟨rfl, rfl, rfl, fun _ => rfl⟩, ⟨rfl, rfl, rfl, fun _ => rfl⟩, trivial⟩
    · rintro ⟨⟨⟨k, fam2, o⟩, hI⟩, vs⟩
      have hI : PoI n k fam2 o := hI
      dsimp only
      conv => whnf
      refine bcase_intro (fun hlt => ?_) (fun hlt => ?_)
      · have hlt : k < n := n_lt hlt
        conv => whnf
        refine bcase_intro (fun h30 => ?_) (fun h30 => ?_)
        · have h30 : ((k : Nat) : Int) < 30 := of_decide_eq_true h30
          have h30 : k < 30 := by omega
          conv => whnf
          have hlF : k < L.length := Nat.lt_of_lt_of_le hlt hnL
          obtain ⟨p, hp⟩ : ∃ p, p = L[k] := ⟨_, rfl⟩
          have hpm := hin p (hp ▸ List.getElem_mem hlF)
          have pa : subC (lnsC L) (0 + k * 1) 1 = some [.val p.val] := by subst hp; exact subC_ln L hlF
          by_cases hp0 : p.len = 0
          · conv => whnf
            refine .inl ⟨1, ?_⟩
            conv => whnf
            conv =>
              arg 2
              tactic' =>
                apply eff_index_sli (k := k) (hi := ir_12 hI.k2) (ho := ?how27) (hT := ?hTw27) (hx := ?hxw27) (hk := ?hkw27) (hlt := ?hltw27)
                case how27 => rfl
                case hTw27 => rfl
                case hxw27 => rfl
                case hkw27 => rfl
                case hltw27 => exact hlt
            conv => whnf
            conv =>
              arg 2
              tactic' =>
                apply eff_load_sub (ho := ?how28) (hT := ?hTw28) (hx := ?hxw28) (hb := ?hbw28) (hm := ?hmw28) (hv := ?hvw28)
                case how28 => rfl
                case hTw28 => rfl
                case hxw28 => rfl
                case hbw28 => rfl
                case hmw28 => exact pa
                case hvw28 => rfl
            conv => whnf
            conv =>
              arg 2
              tactic' =>
                apply eff_len_val (hi := p.ok.ir) (ho := ?how26) (hc := ?hcw26) (ha := ?haw26) (ht := ?htw26) (hT := ?hTw26) (hx := ?hxw26)
                case how26 => rfl
                case hcw26 => rfl
                case haw26 => rfl
                case htw26 => rfl
                case hTw26 => rfl
                case hxw26 => rfl
            conv => whnf
            refine bcase_intro (fun h => absurd (of_decide_eq_true h) (by rw [hp0]; decide)) (fun _ => ?_)
            conv => whnf
            refine .inl ?_
            conv => whnf
            refine .inl ?_
            conv => whnf
            refine .inl ?_
            conv => whnf
            refine ⟨rfl, ?_⟩
            conv => whnf
            refine ⟨OY.app o (m := 1) (by rw [hI.len]; omega), fun c2 k2 => ?_⟩
            conv => whnf
            refine ⟨[0, 1, 2, 6], [0, 3, 4], [0, 3], fun vs3 => ?_⟩
            conv => whnf
            refine ⟨lnsC_pure L, pureL_append (pysC_pure _) (fun _ _ => rfl), ?_⟩
            conv => whnf
            refine ⟨_, _, ?_, ?_, (⟨(k + 1, fam2, o.push [⟨true, 0, 0, 0, 0, by unfold SliOk; decide, [], Nat.le_refl _, IntKind.i64.wrap ((k : Int) + 1), IR.wrap _⟩] rfl c2 k2), hI.next0 hlt h30 k2⟩, vs3), (by omega : 30 - (k + 1) < 30 - k), rfl, rfl⟩
            · exact ⟨fun _ => rfl, fun _ => rfl, fun _ => rfl, fun ρ => o.push_sl (n := 1) [⟨true, 0, 0, 0, 0, by unfold SliOk; decide, [], Nat.le_refl _, IntKind.i64.wrap ((k : Int) + 1), IR.wrap _⟩] rfl c2 k2 3 ρ, fun ρ => sint_e (wrap_add1 h30 (by decide)) ρ, stm _⟩
            · exact ⟨⟨rfl, rfl, rfl, fun _ => rfl⟩, ⟨rfl, rfl, rfl, fun _ => rfl⟩, ⟨rfl, rfl, rfl, fun _ => rfl⟩, o.push_blk (n := 1) [⟨true, 0, 0, 0, 0, by unfold SliOk; decide, [], Nat.le_refl _, IntKind.i64.wrap ((k : Int) + 1), IR.wrap _⟩] rfl c2 k2 (fun _ => rfl), trivial⟩
          · conv => whnf
            refine loop_st (G := {g : Nat × OP // g.1 ≤ p.len ∧ g.1 ≤ 8 ∧ g.2.l.length = g.1 ∧ ∀ c ∈ g.2.l, Sm3 c} × (Nat → Value)) (fun g => (.c (.sli nl 0 0 n cap hl) :: .c (.val (g.2 1)) :: .c (.val (g.2 2)) :: o.sl 3 :: .c (.int (k : Nat) (ir_12 hI.k2)) :: .c (.ptr 4 0) :: .c (.int (g.1.1.1 : Nat) (ir_8 g.1.2.2.1)) :: .c (.val (g.2 7)) :: .c (.val (g.2 8)) :: .c (.val (g.2 9)) :: .c (.val (g.2 10)) :: .c (.val (g.2 11)) :: .c (.val (g.2 12)) :: .c (.val (g.2 13)) :: .c (.val (g.2 14)) :: .c (.val (g.2 15)) :: .c (.val (g.2 16)) :: .c (.val (g.2 17)) :: .c (.val (g.2 18)) :: .c (.val (g.2 19)) :: .c (.val (g.2 20)) :: .c (.val (g.2 21)) :: .c (.val (g.2 22)) :: .c (.val (g.2 23)) :: .c (.val (g.2 24)) :: .c (.val (g.2 25)) :: .c (.val (g.2 26)) :: .c (.val (g.2 27)) :: .c (.val (g.2 28)) :: .c (.val (g.2 29)) :: .c (.val (g.2 30)) :: .c (.val (g.2 31)) :: .c (.val (g.2 32)) :: .c (.val (g.2 33)) :: .c (.val (g.2 34)) :: .c (.val (g.2 35)) :: .c (.val (g.2 36)) :: .c (.val (g.2 37)) :: .c (.val (g.2 38)) :: .c (.val (g.2 39)) :: .c (.val (g.2 40)) :: .c (.val (g.2 41)) :: .c (.val (g.2 42)) :: .c (.val (g.2 43)) :: .c (.val (g.2 44)) :: .c (.val (g.2 45)) :: .c (.val (g.2 46)) :: .c (.val (g.2 47)) :: .c (.val (g.2 48)) :: .c (.val (g.2 49)) :: .c (.val (g.2 50)) :: .c (.val (g.2 51)) :: .c (.val (g.2 52)) :: .c (.val (g.2 53)) :: .c (.val (g.2 54)) :: .c (.val (g.2 55)) :: .c (.val (g.2 56)) :: .c (.val (g.2 57)) :: .c (.val (g.2 58)) :: .c (.val (g.2 59)) :: [])) (fun g => [⟨.t ty, true, lnsC L, 0⟩, ⟨.x fam, true, [], 3⟩, ⟨.x fam2, true, [], 2⟩, o.blk, pB k g.1.1.2, g.1.1.2.blk]) (fun g => 8 - g.1.1.1) ?_ ?_
            · refine ⟨[0, 1, 2, 3, 4, 1000 + 34], [0, 3, 4, 5, 6], [0, 3], fun vs2 => ?_⟩
              conv => whnf
              refine ⟨lnsC_pure L, o.new.1.pure, ?_⟩
              conv => whnf
              refine ⟨_, _, ?_, ?_, (⟨(0, OP.none), Nat.zero_le _, Nat.zero_le _, rfl, fun c hc => (by cases hc)⟩, vs2), rfl, rfl⟩
              · exact ⟨fun _ => rfl, fun _ => rfl, fun _ => rfl, fun _ => rfl, fun _ => rfl, fun _ => rfl, fun _ => rfl, stm _⟩
              · exact ⟨⟨rfl, rfl, rfl, fun _ => rfl⟩, ⟨rfl, rfl, rfl, fun _ => rfl⟩, ⟨rfl, rfl, rfl, fun _ => rfl⟩, ⟨rfl, rfl, rfl, fun _ => rfl⟩, ⟨rfl, rfl, rfl, fun _ => rfl⟩, ⟨rfl, rfl, rfl, fun _ => rfl⟩, trivial⟩
            · rintro ⟨⟨⟨j, q⟩, hj1, hj8, hq, hqs⟩, vs2⟩
              have hj1 : j ≤ p.len := hj1
              have hj8 : j ≤ 8 := hj8
              have hq : q.l.length = j := hq
              have hqs : ∀ c ∈ q.l, Sm3 c := hqs
              dsimp only
              conv => whnf
              conv =>
                arg 2
                tactic' =>
                  apply eff_index_sli (k := k) (hi := ir_12 hI.k2) (ho := ?how33) (hT := ?hTw33) (hx := ?hxw33) (hk := ?hkw33) (hlt := ?hltw33)
                  case how33 => rfl
                  case hTw33 => rfl
                  case hxw33 => rfl
                  case hkw33 => rfl
                  case hltw33 => exact hlt
              conv => whnf
              conv =>
                arg 2
                tactic' =>
                  apply eff_load_sub (ho := ?how34) (hT := ?hTw34) (hx := ?hxw34) (hb := ?hbw34) (hm := ?hmw34) (hv := ?hvw34)
                  case how34 => rfl
                  case hTw34 => rfl
                  case hxw34 => rfl
                  case hbw34 => rfl
                  case hmw34 => exact pa
                  case hvw34 => rfl
              conv => whnf
              conv =>
                arg 2
                tactic' =>
                  apply eff_len_val (hi := p.ok.ir) (ho := ?how26) (hc := ?hcw26) (ha := ?haw26) (ht := ?htw26) (hT := ?hTw26) (hx := ?hxw26)
                  case how26 => rfl
                  case hcw26 => rfl
                  case haw26 => rfl
                  case htw26 => rfl
                  case hTw26 => rfl
                  case hxw26 => rfl
              conv => whnf
              refine bcase_intro (fun hjl => ?_) (fun hjl => ?_)
              · have hjl : j < p.len := n_lt hjl
                conv => whnf
                refine bcase_intro (fun h8 => ?_) (fun h8 => ?_)
                · have h8 : ((j : Nat) : Int) < 8 := of_decide_eq_true h8
                  have h8 : j < 8 := by omega
                  conv => whnf
                  conv =>
                    arg 2
                    tactic' =>
                      apply eff_index_sli (k := k) (hi := ir_12 hI.k2) (ho := ?how29) (hT := ?hTw29) (hx := ?hxw29) (hk := ?hkw29) (hlt := ?hltw29)
                      case how29 => rfl
                      case hTw29 => rfl
                      case hxw29 => rfl
                      case hkw29 => rfl
                      case hltw29 => exact hlt
                  conv => whnf
                  conv =>
                    arg 2
                    tactic' =>
                      apply eff_load_sub (ho := ?how30) (hT := ?hTw30) (hx := ?hxw30) (hb := ?hbw30) (hm := ?hmw30) (hv := ?hvw30)
                      case how30 => rfl
                      case hTw30 => rfl
                      case hxw30 => rfl
                      case hbw30 => rfl
                      case hmw30 => exact pa
                      case hvw30 => rfl
                  conv => whnf
                  refine .inr ⟨37, ?_⟩
                  conv => whnf
                  refine ⟨p.nl, p.r, p.o, p.len, p.cap, p.ok, 3, intsC p.full, 1, p.val_eq (by omega), in_famL hpm rfl rfl, ?_⟩
                  conv => whnf
                  conv =>
                    arg 2
                    tactic' =>
                      apply eff_index_sli (k := j) (hi := ir_8 hj8) (ho := ?how31) (hT := ?hTw31) (hx := ?hxw31) (hk := ?hkw31) (hlt := ?hltw31)
                      case how31 => rfl
                      case hTw31 => rfl
                      case hxw31 => rfl
                      case hkw31 => rfl
                      case hltw31 => exact hjl
                  conv => whnf
                  conv =>
                    arg 2
                    tactic' =>
                      apply eff_load_sub (ho := ?how32) (hT := ?hTw32) (hx := ?hxw32) (hb := ?hbw32) (hm := ?hmw32) (hv := ?hvw32)
                      case how32 => rfl
                      case hTw32 => rfl
                      case hxw32 => rfl
                      case hbw32 => rfl
                      case hmw32 => exact subC_int p.full (Nat.lt_of_lt_of_le hjl p.hl)
                      case hvw32 => rfl
                  conv => whnf
                  refine .inl ?_
                  conv => whnf
                  refine .inl ?_
                  conv => whnf
                  refine .inl ?_
                  conv => whnf
                  refine ⟨rfl, ?_⟩
                  conv => whnf
                  refine ⟨OP.app q (m := 1) (by rw [hq]; omega), fun c2 k2 => ?_⟩
                  conv => whnf
                  refine ⟨[0, 1, 2, 3, 4, 8], [0, 3, 4, 5, 6], [0, 3, 5], fun vs3 => ?_⟩
                  conv => whnf
                  refine ⟨lnsC_pure L, o.new.1.pure, pureL_append (ptsC_pure _) (fun _ _ => rfl), ?_⟩
                  conv => whnf
                  refine ⟨_, _, ?_, ?_, (⟨(j + 1, q.push [gridP (p.full[j]'(Nat.lt_of_lt_of_le hjl p.hl)).x] rfl c2 k2), hjl, h8, by show (q.l ++ [_]).length = _; rw [List.length_append, hq]; rfl, fun c hc => (List.mem_append.1 (show c ∈ q.l ++ [_] from hc)).elim (hqs c) fun hc => by rw [List.mem_singleton.1 hc]; exact grid_sm _⟩, vs3), (by omega : 8 - (j + 1) < 8 - j), rfl, rfl⟩
                  · exact ⟨fun _ => rfl, fun _ => rfl, fun _ => rfl, fun _ => rfl, fun _ => rfl, fun _ => rfl, fun ρ => sint_e (wrap_add1 h8 (by decide)) ρ, stm _⟩
                  · exact ⟨⟨rfl, rfl, rfl, fun _ => rfl⟩, ⟨rfl, rfl, rfl, fun _ => rfl⟩, ⟨rfl, rfl, rfl, fun _ => rfl⟩, ⟨rfl, rfl, rfl, fun _ => rfl⟩, ⟨rfl, rfl, rfl, fun ρ => push_pB q [gridP (p.full[j]'(Nat.lt_of_lt_of_le hjl p.hl)).x] c2 k2 ρ⟩, q.push_blk (n := 1) [gridP (p.full[j]'(Nat.lt_of_lt_of_le hjl p.hl)).x] rfl c2 k2 (fun _ => rfl), trivial⟩
                · have h8 : ¬ ((j : Nat) : Int) < 8 := of_decide_eq_false h8
                  conv => whnf
                  obtain ⟨ql, qn, qc, qok⟩ := q
                  have hql : ql.length = j := hq
                  have hj0 : 1 ≤ j := by omega
                  obtain rfl : qn = false := by
                    cases qn with
                    | false => rfl
                    | true => exact absurd (qok.2.2 rfl) (by have h1 : ql.length ≤ qc := qok.1; omega)
                  conv => whnf
                  refine .inl ?_
                  conv => whnf
                  refine .inr ⟨2, 5, 6, ?_⟩
                  conv => whnf
                  refine ⟨⟨ptsC_pure _, rfl, rfl⟩, fun r => ?_⟩
                  conv => whnf
                  refine .inl ?_
                  conv => whnf
                  refine ⟨rfl, ?_⟩
                  conv => whnf
                  refine ⟨OY.app o (m := 1) (by rw [hI.len]; omega), fun c2 k2 => ?_⟩
                  conv => whnf
                  have hq : ql.length ≤ 8 ∧ ∀ c ∈ ql, Sm3 c := ⟨by omega, hqs⟩
                  refine ⟨[0, 1, 2, 7], [0, 3, 4], [0, 3], fun vs3 => ?_⟩
                  conv => whnf
                  refine ⟨lnsC_pure L, pureL_append (pysC_pure _) (fun _ _ => rfl), ?_⟩
                  conv => whnf
                  refine ⟨_, _, ?_, ?_, (⟨(k + 1, _, o.push [⟨false, r, 0, ql.length, qc, qok, ql, Nat.le_refl _, IntKind.i64.wrap ((k : Int) + 1), IR.wrap _⟩] rfl c2 k2), hI.next (ety := 34) (etl := (qc - ql.length) * 3) hlt h30 r hq k2⟩, vs3), (by omega : 30 - (k + 1) < 30 - k), rfl, rfl⟩
                  · exact ⟨fun _ => rfl, fun _ => rfl, fun _ => rfl, fun ρ => o.push_sl (n := 1) [⟨false, r, 0, ql.length, qc, qok, ql, Nat.le_refl _, IntKind.i64.wrap ((k : Int) + 1), IR.wrap _⟩] rfl c2 k2 3 ρ, fun ρ => sint_e (wrap_add1 h30 (by decide)) ρ, stm _⟩
                  · exact ⟨⟨rfl, rfl, rfl, fun _ => rfl⟩, ⟨rfl, rfl, rfl, fun _ => rfl⟩, ⟨rfl, rfl, rfl, fun _ => rfl⟩, o.push_blk (n := 1) [⟨false, r, 0, ql.length, qc, qok, ql, Nat.le_refl _, IntKind.i64.wrap ((k : Int) + 1), IR.wrap _⟩] rfl c2 k2 (fun _ => rfl), trivial⟩
              · have hjl : p.len ≤ j := n_ge hjl
                conv => whnf
                obtain ⟨ql, qn, qc, qok⟩ := q
                have hql : ql.length = j := hq
                have hj0 : 1 ≤ j := by omega
                obtain rfl : qn = false := by
                  cases qn with
                  | false => rfl
                  | true => exact absurd (qok.2.2 rfl) (by have h1 : ql.length ≤ qc := qok.1; omega)
                conv => whnf
                refine .inl ?_
                conv => whnf
                refine .inr ⟨2, 5, 6, ?_⟩
                conv => whnf
                refine ⟨⟨ptsC_pure _, rfl, rfl⟩, fun r => ?_⟩
                conv => whnf
                refine .inl ?_
                conv => whnf
                refine ⟨rfl, ?_⟩
                conv => whnf
                refine ⟨OY.app o (m := 1) (by rw [hI.len]; omega), fun c2 k2 => ?_⟩
                conv => whnf
                have hq : ql.length ≤ 8 ∧ ∀ c ∈ ql, Sm3 c := ⟨by omega, hqs⟩
                refine ⟨[0, 1, 2, 7], [0, 3, 4], [0, 3], fun vs3 => ?_⟩
                conv => whnf
                refine ⟨lnsC_pure L, pureL_append (pysC_pure _) (fun _ _ => rfl), ?_⟩
                conv => whnf
                refine ⟨_, _, ?_, ?_, (⟨(k + 1, _, o.push [⟨false, r, 0, ql.length, qc, qok, ql, Nat.le_refl _, IntKind.i64.wrap ((k : Int) + 1), IR.wrap _⟩] rfl c2 k2), hI.next (ety := 34) (etl := (qc - ql.length) * 3) hlt h30 r hq k2⟩, vs3), (by omega : 30 - (k + 1) < 30 - k), rfl, rfl⟩
                · exact ⟨fun _ => rfl, fun _ => rfl, fun _ => rfl, fun ρ => o.push_sl (n := 1) [⟨false, r, 0, ql.length, qc, qok, ql, Nat.le_refl _, IntKind.i64.wrap ((k : Int) + 1), IR.wrap _⟩] rfl c2 k2 3 ρ, fun ρ => sint_e (wrap_add1 h30 (by decide)) ρ, stm _⟩
                · exact ⟨⟨rfl, rfl, rfl, fun _ => rfl⟩, ⟨rfl, rfl, rfl, fun _ => rfl⟩, ⟨rfl, rfl, rfl, fun _ => rfl⟩, o.push_blk (n := 1) [⟨false, r, 0, ql.length, qc, qok, ql, Nat.le_refl _, IntKind.i64.wrap ((k : Int) + 1), IR.wrap _⟩] rfl c2 k2 (fun _ => rfl), trivial⟩
        · have h30 : ¬ ((k : Nat) : Int) < 30 := of_decide_eq_false h30
          obtain rfl : k = 30 := by have := hI.k2; omega
          conv => whnf
          refine ⟨[0, 1, 3, 2], [0, 2], fun vs2 => ?_⟩
          conv => whnf
          refine ⟨lnsC_pure L, o.new.1.pure, ?_⟩
          conv => whnf
          exact ⟨_, [o.blk, ⟨.x fam2, true, [], 2⟩], rfl, ⟨⟨rfl, rfl, rfl, fun _ => rfl⟩, ⟨rfl, rfl, rfl, fun _ => rfl⟩, ⟨rfl, rfl, rfl, fun _ => rfl⟩, ⟨rfl, rfl, rfl, fun _ => rfl⟩, trivial⟩, ⟨o.new, ⟨⟨rfl, fun _ _ => rfl⟩, .inr rfl⟩, trivial⟩, o.sl 2, fun _ => rfl, hc o fam2 (by rw [Nat.min_eq_right (by omega)]; exact hI)⟩
      · have hlt : n ≤ k := n_ge hlt
        obtain rfl : k = n := Nat.le_antisymm hI.k1 hlt
        conv => whnf
        refine ⟨[0, 1, 3, 2], [0, 2], fun vs2 => ?_⟩
        conv => whnf
        refine ⟨lnsC_pure L, o.new.1.pure, ?_⟩
        conv => whnf
        exact ⟨_, [o.blk, ⟨.x fam2, true, [], 2⟩], rfl, ⟨⟨rfl, rfl, rfl, fun _ => rfl⟩, ⟨rfl, rfl, rfl, fun _ => rfl⟩, ⟨rfl, rfl, rfl, fun _ => rfl⟩, ⟨rfl, rfl, rfl, fun _ => rfl⟩, trivial⟩, ⟨o.new, ⟨⟨rfl, fun _ _ => rfl⟩, .inr rfl⟩, trivial⟩, o.sl 2, fun _ => rfl, hc o fam2 (by rw [Nat.min_eq_left hI.k2]; exact hI)⟩
  · refine ⟨fun ρ ρ' e => rfl, ?_⟩
    conv => whnf
    refine .inl ⟨1, ?_⟩
    conv => whnf
    refine ⟨[0, 1000 + 31, 1000000], [], fun vs2 => ?_⟩
    conv => whnf
    exact ⟨_, [OY.none.blk, ⟨.x [], true, [], 2⟩], rfl, ⟨⟨rfl, rfl, rfl, fun _ => rfl⟩, ⟨rfl, rfl, rfl, fun _ => rfl⟩, ⟨rfl, rfl, rfl, fun _ => rfl⟩, trivial⟩, ⟨OY.none.new, ⟨⟨rfl, fun _ _ => rfl⟩, .inr rfl⟩, trivial⟩, OY.none.sl 1, fun _ => rfl, hc OY.none [] (PoI.zero 0)⟩
end Go.Proofs.YtdjpbccaglkafaaDoor
