/- Hills: a list of triangles from a list of numbers, by the reckoner. -/
import Derived.Test.YtapppahniablmaaDoorTris
namespace Go.Proofs.YtapppahniablmaaDoor
open Go.RowKit
set_option maxRecDepth 100000

structure ZI where
  x : Int
  hx : IR x
def intsC : List ZI → List C
  | [] => []
  | z :: l => .int z.x z.hx :: intsC l
theorem intsC_pure : ∀ l : List ZI, PureL (intsC l)
  | [] => fun _ _ => rfl
  | z :: l => fun ρ ρ' => by
    have h := intsC_pure l ρ ρ'
    rw [intsC, List.flatMap_cons, List.flatMap_cons, h]; rfl
theorem intsC_size : ∀ l : List ZI, sizeC (intsC l) = l.length
  | [] => rfl
  | z :: l => by rw [intsC, List.length_cons, ← intsC_size l]; show 1 + _ = _; omega
theorem intsC_append : ∀ a b : List ZI, intsC (a ++ b) = intsC a ++ intsC b
  | [], _ => rfl
  | z :: l, b => by rw [List.cons_append, intsC, intsC_append l b]; rfl
theorem subC_ints (l : List ZI) {k : Nat} (hk : k < l.length) : subC (intsC l) (0 + k * 1) 1 = some [.int l[k].x l[k].hx] := by
  have e : intsC l = intsC (l.take k) ++ ([.int l[k].x l[k].hx] ++ intsC (l.drop (k + 1))) := by
    have h : l = l.take k ++ (l[k] :: l.drop (k + 1)) := by rw [← List.drop_eq_getElem_cons hk, List.take_append_drop]
    rw [show intsC l = intsC (l.take k ++ (l[k] :: l.drop (k + 1))) by rw [← h], intsC_append]
    rfl
  have s : sizeC (intsC (l.take k)) = 0 + k * 1 := by rw [intsC_size]; simp; omega
  rw [e, ← s]
  exact subC_app _ [.int l[k].x l[k].hx] _
theorem cint {a b : Int} {ha : IR a} (e : a = b) (hb : IR b) : SV.c (.int a ha) = SV.c (.int b hb) := by subst e; rfl
theorem eff_rem {T : TypeId → Option TI} {op : Op} {ev : Operand → SV} {hp : Nat → Option Blk} {t yt : TypeId} {x y : Operand} (ho : op = .binOp .rem t x y yt) {a : Int} {ha : IR a} (hx : ev x = .c (.int a ha)) {b : Int} {hb : IR b} (hy : ev y = .c (.int b hb)) {c : Int} (hb0 : b ≠ 0) (hc : a.tmod b = c) (hi : IR c) :
    eff T op ev hp = some (.val (.c (.int c hi))) := by
  subst ho hc
  simp only [eff, hx, hy, binS]
  rw [if_neg hb0]
theorem eff_min {T : TypeId → Option TI} {op : Op} {ev : Operand → SV} {hp : Nat → Option Blk} {x y : Operand} {c : Call} (ho : op = .call c) (hc : c.callee = .builtin .min) (hcx : c.args.toList = [x, y]) {a : Int} {ha : IR a} (hx : ev x = .c (.int a ha)) {b : Int} {hb : IR b} (hy : ev y = .c (.int b hb)) {d : Int} (hd : minI a b = d) (hi : IR d) :
    eff T op ev hp = some (.val (.c (.int d hi))) := by
  subst ho hd
  simp only [eff, hc, hcx, hx, hy]
theorem eff_slice_hi {T : TypeId → Option TI} {op : Op} {ev : Operand → SV} {hp : Nat → Option Blk} {t : TypeId} {x y : Operand} (ho : op = .slice t x none (some y) none) {sz : Nat} {ag : Bool} {z : List C} {e : TypeId} {esz : Nat} {ez : List C} {eq : Option (List K)} (hT : T t = some ⟨sz, ag, z, .slice e esz ez, eq⟩)
    {nl : Bool} {b off len cap : Nat} {hl : SliOk nl len cap} (hx : ev x = .c (.sli nl b off len cap hl)) {k : Nat} {hi : IR k} (hk : ev y = .c (.int k hi)) (hlt : k ≤ cap) (h2 : SliOk nl k cap) : eff T op ev hp = some (.val (.c (.sli nl b off k cap h2))) := by
  subst ho
  simp only [eff, hT, hx, Option.map, bndO, hk]
  show (if hc : _ then _ else _) = _
  rw [dif_pos ⟨⟨Nat.zero_le _, hlt, Nat.le_refl _⟩, rfl⟩]
  rfl
def isN (v : SV) : Prop := ∃ (k : Nat) (h : IR k), k ≤ 8 ∧ v = .c (.int k h)
theorem ir8 {k : Nat} (h : k ≤ 8) : IR k := by unfold IR; omega
theorem isN_mk {k : Nat} {h : IR k} (hk : k ≤ 8) : isN (.c (.int k h)) := ⟨k, h, hk, rfl⟩
theorem isN_succ {k : Nat} {h : IR (IntKind.i64.wrap ((k : Int) + 1))} (hk : k ≤ 7) : isN (.c (.int (IntKind.i64.wrap ((k : Int) + 1)) h)) := ⟨k + 1, ir8 (by omega), by omega, cint (wrap_add1 (show k < 8 by omega) (ir8 (Nat.le_refl 8))) _⟩
/-- the arguments of hill: two small numbers, a step, a list of numbers -/
def okHill (args : List SV) (ros : List Blk) : Prop := ∃ x y s nl len cap h ty L, args = [x, y, s, .c (.sli nl 0 0 len cap h)] ∧ isN x ∧ isN y ∧ isInt s ∧ ros = [⟨ty, true, intsC L, 0⟩] ∧ len ≤ L.length
def cHill : NewC := fun args ros K => okHill args ros ∧ ∀ p : PT, K (.agg (ptC p)) []
def okHills (args : List SV) (ros : List Blk) : Prop := ∃ n s nl len cap h ty L, args = [n, s, .c (.sli nl 0 0 len cap h)] ∧ isInt n ∧ isInt s ∧ ros = [⟨ty, true, intsC L, 0⟩] ∧ len ≤ L.length
def cHills : NewC := fun args ros K => okHills args ros ∧ ∀ o : OT, o.l.length ≤ 72 → K (o.sl 1) [o.blk]
theorem hill_ix {x y : Nat} (hx : x ≤ 8) (hy : y ≤ 8) {n : Nat} : (IntKind.i64.wrap (IntKind.i64.wrap ((y : Int) * 7) + (x : Int))).tmod (n : Int) = (((y * 7 + x) % n : Nat) : Int) := by
  rw [wrap_id (z := (y : Int) * 7) (by unfold IR; omega), wrap_id (by unfold IR; omega), show (y : Int) * 7 + x = ((y * 7 + x : Nat) : Int) by omega]
  rfl
theorem len_pos {nl : Bool} {len cap : Nat} (_ : SliOk nl len cap) (h : decide (0 < (len : Int)) = true) : 0 < len := by have := of_decide_eq_true h; omega
theorem pt_mk {x y z : Int} {hx : IR x} {hy : IR y} {hz : IR z} : SameV (.agg [.int x hx, .int y hy, .int z hz]) (.agg (ptC ⟨x, y, z, hx, hy, hz⟩)) := fun _ => rfl
noncomputable def modF : FuncId → Option Func := lk [(60, Tryd.f60)]
theorem modF_ok : ∀ f fn, modF f = some fn → FnOk Tryd.prog f fn := lkF_ok fun x hx => by
  simp only [List.mem_cons, List.not_mem_nil, or_false] at hx
  subst hx
  · exact ⟨Tryd.func60, by kernel_rfl, by kernel_rfl⟩
set_option maxHeartbeats 4000000 in
theorem csHill : CSp Tryd.prog 61 cHill := csp_of (env_ok base_ok 20) mixed (inl_ok (env_ok base_ok 20) mixed modF_ok 1) ⟨Tryd.func61, by kernel_rfl, by kernel_rfl⟩ fun args ros K hc => by
  obtain ⟨⟨_, _, _, nl, len, cap, hl, ty, L, rfl, ⟨x, hxi, hx, rfl⟩, ⟨y, hyi, hy, rfl⟩, ⟨s, hs, rfl⟩, rfl, hL⟩, hc⟩ := hc
  refine ⟨fun ρ ρ' e => ?_, ?_⟩
  · have := e 0 (Nat.zero_lt_one)
    simp only [List.map, SV.den, C.den, C.cells, this]
  conv => whnf
  refine bcase_intro (fun hpos => ?_) (fun _ => ?_)
  · have hpos : 0 < len := len_pos hl hpos
    have hir : IR (((y * 7 + x) % len : Nat) : Int) := by have := Nat.mod_lt (y * 7 + x) hpos; have := hl.ir; unfold IR at *; omega
    conv => whnf
    rw [eff_rem (hi := hir) (ho := ?hor) (hx := ?hxr) (hy := ?hyr) (hb0 := ?hb0r) (hc := ?hcr)]
    case hor => rfl
    case hxr => rfl
    case hyr => rfl
    case hb0r => omega
    case hcr => exact hill_ix hx hy
    conv => whnf
    rw [eff_index_sli (ho := ?hoi) (hT := ?hTi) (hx := ?hxi) (hk := ?hki) (hlt := ?hlti)]
    case hoi => rfl
    case hTi => rfl
    case hxi => rfl
    case hki => rfl
    case hlti => exact Nat.mod_lt _ hpos
    conv => whnf
    rw [eff_load_sub (ho := ?hol) (hT := ?hTl) (hx := ?hxl) (hb := ?hbl) (hm := ?hml) (hv := ?hvl)]
    case hol => rfl
    case hTl => rfl
    case hxl => rfl
    case hbl => rfl
    case hml => exact subC_ints L (Nat.lt_of_lt_of_le (Nat.mod_lt _ hpos) hL)
    case hvl => rfl
    conv => whnf
    refine ⟨[0], [0], fun vs => ?_⟩
    conv => whnf
    refine ⟨intsC_pure L, ?_⟩
    conv => whnf
    exact ⟨_, [], rfl, ⟨⟨rfl, rfl, rfl, fun _ => rfl⟩, trivial⟩, trivial, _, pt_mk, hc _⟩
  · conv => whnf
    refine ⟨[0], [0], fun vs => ?_⟩
    conv => whnf
    refine ⟨intsC_pure L, ?_⟩
    conv => whnf
    exact ⟨_, [], rfl, ⟨⟨rfl, rfl, rfl, fun _ => rfl⟩, trivial⟩, trivial, _, pt_mk, hc _⟩
def hillsC : List (FuncId × NewC) := (61, cHill) :: shapeC
theorem hillsC_ok : AllC Tryd.prog hillsC := .cons csHill shapeC_ok
theorem n_lt {k M : Nat} (h : decide ((k : Int) < (M : Int)) = true) : k < M := by have := of_decide_eq_true h; omega
theorem n_ge {k M : Nat} (h : decide ((k : Int) < (M : Int)) = false) : M ≤ k := by have := of_decide_eq_false h; omega
theorem hills_mod (n : Int) : ∃ M : Nat, M ≤ 6 ∧ IntKind.i64.wrap (1 + (IntKind.i64.wrap (n.tmod 6 + 6)).tmod 6) = M := by
  have h1 : -6 < n.tmod 6 := Int.lt_tmod_of_pos n (by decide)
  have h2 : n.tmod 6 < 6 := Int.tmod_lt_of_pos n (by decide)
  rw [wrap_id (z := n.tmod 6 + 6) (by unfold IR; omega)]
  have h3 : 0 ≤ (n.tmod 6 + 6).tmod 6 := Int.tmod_nonneg _ (by omega)
  have h4 : (n.tmod 6 + 6).tmod 6 < 6 := Int.tmod_lt_of_pos _ (by decide)
  rw [wrap_id (by unfold IR; omega)]
  exact ⟨(1 + (n.tmod 6 + 6).tmod 6).toNat, by omega, by omega⟩
theorem app2_h {y x n m : Nat} (h : n ≤ y * 12 + 2 * x) (hm : m = 2) (hy : y ≤ 8) (hx : x ≤ 8) : (n + m) * 9 ≤ 5000000000000 := by omega
theorem push_leh {a f : Nat} {o : OT} (h : o.l.length ≤ a + 2 * f) (m : List TR) (h2n : m.length = 2) (cap2 : Nat) (h2 : SliOk (o.nl && decide (m.length = 0)) (o.l.length + m.length) cap2) : (o.push m rfl cap2 h2).l.length ≤ a + 2 * (f + 1) := by
  simp only [OT.push, List.length_append]; omega
set_option maxHeartbeats 40000000 in
theorem csHills : CSp Tryd.prog 46 cHills := csp_of (env_ok base_ok 0) mixed (hnew_ok hillsC_ok (inl_ok (env_ok base_ok 20) mixed modF_ok 1)) ⟨Tryd.func46, by kernel_rfl, by kernel_rfl⟩ fun args ros K hc => by
  obtain ⟨⟨_, _, nl, len, cap, hl, ty, L, rfl, ⟨n, hn, rfl⟩, ⟨s, hs, rfl⟩, rfl, hL⟩, hc⟩ := hc
  obtain ⟨M, hM6, hM⟩ := hills_mod n
  have hM8 : M ≤ 8 := by omega
  refine ⟨fun ρ ρ' e => ?_, ?_⟩
  · have := e 0 (Nat.zero_lt_one)
    simp only [List.map, SV.den, C.den, C.cells, this]
  conv => whnf
  refine loop_st (G := {g : Nat × OT × (Nat → Value) // g.1 ≤ M ∧ g.2.1.l.length ≤ g.1 * 12}) (fun g => [.c (.int (M : Nat) (ir8 hM8)), .c (.int s hs), .c (.sli nl 0 0 len cap hl), .c (.val (g.1.2.2 3)), .c (.val (g.1.2.2 4)), .c (.val (g.1.2.2 5)), .c (.val (g.1.2.2 6)), g.1.2.1.sl 1, .c (.int (g.1.1 : Nat) (ir8 (Nat.le_trans g.2.1 hM8))), .c (.val (g.1.2.2 9)), .c (.val (g.1.2.2 10)), .c (.val (g.1.2.2 11)), .c (.val (g.1.2.2 12)), .c (.val (g.1.2.2 13)), .c (.val (g.1.2.2 14)), .c (.val (g.1.2.2 15)), .c (.val (g.1.2.2 16)), .c (.val (g.1.2.2 17)), .c (.val (g.1.2.2 18)), .c (.val (g.1.2.2 19)), .c (.val (g.1.2.2 20)), .c (.val (g.1.2.2 21)), .c (.val (g.1.2.2 22)), .c (.val (g.1.2.2 23)), .c (.val (g.1.2.2 24)), .c (.val (g.1.2.2 25)), .c (.val (g.1.2.2 26)), .c (.val (g.1.2.2 27)), .c (.val (g.1.2.2 28)), .c (.val (g.1.2.2 29)), .c (.val (g.1.2.2 30)), .c (.val (g.1.2.2 31)), .c (.val (g.1.2.2 32)), .c (.val (g.1.2.2 33)), .c (.val (g.1.2.2 34)), .c (.val (g.1.2.2 35)), .c (.val (g.1.2.2 36)), .c (.val (g.1.2.2 37)), .c (.val (g.1.2.2 38)), .c (.val (g.1.2.2 39)), .c (.val (g.1.2.2 40)), .c (.val (g.1.2.2 41)), .c (.val (g.1.2.2 42)), .c (.val (g.1.2.2 43)), .c (.val (g.1.2.2 44)), .c (.val (g.1.2.2 45)), .c (.val (g.1.2.2 46)), .c (.val (g.1.2.2 47)), .c (.val (g.1.2.2 48)), .c (.val (g.1.2.2 49)), .c (.val (g.1.2.2 50)), .c (.val (g.1.2.2 51)), .c (.val (g.1.2.2 52)), .c (.val (g.1.2.2 53)), .c (.val (g.1.2.2 54)), .c (.val (g.1.2.2 55)), .c (.val (g.1.2.2 56)), .c (.val (g.1.2.2 57)), .c (.val (g.1.2.2 58))]) (fun g => [⟨ty, true, intsC L, 0⟩, g.1.2.1.blk]) (fun g => M - g.1.1) ?_ ?_
  · refine ⟨[0, 1000 + 31], [0, 1, 2, 7, 8], [0], fun vs => ?_⟩
    conv => whnf
    refine ⟨intsC_pure L, ?_⟩
    conv => whnf
    refine ⟨_, _, ?_, ?_, ⟨(0, OT.none, vs), Nat.zero_le _, Nat.zero_le _⟩, rfl, rfl⟩
    · exact ⟨sint_eq hM _ _, fun _ => rfl, fun _ => rfl, fun _ => rfl, fun _ => rfl, fun _ => rfl, fun _ => rfl, fun _ => rfl, fun _ => rfl, fun _ => rfl, fun _ => rfl, fun _ => rfl, fun _ => rfl, fun _ => rfl, fun _ => rfl, fun _ => rfl, fun _ => rfl, fun _ => rfl, fun _ => rfl, fun _ => rfl, fun _ => rfl, fun _ => rfl, fun _ => rfl, fun _ => rfl, fun _ => rfl, fun _ => rfl, fun _ => rfl, fun _ => rfl, fun _ => rfl, fun _ => rfl, fun _ => rfl, fun _ => rfl, fun _ => rfl, fun _ => rfl, fun _ => rfl, fun _ => rfl, fun _ => rfl, fun _ => rfl, fun _ => rfl, fun _ => rfl, fun _ => rfl, fun _ => rfl, fun _ => rfl, fun _ => rfl, fun _ => rfl, fun _ => rfl, fun _ => rfl, fun _ => rfl, fun _ => rfl, fun _ => rfl, fun _ => rfl, fun _ => rfl, fun _ => rfl, fun _ => rfl, fun _ => rfl, fun _ => rfl, fun _ => rfl, fun _ => rfl, fun _ => rfl, trivial⟩
    · exact ⟨⟨rfl, rfl, rfl, fun _ => rfl⟩, ⟨rfl, rfl, rfl, fun _ => rfl⟩, trivial⟩
  · rintro ⟨⟨y, o, vs⟩, hy, ho⟩
    have hy : y ≤ M := hy
    have ho : o.l.length ≤ y * 12 := ho
    conv => whnf
    refine bcase_intro (fun hlt => ?_) (fun hge => ?_)
    · have hyM : y < M := n_lt hlt
      have hy8 : y ≤ 8 := by omega
      have hy7 : y ≤ 7 := by omega
      conv => whnf
      refine loop_st (G := {g : Nat × OT × (Nat → Value) // g.1 ≤ M ∧ g.2.1.l.length ≤ y * 12 + 2 * g.1}) (fun g => [.c (.int (M : Nat) (ir8 hM8)), .c (.int s hs), .c (.sli nl 0 0 len cap hl), .c (.val (g.1.2.2 3)), .c (.val (g.1.2.2 4)), .c (.val (g.1.2.2 5)), .c (.val (g.1.2.2 6)), g.1.2.1.sl 1, .c (.int (y : Nat) (ir8 (Nat.le_trans hy hM8))), .c (.int (g.1.1 : Nat) (ir8 (Nat.le_trans g.2.1 hM8))), .c (.val (g.1.2.2 10)), .c (.val (g.1.2.2 11)), .c (.val (g.1.2.2 12)), .c (.val (g.1.2.2 13)), .c (.val (g.1.2.2 14)), .c (.val (g.1.2.2 15)), .c (.val (g.1.2.2 16)), .c (.val (g.1.2.2 17)), .c (.val (g.1.2.2 18)), .c (.val (g.1.2.2 19)), .c (.val (g.1.2.2 20)), .c (.val (g.1.2.2 21)), .c (.val (g.1.2.2 22)), .c (.val (g.1.2.2 23)), .c (.val (g.1.2.2 24)), .c (.val (g.1.2.2 25)), .c (.val (g.1.2.2 26)), .c (.val (g.1.2.2 27)), .c (.val (g.1.2.2 28)), .c (.val (g.1.2.2 29)), .c (.val (g.1.2.2 30)), .c (.val (g.1.2.2 31)), .c (.val (g.1.2.2 32)), .c (.val (g.1.2.2 33)), .c (.val (g.1.2.2 34)), .c (.val (g.1.2.2 35)), .c (.val (g.1.2.2 36)), .c (.val (g.1.2.2 37)), .c (.val (g.1.2.2 38)), .c (.val (g.1.2.2 39)), .c (.val (g.1.2.2 40)), .c (.val (g.1.2.2 41)), .c (.val (g.1.2.2 42)), .c (.val (g.1.2.2 43)), .c (.val (g.1.2.2 44)), .c (.val (g.1.2.2 45)), .c (.val (g.1.2.2 46)), .c (.val (g.1.2.2 47)), .c (.val (g.1.2.2 48)), .c (.val (g.1.2.2 49)), .c (.val (g.1.2.2 50)), .c (.val (g.1.2.2 51)), .c (.val (g.1.2.2 52)), .c (.val (g.1.2.2 53)), .c (.val (g.1.2.2 54)), .c (.val (g.1.2.2 55)), .c (.val (g.1.2.2 56)), .c (.val (g.1.2.2 57)), .c (.val (g.1.2.2 58))]) (fun g => [⟨ty, true, intsC L, 0⟩, g.1.2.1.blk]) (fun g => M - g.1.1) ?_ ?_
      · refine ⟨[0, 1], [0, 1, 2, 7, 8, 9], [0, 1], fun vs2 => ?_⟩
        conv => whnf
        refine ⟨intsC_pure L, o.new.1, ?_⟩
        conv => whnf
        refine ⟨_, _, ?_, ?_, ⟨(0, o, vs2), Nat.zero_le _, ho⟩, rfl, rfl⟩
        · exact ⟨fun _ => rfl, fun _ => rfl, fun _ => rfl, fun _ => rfl, fun _ => rfl, fun _ => rfl, fun _ => rfl, fun _ => rfl, fun _ => rfl, fun _ => rfl, fun _ => rfl, fun _ => rfl, fun _ => rfl, fun _ => rfl, fun _ => rfl, fun _ => rfl, fun _ => rfl, fun _ => rfl, fun _ => rfl, fun _ => rfl, fun _ => rfl, fun _ => rfl, fun _ => rfl, fun _ => rfl, fun _ => rfl, fun _ => rfl, fun _ => rfl, fun _ => rfl, fun _ => rfl, fun _ => rfl, fun _ => rfl, fun _ => rfl, fun _ => rfl, fun _ => rfl, fun _ => rfl, fun _ => rfl, fun _ => rfl, fun _ => rfl, fun _ => rfl, fun _ => rfl, fun _ => rfl, fun _ => rfl, fun _ => rfl, fun _ => rfl, fun _ => rfl, fun _ => rfl, fun _ => rfl, fun _ => rfl, fun _ => rfl, fun _ => rfl, fun _ => rfl, fun _ => rfl, fun _ => rfl, fun _ => rfl, fun _ => rfl, fun _ => rfl, fun _ => rfl, fun _ => rfl, fun _ => rfl, trivial⟩
        · exact ⟨⟨rfl, rfl, rfl, fun _ => rfl⟩, ⟨rfl, rfl, rfl, fun _ => rfl⟩, trivial⟩
      · rintro ⟨⟨x, o2, vs2⟩, hx, ho2⟩
        have hx : x ≤ M := hx
        have ho2 : o2.l.length ≤ y * 12 + 2 * x := ho2
        conv => whnf
        refine bcase_intro (fun hlt => ?_) (fun hge => ?_)
        · have hxM : x < M := n_lt hlt
          have hx8 : x ≤ 8 := by omega
          have hx7 : x ≤ 7 := by omega
          conv => whnf
          refine ⟨⟨intsC_pure L, trivial⟩, ⟨_, _, _, _, _, _, _, _, _, rfl, isN_mk hx8, isN_mk hy8, isInt_mk, rfl, hL⟩, fun p1 => ?_⟩
          conv => whnf
          refine ⟨⟨intsC_pure L, trivial⟩, ⟨_, _, _, _, _, _, _, _, _, rfl, isN_succ hx7, isN_mk hy8, isInt_mk, rfl, hL⟩, fun p2 => ?_⟩
          conv => whnf
          refine ⟨⟨intsC_pure L, trivial⟩, ⟨_, _, _, _, _, _, _, _, _, rfl, isN_succ hx7, isN_succ hy7, isInt_mk, rfl, hL⟩, fun p3 => ?_⟩
          conv => whnf
          refine ⟨⟨intsC_pure L, trivial⟩, ⟨_, _, _, _, _, _, _, _, _, rfl, isN_mk hx8, isN_succ hy7, isInt_mk, rfl, hL⟩, fun p4 => ?_⟩
          conv => whnf
          refine ⟨fun _ _ => rfl, ?_⟩
          conv => whnf
          refine ⟨fun _ _ => rfl, ?_⟩
          conv => whnf
          refine ⟨fun _ _ => rfl, ?_⟩
          conv => whnf
          refine ⟨fun _ _ => rfl, ?_⟩
          conv => whnf
          refine ⟨trivial, ⟨_, _, _, _, rfl, ⟨p1, rfl⟩, ⟨p2, rfl⟩, ⟨p3, rfl⟩, ⟨p4, rfl⟩⟩, rfl, ?_⟩
          intro q hq
          conv => whnf
          rw [q.src]
          conv => whnf
          refine ⟨allOne_trs _, ?_⟩
          conv => whnf
          refine ⟨o2.app (app2_h ho2 hq hy8 hx8), fun c2 k2 => ?_⟩
          conv => whnf
          refine ⟨[0, 7], [0, 1, 2, 7, 8, 9], [0, 1], fun vs3 => ?_⟩
          conv => whnf
          refine ⟨intsC_pure L, pureL_append (trsC_pure o2.l) (trsC_pure q.l), ?_⟩
          conv => whnf
          refine ⟨_, _, ?_, ?_, ⟨(x + 1, o2.push q.l rfl c2 k2, vs3), hxM, push_leh ho2 _ hq c2 k2⟩, (by omega : M - (x + 1) < M - x), rfl, rfl⟩
          · exact ⟨fun _ => rfl, fun _ => rfl, fun _ => rfl, fun _ => rfl, fun _ => rfl, fun _ => rfl, fun _ => rfl, fun ρ => OT.push_sl o2 q.l rfl c2 k2 1 ρ, fun _ => rfl, sint_eq (wrap_add1 hxM (ir8 hM8)) _ _, fun _ => rfl, fun _ => rfl, fun _ => rfl, fun _ => rfl, fun _ => rfl, fun _ => rfl, fun _ => rfl, fun _ => rfl, fun _ => rfl, fun _ => rfl, fun _ => rfl, fun _ => rfl, fun _ => rfl, fun _ => rfl, fun _ => rfl, fun _ => rfl, fun _ => rfl, fun _ => rfl, fun _ => rfl, fun _ => rfl, fun _ => rfl, fun _ => rfl, fun _ => rfl, fun _ => rfl, fun _ => rfl, fun _ => rfl, fun _ => rfl, fun _ => rfl, fun _ => rfl, fun _ => rfl, fun _ => rfl, fun _ => rfl, fun _ => rfl, fun _ => rfl, fun _ => rfl, fun _ => rfl, fun _ => rfl, fun _ => rfl, fun _ => rfl, fun _ => rfl, fun _ => rfl, fun _ => rfl, fun _ => rfl, fun _ => rfl, fun _ => rfl, fun _ => rfl, fun _ => rfl, fun _ => rfl, fun _ => rfl, trivial⟩
          · exact ⟨⟨rfl, rfl, rfl, fun _ => rfl⟩, OT.push_blk o2 q.l rfl c2 k2 (fun _ => rfl), trivial⟩
        · have hx6 : x ≤ 6 := by omega
          conv => whnf
          refine ⟨[0, 1], [0, 1, 2, 7, 8], [0, 1], fun vs3 => ?_⟩
          conv => whnf
          refine ⟨intsC_pure L, o2.new.1, ?_⟩
          conv => whnf
          refine ⟨_, _, ?_, ?_, ⟨(y + 1, o2, vs3), hyM, (by omega : o2.l.length ≤ (y + 1) * 12)⟩, (by omega : M - (y + 1) < M - y), rfl, rfl⟩
          · exact ⟨fun _ => rfl, fun _ => rfl, fun _ => rfl, fun _ => rfl, fun _ => rfl, fun _ => rfl, fun _ => rfl, fun _ => rfl, sint_eq (wrap_add1 hyM (ir8 hM8)) _ _, fun _ => rfl, fun _ => rfl, fun _ => rfl, fun _ => rfl, fun _ => rfl, fun _ => rfl, fun _ => rfl, fun _ => rfl, fun _ => rfl, fun _ => rfl, fun _ => rfl, fun _ => rfl, fun _ => rfl, fun _ => rfl, fun _ => rfl, fun _ => rfl, fun _ => rfl, fun _ => rfl, fun _ => rfl, fun _ => rfl, fun _ => rfl, fun _ => rfl, fun _ => rfl, fun _ => rfl, fun _ => rfl, fun _ => rfl, fun _ => rfl, fun _ => rfl, fun _ => rfl, fun _ => rfl, fun _ => rfl, fun _ => rfl, fun _ => rfl, fun _ => rfl, fun _ => rfl, fun _ => rfl, fun _ => rfl, fun _ => rfl, fun _ => rfl, fun _ => rfl, fun _ => rfl, fun _ => rfl, fun _ => rfl, fun _ => rfl, fun _ => rfl, fun _ => rfl, fun _ => rfl, fun _ => rfl, fun _ => rfl, fun _ => rfl, trivial⟩
          · exact ⟨⟨rfl, rfl, rfl, fun _ => rfl⟩, ⟨rfl, rfl, rfl, fun _ => rfl⟩, trivial⟩
    · have hy6 : y ≤ 6 := by omega
      conv => whnf
      refine ⟨[0, 1], [0, 1], fun vs3 => ?_⟩
      conv => whnf
      refine ⟨intsC_pure L, o.new.1, ?_⟩
      conv => whnf
      exact ⟨_, [o.blk], rfl, ⟨⟨rfl, rfl, rfl, fun _ => rfl⟩, ⟨rfl, rfl, rfl, fun _ => rfl⟩, trivial⟩, ⟨o.new, trivial⟩, o.sl 1, fun _ => rfl, hc o (by omega)⟩
end Go.Proofs.YtapppahniablmaaDoor
