/- The reckoner: helps for steps that need a fact. -/
import Derived.Test.YthmdmbpecgakkaaDoorRead
import Derived.Test.YthmdmbpecgakkaaDoorEno
namespace Go.Proofs.YthmdmbpecgakkaaDoor
open Go.RowKit
set_option maxRecDepth 100000

theorem pureL_append {a b : List C} (ha : PureL a) (hb : PureL b) : PureL (a ++ b) := fun ρ ρ' => by
  rw [List.flatMap_append, List.flatMap_append, ha ρ ρ', hb ρ ρ']
theorem cint {a b : Int} {ha : IR a} (e : a = b) (hb : IR b) : SV.c (.int a ha) = SV.c (.int b hb) := by subst e; rfl
theorem eff_rem {T : TypeId → Option TI} {op : Op} {ev : Operand → SV} {hp : Nat → Option Blk} {t yt : TypeId} {x y : Operand} (ho : op = .binOp .rem t x y yt) {a : Int} {ha : IR a} (hx : ev x = .c (.int a ha)) {b : Int} {hb : IR b} (hy : ev y = .c (.int b hb)) {c : Int} (hb0 : b ≠ 0) (hc : a.tmod b = c) (hi : IR c) :
    eff T op ev hp = some (.val (.c (.int c hi))) := by
  subst ho hc
  simp only [eff, hx, hy, binS]
  rw [if_neg hb0]
theorem eff_min {T : TypeId → Option TI} {op : Op} {ev : Operand → SV} {hp : Nat → Option Blk} {x y : Operand} {c : Call} (ho : op = .call c) (hc : c.callee = .builtin .min) (hcx : c.args.toList = [x, y]) {a : Int} {ha : IR a} (hx : ev x = .c (.int a ha)) {b : Int} {hb : IR b} (hy : ev y = .c (.int b hb)) {d : Int} (hd : minI a b = d) (hi : IR d) :
    eff T op ev hp = some (.val (.c (.int d hi))) := by
  subst ho hd
  simp only [eff, hc, hcx, hx, hy]
theorem eff_slice_hi {T : TypeId → Option TI} {op : Op} {ev : Operand → SV} {hp : Nat → Option Blk} {t : TypeId} {x y : Operand} (ho : op = .slice t x none (some y) none) {sz : Nat} {ag : Bool} {z : List C} {e : TypeId} {esz : Nat} {ez : List C} {eq : Option (List K)} (hT : T t = some ⟨sz, ag, z, .slice e esz ez, eq⟩)
    {nl : Bool} {b off len cap : Nat} {hl : SliOk nl len cap} (hx : ev x = .c (.sli nl b off len cap hl)) {k : Nat} {hi : IR k} (hk : ev y = .c (.int k hi)) (hlt : k ≤ cap) (h2 : SliOk nl k cap) : eff T op ev hp = some (.val (.c (.sli nl b off k cap h2))) := by
  subst ho
  simp only [eff, hT, hx, Option.map, bndO, hk]
  show (if hc : _ then _ else _) = _
  rw [dif_pos ⟨⟨Nat.zero_le _, hlt, Nat.le_refl _⟩, rfl⟩]
  rfl
theorem n_lt {k M : Nat} (h : decide ((k : Int) < (M : Int)) = true) : k < M := by have := of_decide_eq_true h; omega
theorem n_ge {k M : Nat} (h : decide ((k : Int) < (M : Int)) = false) : M ≤ k := by have := of_decide_eq_false h; omega
theorem subC_nil : ∀ cs : List C, subC cs 0 0 = some []
  | [] => rfl
  | _ :: _ => rfl
theorem eff_slice_lo {T : TypeId → Option TI} {op : Op} {ev : Operand → SV} {hp : Nat → Option Blk} {t : TypeId} {x y : Operand} (ho : op = .slice t x (some y) none none) {sz : Nat} {ag : Bool} {z : List C} {e : TypeId} {esz : Nat} {ez : List C} {eq : Option (List K)} (hT : T t = some ⟨sz, ag, z, .slice e esz ez, eq⟩)
    {nl : Bool} {b off len cap : Nat} {hl : SliOk nl len cap} (hx : ev x = .c (.sli nl b off len cap hl)) {k : Nat} {hi : IR k} (hk : ev y = .c (.int k hi)) (hlt : k ≤ len) : eff T op ev hp = some (.val (.c (.sli nl b (slOff off esz k cap) (len - k) (cap - k) (hl.sub ⟨hlt, hl.1, Nat.le_refl _⟩)))) := by
  subst ho
  simp only [eff, hT, hx, Option.map, bndO, hk]
  show (if hc : _ then _ else _) = _
  rw [dif_pos ⟨⟨hlt, hl.1, Nat.le_refl _⟩, rfl⟩]
theorem sliOk_le2 {nl : Bool} {len cap k : Nat} (h : SliOk nl len cap) (hk : k ≤ len) : SliOk nl k cap := ⟨Nat.le_trans hk h.1, h.2.1, h.2.2⟩
theorem n_lt' {k M : Nat} (h : k < M) : decide ((k : Int) < (M : Int)) = true := decide_eq_true (by omega)
theorem n_ge' {k M : Nat} (h : M ≤ k) : decide ((k : Int) < (M : Int)) = false := decide_eq_false (by omega)
theorem eff_index_arr {T : TypeId → Option TI} {op : Op} {ev : Operand → SV} {hp : Nat → Option Blk} {t : TypeId} {x i : Operand} (ho : op = .indexAddr t x i) {sz : Nat} {ag ea : Bool} {z : List C} {m esz : Nat} {eq : Option (List K)} (hT : T t = some ⟨sz, ag, z, .array m esz ea, eq⟩)
    {b off : Nat} (hx : ev x = .c (.ptr b off)) {k : Nat} {hi : IR k} (hk : ev i = .c (.int k hi)) (hlt : k < m) : eff T op ev hp = some (.val (.c (.ptr b (off + k * esz)))) := by
  subst ho
  simp only [eff, hT, hx, hk]
  show (if k < m then _ else _) = _
  rw [if_pos hlt]
theorem bcase_true {b : Bool} {X Y : Prop} (h : b = true) (hx : X) : bcase b X Y := bcase_intro (fun _ => hx) (fun h1 => by rw [h] at h1; cases h1)
theorem bcase_false {b : Bool} {X Y : Prop} (h : b = false) (hy : Y) : bcase b X Y := bcase_intro (fun h1 => by rw [h] at h1; cases h1) (fun _ => hy)
theorem eff_store_at {T : TypeId → Option TI} {op : Op} {ev : Operand → SV} {hp : Nat → Option Blk} {t : TypeId} {x y : Operand} (ho : op = .store t x y) {ti : TI} (hT : T t = some ti) {b off : Nat} (hx : ev x = .c (.ptr b off)) {l : List C} (hy : (ev y).ch = some l) (hl : sizeC l = ti.size ∧ allOne l = true)
    {blk : Blk} (hb : hp b = some blk) (hro : blk.ro = false) {cs : List C} (hs : spliceC blk.cs off l = some cs) : eff T op ev hp = some (.put b cs) := by
  subst ho
  simp only [eff, hT, hx, hy, hb, putC, hs, hro]
  rw [if_pos hl]
  rfl
theorem spliceC_app (a m b new : List C) (h : sizeC new = sizeC m) : spliceC (a ++ (m ++ b)) (sizeC a) new = some (a ++ (new ++ b)) := by
  unfold spliceC
  rw [takeC_app, h]
  simp only [takeC_app]
theorem len_pos {nl : Bool} {len cap : Nat} (_ : SliOk nl len cap) (h : decide (0 < (len : Int)) = true) : 0 < len := by have := of_decide_eq_true h; omega
theorem wrap_pred {k : Nat} (hk : 0 < k) (h : IR k) : IntKind.i64.wrap ((k : Int) - 1) = ((k - 1 : Nat) : Int) := by
  rw [wrap_id (by unfold IR at *; omega)]; omega
theorem len_zero {k : Nat} (h : decide (0 < (k : Int)) = false) : k = 0 := by have := of_decide_eq_false h; omega
theorem ltI {nl : Bool} {k n cap : Nat} (h : SliOk nl n cap) (hk : k ≤ n) : IR k := by have := h.ir; unfold IR at *; omega
end Go.Proofs.YthmdmbpecgakkaaDoor
