/- Functions that read slices of their caller's, for the reckoner; points and triangles. -/
import Derived.Test.YthmdmbpecgakkaaDoorSpec
namespace Go.Proofs.YthmdmbpecgakkaaDoor
open Go.RowKit

abbrev Dr := List SV → (Nat → Option Blk) → Option (Option Prop × SV)
def SpR (P : Program) (f : FuncId) (d : Dr) : Prop := Callable P f ∧ ∀ args hf p v, d args hf = some (p, v) → (∀ ρ ρ', v.den ρ = v.den ρ') ∧
  ((∀ q, p = some q → q) → ∀ ρ w, (∀ b blk, hf b = some blk → Holds ρ blk b w) → Calls P f (args.map (SV.den ρ)).toArray w fun e w' => e = .returned (v.den ρ) ∧ Below w.heap.size w w')
def lkR : List (FuncId × Dr) → FuncId → Dr
  | [], _, _, _ => none
  | (g, d) :: l, f, args, hf => if f = g then d args hf else lkR l f args hf
def envR (un : Nat) (l : List (FuncId × Dn)) (r : List (FuncId × Dr)) : Env where
  T := tyT
  un := un
  D := fun f args hf => match lkD l f args with | some x => some x | none => lkR r f args hf
  O := oAppend tyT
def AllR (l : List (FuncId × Dr)) : Prop := ∀ x ∈ l, SpR Tryd.prog x.1 x.2
theorem AllR.nil : AllR [] := fun x hx => by simp at hx
theorem AllR.cons {f : FuncId} {d : Dr} {l : List (FuncId × Dr)} (h : SpR Tryd.prog f d) (hl : AllR l) : AllR ((f, d) :: l) := fun x hx => by
  rcases List.mem_cons.1 hx with rfl | hx
  · exact h
  · exact hl x hx
theorem lkR_ok {l : List (FuncId × Dr)} (hl : AllR l) : ∀ {f : FuncId} {args : List SV} {hf} {r}, lkR l f args hf = some r → ∃ d, SpR Tryd.prog f d ∧ d args hf = some r := by
  intro f args hf r h
  induction l with
  | nil => simp [lkR] at h
  | cons x l ih =>
    obtain ⟨g, d⟩ := x
    unfold lkR at h
    split at h
    · rename_i e; rw [e]; exact ⟨d, hl (g, d) List.mem_cons_self, h⟩
    · exact ih (fun y hy => hl y (List.mem_cons_of_mem _ hy)) h
theorem envR_ok {l : List (FuncId × Dn)} (hl : AllOk l) {r : List (FuncId × Dr)} (hr : AllR r) (un : Nat) : EOk Tryd.prog (envR un l r) where
  T := tyT_ok
  D f args hf p v h := by
    unfold envR at h
    simp only at h
    split at h
    · rename_i x hx
      cases h
      obtain ⟨d, hd, he⟩ := lkD_ok hl hx
      obtain ⟨h1, h2⟩ := hd.2 args p v he
      exact ⟨hd.1, fun ρ ρ' _ => h1 ρ ρ', fun hp ρ w _ => h2 hp ρ w⟩
    · obtain ⟨d, hd, he⟩ := lkR_ok hr h
      obtain ⟨h1, h2⟩ := hd.2 args hf p v he
      exact ⟨hd.1, fun ρ ρ' _ => h1 ρ ρ', h2⟩
  O := oAppend_ok tyT_ok
theorem sp_of3 {f : FuncId} {fn : Func} (hf : FnOk Tryd.prog f fn) {un : Nat} {l : List (FuncId × Dn)} (hl : AllOk l) {r : List (FuncId × Dr)} (hr : AllR r) {F : FuncId → Option Func} (hF : ∀ f fn, F f = some fn → FnOk Tryd.prog f fn) {n : Nat} {d : Dn}
    (h : ∀ args p v, d args = some (p, v) → ∃ args', (∀ ρ, args.map (SV.den ρ) = args'.map (SV.den ρ)) ∧ (∀ ρ ρ', v.den ρ = v.den ρ') ∧ (∀ ρ ρ', args'.map (SV.den ρ) = args'.map (SV.den ρ')) ∧
      ((∀ q, p = some q → q) → vcF (envR un l r) (inl (envR un l r) F n) fn args' [] fun u _ => ∀ ρ, u.den ρ = v.den ρ)) : SpOk Tryd.prog f d :=
  ⟨hf.callable, fun args p v hd => by
    obtain ⟨args', h0, h1, h2, h3⟩ := h args p v hd
    exact ⟨h1, fun hp ρ w => by rw [h0]; exact pure_ok (envR_ok hl hr un) mixed hF hf h1 h2 (h3 hp) ρ w⟩⟩

/-- what is the same denotes the same -/
theorem stm : ∀ l : List SV, SameTm l l
  | [] => trivial
  | _ :: l => ⟨fun _ => rfl, stm l⟩
/-- a point, a triangle -/
structure PT where
  x : Int
  y : Int
  z : Int
  hx : IR x
  hy : IR y
  hz : IR z
structure TR where
  a : PT
  b : PT
  c : PT
def ptC (p : PT) : List C := [.int p.x p.hx, .int p.y p.hy, .int p.z p.hz]
def trC (t : TR) : List C := [.int t.a.x t.a.hx, .int t.a.y t.a.hy, .int t.a.z t.a.hz, .int t.b.x t.b.hx, .int t.b.y t.b.hy, .int t.b.z t.b.hz, .int t.c.x t.c.hx, .int t.c.y t.c.hy, .int t.c.z t.c.hz]
def trsC : List TR → List C
  | [] => []
  | t :: l => trC t ++ trsC l
/-- triangles out of cells -/
def toTrs : List C → Option (List TR)
  | [] => some []
  | .int x1 h1 :: .int y1 h2 :: .int z1 h3 :: .int x2 h4 :: .int y2 h5 :: .int z2 h6 :: .int x3 h7 :: .int y3 h8 :: .int z3 h9 :: l =>
    (match toTrs l with | some m => some (⟨⟨x1, y1, z1, h1, h2, h3⟩, ⟨x2, y2, z2, h4, h5, h6⟩, ⟨x3, y3, z3, h7, h8, h9⟩⟩ :: m) | none => none)
  | _ => none
theorem toTrs_ok : ∀ {l : List C} {m : List TR}, toTrs l = some m → l = trsC m := by
  intro l
  induction l using toTrs.induct with
  | case1 => intro m h; simp [toTrs] at h; subst h; rfl
  | case2 x1 h1 y1 h2 z1 h3 x2 h4 y2 h5 z2 h6 x3 h7 y3 h8 z3 h9 l m' hm ih =>
    intro m h
    simp only [toTrs, hm, Option.some.injEq] at h
    subst h
    rw [ih hm]; rfl
  | case3 x1 h1 y1 h2 z1 h3 x2 h4 y2 h5 z2 h6 x3 h7 y3 h8 z3 h9 l hm ih =>
    intro m h
    simp [toTrs, hm] at h
  | case4 l h1 h2 =>
    intro m h
    rw [toTrs] at h
    · cases h
    all_goals assumption
theorem toTrs_trs : ∀ m : List TR, toTrs (trsC m) = some m
  | [] => rfl
  | t :: m => by simp [trsC, trC, toTrs, toTrs_trs m]
theorem trsC_size : ∀ l : List TR, sizeC (trsC l) = 9 * l.length
  | [] => rfl
  | t :: l => by rw [trsC, sizeC_append, trsC_size l]; simp [trC, sizeC, C.n]; omega
theorem trsC_pure : ∀ (l : List TR) (ρ ρ' : Rho), cellsL ρ (trsC l) = cellsL ρ' (trsC l)
  | [], _, _ => rfl
  | t :: l, ρ, ρ' => by rw [trsC, cellsL_append, cellsL_append, trsC_pure l ρ ρ']; rfl
theorem takeC_app : ∀ (a b : List C), takeC (sizeC a) (a ++ b) = some (a, b)
  | [], b => by cases b <;> rfl
  | x :: a, b => by
    have hx : 0 < x.n := by cases x <;> simp [C.n]
    have e : sizeC (x :: a) = (x.n + sizeC a - 1) + 1 := by simp [sizeC]; omega
    rw [e, List.cons_append, takeC, if_pos (by omega), show x.n + sizeC a - 1 + 1 - x.n = sizeC a by omega, takeC_app a b]
theorem subC_app (a m b : List C) : subC (a ++ (m ++ b)) (sizeC a) (sizeC m) = some m := by
  unfold subC
  rw [takeC_app]
  simp only
  rw [takeC_app]
theorem trsC_append (a b : List TR) : trsC (a ++ b) = trsC a ++ trsC b := by
  induction a with
  | nil => rfl
  | cons t a ih => simp [trsC, ih]
/-- the triangle at a place -/
theorem subC_trs (l : List TR) {k : Nat} (hk : k < l.length) : subC (trsC l) (k * 9) 9 = some (trC l[k]) := by
  have e : trsC l = trsC (l.take k) ++ (trC l[k] ++ trsC (l.drop (k + 1))) := by
    have h : l = l.take k ++ (l[k] :: l.drop (k + 1)) := by rw [← List.drop_eq_getElem_cons hk, List.take_append_drop]
    rw [show trsC l = trsC (l.take k ++ (l[k] :: l.drop (k + 1))) by rw [← h], trsC_append]
    rfl
  have s : sizeC (trsC (l.take k)) = k * 9 := by rw [trsC_size]; simp; omega
  rw [e, ← s]
  exact subC_app _ (trC l[k]) _
/-- steps that need a fact -/
theorem vcOp_val {E : Env} {H : FuncId → List SV → List Blk → (SV → List Blk → Prop) → Prop} {o : Oper} {tm : List SV} {hp : List Blk} {K : List SV → List Blk → Prop} {v : SV} (h : eff E.T o.op (evm tm) (nthO hp) = some (.val v))
    (hK : v.force fun v => putK o.dst v tm fun tm => K tm hp) : vcOp E H o tm hp K := by
  unfold vcOp; rw [h]; exact hK
theorem pureL_trs (l : List TR) : PureL (trsC l) := trsC_pure l
theorem allOne_append (a b : List C) : allOne (a ++ b) = (allOne a && allOne b) := by
  induction a with
  | nil => rfl
  | cons x a ih => simp [allOne, ih, Bool.and_assoc]
theorem allOne_trs : ∀ l : List TR, allOne (trsC l) = true
  | [] => rfl
  | t :: l => by rw [trsC, allOne_append, allOne_trs l]; rfl
theorem eff_index_sli {T : TypeId → Option TI} {op : Op} {ev : Operand → SV} {hp : Nat → Option Blk} {t : TypeId} {x i : Operand} (ho : op = .indexAddr t x i) {sz : Nat} {ag : Bool} {z : List C} {e : TypeId} {esz : Nat} {ez : List C} {eq : Option (List K)} (hT : T t = some ⟨sz, ag, z, .slice e esz ez, eq⟩)
    {nl : Bool} {b off len cap : Nat} {hl : SliOk nl len cap} (hx : ev x = .c (.sli nl b off len cap hl)) {k : Nat} {hi : IR k} (hk : ev i = .c (.int k hi)) (hlt : k < len) : eff T op ev hp = some (.val (.c (.ptr b (off + k * esz)))) := by
  subst ho
  simp only [eff, hT, hx, hk]
  show (if k < len then _ else _) = _
  rw [if_pos hlt]
theorem eff_load_sub {T : TypeId → Option TI} {op : Op} {ev : Operand → SV} {hp : Nat → Option Blk} {t : TypeId} {x : Operand} (ho : op = .load t x) {ti : TI} (hT : T t = some ti) {b off : Nat} (hx : ev x = .c (.ptr b off)) {blk : Blk} (hb : hp b = some blk) {m : List C} (hm : subC blk.cs off ti.size = some m)
    {v : SV} (hv : wrapV ti.agg m = some v) : eff T op ev hp = some (.val v) := by
  subst ho
  simp only [eff, hT, hx, hb, partC, hm, hv]
theorem SameTm.refl : ∀ l : List SV, SameTm l l
  | [] => trivial
  | _ :: l => ⟨fun _ => rfl, SameTm.refl l⟩
theorem wrap_id {z : Int} (h : IR z) : IntKind.i64.wrap z = z := by
  unfold IR at h; unfold IntKind.wrap; simp [IntKind.bits, IntKind.signed]; split <;> omega
theorem wrap_add1 {k n : Nat} (h : k < n) (hn : IR n) : IntKind.i64.wrap ((k : Int) + 1) = ((k + 1 : Nat) : Int) := by
  rw [wrap_id (by unfold IR at *; omega)]; rfl
/-- a loop by what holds at each head: the state there is a function of what is left open -/
theorem loop_st {n0 : Nat} {b : List SV → List Blk → (SE → List SV → List Blk → Prop) → Prop} {tm : List SV} {hp : List Blk} {Q : SE → List SV → List Blk → Prop} {G : Type} (st : G → List SV) (hs : G → List Blk) (mu : G → Nat)
    (hent : entK n0 tm hp fun tm2 hp2 => ∃ g, tm2 = st g ∧ hp2 = hs g)
    (hround : ∀ g, b (st g) (hs g) fun e tm' hp' => (match e with
      | .normal => entK n0 tm' hp' fun tm2 hp2 => ∃ g', mu g' < mu g ∧ tm2 = st g' ∧ hp2 = hs g'
      | .exit id => Q (.exit id) tm' hp'
      | .ret => Q .ret tm' hp')) :
    (∃ n, rounds b Q n tm hp) ∨ ∃ (I : Nat → List SV → List Blk → Prop), entK n0 tm hp (fun tm hp => ∃ n, I n tm hp) ∧
      ∀ n tm' hp', I n tm' hp' → b tm' hp' fun e tm' hp' => (match e with
        | .normal => entK n0 tm' hp' fun tm hp => ∃ n', n' < n ∧ I n' tm hp
        | .exit id => Q (.exit id) tm' hp'
        | .ret => Q .ret tm' hp') := by
  have e1 : (fun (tm2 : List SV) (hp2 : List Blk) => ∃ g, tm2 = st g ∧ hp2 = hs g) = fun tm2 hp2 => ∃ n, ∃ g, mu g = n ∧ tm2 = st g ∧ hp2 = hs g := by
    funext tm2 hp2; apply propext
    exact ⟨fun ⟨g, h⟩ => ⟨_, g, rfl, h⟩, fun ⟨_, g, _, h⟩ => ⟨g, h⟩⟩
  have e2 : ∀ n, (fun (tm2 : List SV) (hp2 : List Blk) => ∃ g', mu g' < n ∧ tm2 = st g' ∧ hp2 = hs g') = fun tm2 hp2 => ∃ n', n' < n ∧ ∃ g, mu g = n' ∧ tm2 = st g ∧ hp2 = hs g := fun n => by
    funext tm2 hp2; apply propext
    exact ⟨fun ⟨g, h, h'⟩ => ⟨_, h, g, rfl, h'⟩, fun ⟨_, h, g, e, h'⟩ => ⟨g, by rw [e]; exact h, h'⟩⟩
  rw [e1] at hent
  refine .inr ⟨fun n tm hp => ∃ g, mu g = n ∧ tm = st g ∧ hp = hs g, hent, ?_⟩
  rintro n tm' hp' ⟨g, rfl, rfl, rfl⟩
  have := hround g
  rw [e2] at this
  exact this
theorem sint_eq {a b : Int} (e : a = b) (ha : IR a) (hb : IR b) (ρ : Rho) : (SV.c (.int a ha)).den ρ = (SV.c (.int b hb)).den ρ := by subst e; rfl
end Go.Proofs.YthmdmbpecgakkaaDoor
