/- A reckoner of states in symbols: what it is. -/
import Derived.Deep.MidRow
import Derived.LoopN
import Derived.Test.YtapppahniablmaaDoorSxEq
namespace Go.Proofs.YtapppahniablmaaDoor
open Go.RowKit

/-- in the range of int -/
def IR (n : Int) : Prop := -9223372036854775808 ≤ n ∧ n ≤ 9223372036854775807
instance (n : Int) : Decidable (IR n) := inferInstanceAs (Decidable (_ ∧ _))
theorem IR.wrap (n : Int) : IR (IntKind.i64.wrap n) := by
  unfold IR IntKind.wrap; simp [IntKind.bits, IntKind.signed]; split <;> omega

theorem IR.tmod {a : Int} (h : IR a) (b : Int) : IR (a.tmod b) := by
  unfold IR at *
  cases a with
  | ofNat m =>
    have e : (Int.ofNat m).tmod b = Int.ofNat (m % b.natAbs) := by cases b <;> rfl
    have hl := Nat.mod_le m b.natAbs
    rw [e]
    generalize m % b.natAbs = q at *
    simp only [Int.ofNat_eq_natCast] at *
    omega
  | negSucc m =>
    have e : (Int.negSucc m).tmod b = -Int.ofNat ((m + 1) % b.natAbs) := by cases b <;> rfl
    have hl := Nat.mod_le (m + 1) b.natAbs
    rw [e]
    generalize (m + 1) % b.natAbs = q at *
    simp only [Int.ofNat_eq_natCast, Int.negSucc_eq] at *
    omega

/-- what lies in a block: a cell, or the two cells of a canonical number -/
inductive C where
  | val (v : Value)
  | int (n : Int) (h : IR n)
  | wid (k : Nat) (z : Int) (h : Sm k z)
  | ptr (b off : Nat)
  | sli (b off len cap : Nat) (h : IR len)
  | fn (f : FuncId) (caps : List (Nat × Nat))
inductive T1 where
  | c (x : C)
  | agg (l : List C)
/-- a value -/
inductive SV where
  | c (x : C)
  | agg (l : List C)
  | tup (l : List T1)
/-- a block: its own (known whole), or read alone (known from an offset on) -/
structure Blk where
  ty : TypeId
  ro : Bool
  cs : List C

abbrev Rho := Nat → Nat × Nat
def adr (ρ : Rho) (b off : Nat) : Value := .pointer (some ⟨(ρ b).1, (ρ b).2 + off, none⟩)
def C.cells (ρ : Rho) : C → List Value
  | .val v => [v]
  | .int n _ => [.int .i64 n]
  | .wid _ z _ => [.bool (decide (z < 0)), .string ⟨(mag z.natAbs).toArray⟩]
  | .ptr b off => [adr ρ b off]
  | .sli b off len cap _ => [.slice (some ⟨(ρ b).1, (ρ b).2 + off, none⟩) len cap]
  | .fn f caps => [.func (.func f) #[] (caps.map fun p => adr ρ p.1 p.2).toArray]
def C.n : C → Nat
  | .wid _ _ _ => 2
  | _ => 1
def C.one : C → Bool
  | .val v => v.oneCell'
  | .int _ _ => true
  | .wid _ _ _ => true
  | .ptr _ _ => true
  | .sli _ _ _ _ _ => true
  | .fn _ _ => true
def cellsL (ρ : Rho) (l : List C) : List Value := l.flatMap (C.cells ρ)
def C.den (ρ : Rho) (x : C) : Value := (x.cells ρ).headD undef
def T1.den (ρ : Rho) : T1 → Value
  | .c x => x.den ρ
  | .agg l => .agg (cellsL ρ l).toArray
def SV.den (ρ : Rho) : SV → Value
  | .c x => x.den ρ
  | .agg l => .agg (cellsL ρ l).toArray
  | .tup l => .tuple (l.map (T1.den ρ)).toArray
def T1.sv : T1 → SV
  | .c x => .c x
  | .agg l => .agg l
def uv : SV := .c (.val undef)

/-- lists, reckoned to the end -/
def nth {α : Type} (d : α) : List α → Nat → α
  | [], _ => d
  | x :: _, 0 => x
  | _ :: l, n + 1 => nth d l n
def nthO {α : Type} : List α → Nat → Option α
  | [], _ => none
  | x :: _, 0 => some x
  | _ :: l, n + 1 => nthO l n
def updK {α : Type} : List α → Nat → α → (List α → Prop) → Prop
  | [], _, _, K => K []
  | _ :: l, 0, v, K => K (v :: l)
  | x :: l, n + 1, v, K => updK l n v fun l => K (x :: l)
def snocK {α : Type} : List α → α → (List α → Prop) → Prop
  | [], v, K => K [v]
  | x :: l, v, K => snocK l v fun l => K (x :: l)
def C.force (x : C) (K : C → Prop) : Prop :=
  match x with
  | .val v => K (.val v)
  | .int n h => K (.int n h)
  | .wid k z h => K (.wid k z h)
  | .ptr b off => K (.ptr b off)
  | .sli b off len cap h => K (.sli b off len cap h)
  | .fn f caps => K (.fn f caps)
def forceL : List C → (List C → Prop) → Prop
  | [], K => K []
  | x :: l, K => x.force fun x => forceL l fun l => K (x :: l)
def T1.force (x : T1) (K : T1 → Prop) : Prop :=
  match x with
  | .c x => x.force fun x => K (.c x)
  | .agg l => forceL l fun l => K (.agg l)
def forceT : List T1 → (List T1 → Prop) → Prop
  | [], K => K []
  | x :: l, K => x.force fun x => forceT l fun l => K (x :: l)
def SV.force (v : SV) (K : SV → Prop) : Prop :=
  match v with
  | .c x => x.force fun x => K (.c x)
  | .agg l => forceL l fun l => K (.agg l)
  | .tup l => forceT l fun l => K (.tup l)
def bcase (b : Bool) (X Y : Prop) : Prop :=
  match b with
  | true => X
  | false => Y

/-- what a type is -/
inductive Sh where
  | other
  | struct (fs : List (Nat × Nat × Bool))
  | array (n esz : Nat) (eagg : Bool)
  | slice (e : TypeId) (esz : Nat) (ez : List C)
  | int (k : IntKind)
  | bool
  | string
structure TI where
  size : Nat
  agg : Bool
  zero : List C
  sh : Sh
  eq : Option (List K) := none

def ofConst : Value → SV
  | .int .i64 n => if h : IR n then .c (.int n h) else .c (.val (.int .i64 n))
  | .agg cs => .agg (cs.toList.map .val)
  | v => .c (.val v)
def evm (tm : List SV) : Operand → SV
  | .tmp t => nth uv tm t
  | .const v => ofConst v
  | .func f => .c (.fn f [])
  | .global g => .c (.val (.pointer (some ⟨g, 0, none⟩)))

/-- the cells of a value -/
def SV.ch : SV → Option (List C)
  | .c x => (match x.n, x.one with
    | 1, true => some [x]
    | _, _ => none)
  | .agg l => some l
  | .tup _ => none
/-- n cells off the head -/
def takeC : Nat → List C → Option (List C × List C)
  | 0, l => some ([], l)
  | _ + 1, [] => none
  | n + 1, x :: l => if x.n ≤ n + 1 then (match takeC (n + 1 - x.n) l with | some (a, b) => some (x :: a, b) | none => none) else none
def sizeC : List C → Nat
  | [] => 0
  | x :: l => x.n + sizeC l
def subC (cs : List C) (off n : Nat) : Option (List C) :=
  match takeC off cs with
  | some (_, r) => (match takeC n r with | some (m, _) => some m | none => none)
  | none => none
/-- cells from an offset on written anew -/
def spliceC (cs : List C) (off : Nat) (new : List C) : Option (List C) :=
  match takeC off cs with
  | some (a, r) => (match takeC (sizeC new) r with | some (_, b) => some (a ++ (new ++ b)) | none => none)
  | none => none
def wrapV (agg : Bool) (m : List C) : Option SV :=
  match agg, m with
  | true, m => some (.agg m)
  | false, [x] => (match x.n with | 1 => some (.c x) | _ => none)
  | false, _ => none
/-- numbers as their two cells -/
def splitC : List C → List C
  | [] => []
  | .wid _ z _ :: l => .val (.bool (decide (z < 0))) :: .val (.string ⟨(mag z.natAbs).toArray⟩) :: splitC l
  | x :: l => x :: splitC l
def partC (agg : Bool) (cs : List C) (off n : Nat) : Option SV :=
  match subC cs off n with
  | some m => wrapV agg m
  | none => (match subC (splitC cs) off n with
    | some m => wrapV agg m
    | none => none)
def fillC (place : Nat → Option (Nat × Nat)) (cs : List C) : List (Nat × SV) → Option (List C)
  | [] => some cs
  | (i, v) :: rest =>
    match place i, v.ch with
    | some (off, n), some l => if sizeC l = n then (match spliceC cs off l with | some cs => fillC place cs rest | none => none) else none
    | _, _ => none

def repC : Nat → List C → List C
  | 0, _ => []
  | n + 1, l => l ++ repC n l
def allOne : List C → Bool
  | [] => true
  | x :: l => x.one && allOne l

inductive Eff where
  | val (v : SV)
  | new (b : Blk) (v : Nat → SV)
  | put (b : Nat) (cs : List C)

def bv (b : Bool) : Option Eff := some (.val (.c (.val (.bool b))))
def iv (n : Int) : Option Eff := some (.val (.c (.int (IntKind.i64.wrap n) (IR.wrap n))))
/-- a comparison of cells -/
def andO (a : Bool) (l : List C) (r : Option Bool) : Option Bool :=
  match l, r with
  | [], some _ => some a
  | _, some b => some (a && b)
  | _, none => none
def eqL : List K → List C → List C → Option Bool
  | [], [], [] => some true
  | .b :: .s :: ks, .wid _ y _ :: l, .wid _ z _ :: m => andO (decide (y = z)) l (eqL ks l m)
  | .b :: .s :: ks, .wid _ y _ :: l, .val (.bool b) :: .val (.string s) :: m => andO (decide (y < 0) == b && decide ((⟨(mag y.natAbs).toArray⟩ : ByteArray) = s)) l (eqL ks l m)
  | .b :: .s :: ks, .val (.bool b) :: .val (.string s) :: l, .wid _ z _ :: m => andO (b == decide (z < 0) && decide (s = (⟨(mag z.natAbs).toArray⟩ : ByteArray))) l (eqL ks l m)
  | .i .i64 :: ks, .int a _ :: l, .int b _ :: m => andO (decide (a = b)) l (eqL ks l m)
  | .i k :: ks, .val (.int i a) :: l, .val (.int j b) :: m => if i = k ∧ j = k then andO (decide (a = b)) l (eqL ks l m) else none
  | .b :: ks, .val (.bool a) :: l, .val (.bool b) :: m => andO (a == b) l (eqL ks l m)
  | .s :: ks, .val (.string a) :: l, .val (.string b) :: m => andO (decide (a = b)) l (eqL ks l m)
  | _, _, _ => none
def pureO : Sem Value → Option Eff
  | .pure v => some (.val (.c (.val v)))
  | _ => none
def binS (T : TypeId → Option TI) (op : BinOp) (t : TypeId) (x y : SV) : Option Eff :=
  match x, y with
  | .c (.int a ha), .c (.int b _) =>
    match op with
    | .add => iv (a + b)
    | .sub => iv (a - b)
    | .mul => iv (a * b)
    | .eql => bv (decide (a = b))
    | .neq => bv (!decide (a = b))
    | .lss => bv (decide (a < b))
    | .leq => bv (decide (a ≤ b))
    | .gtr => bv (decide (b < a))
    | .geq => bv (decide (b ≤ a))
    | .quo => if b = 0 then none else iv (a.tdiv b)
    | .rem => if b = 0 then none else some (.val (.c (.int (a.tmod b) (ha.tmod b))))
    | _ => none
  | .agg l, .agg m =>
    match T t with
    | some { eq := some ks, .. } => (match op, eqL ks l m with | .eql, some b => bv b | .neq, some b => bv (!b) | _, _ => none)
    | _ => none
  | .c (.val (.bool a)), .c (.val (.bool b)) => (match T t with
    | some { sh := .bool, .. } => (match op with | .eql => bv (a == b) | .neq => bv (!(a == b)) | _ => none)
    | _ => none)
  | .c (.val (.string a)), .c (.val (.string b)) => pureO (binOp op t (.string a) (.string b))
  | .c (.val (.int k a)), .c (.val (.int j b)) => pureO (binOp op t (.int k a) (.int j b))
  | _, _ => none
def ptrs : List SV → Option (List (Nat × Nat))
  | [] => some []
  | .c (.ptr b o) :: l => (match ptrs l with | some m => some ((b, o) :: m) | none => none)
  | _ => none
def natOf : SV → Option Nat
  | .c (.int (.ofNat i) _) => some i
  | _ => none
def selB (t : Bool) (x y : SV) : SV := match t with | true => x | false => y
def eff (T : TypeId → Option TI) (op : Op) (ev : Operand → SV) (hp : Nat → Option Blk) : Option Eff :=
  match op with
  | .move x => some (.val (ev x))
  | .assign x => some (.val (ev x))
  | .pick c a b => (match ev c with
    | .c (.val (.bool t)) => (match ev a, ev b with
      | .c (.val (.bool x)), .c (.val (.bool y)) => bv (cond t x y)
      | x, y => some (.val (selB t x y)))
    | _ => none)
  | .alloc t => (match T t with
    | some ti => some (.new { ty := t, ro := false, cs := ti.zero } fun n => .c (.ptr n 0))
    | none => none)
  | .box t x => (match (ev x).ch with
    | some l => if allOne l then some (.new { ty := t, ro := false, cs := l } fun n => .c (.ptr n 0)) else none
    | none => none)
  | .buildSlice t len parts => (match T t with
    | some { sh := .slice e esz ez, .. } => (match fillC (fun i => some (i * esz, esz)) (repC len ez) (parts.toList.map fun p => (p.1, ev p.2)) with
      | some cs => if h : IR len ∧ len * esz ≤ 16777216 then some (.new { ty := e, ro := false, cs := cs } fun n => .c (.sli n 0 len len h.1)) else none
      | none => none)
    | _ => none)
  | .load t x => (match ev x, T t with
    | .c (.ptr b off), some ti => (match hp b with
      | some blk => (match partC ti.agg blk.cs off ti.size with | some v => some (.val v) | none => none)
      | none => none)
    | _, _ => none)
  | .store t x y => (match ev x, (ev y).ch, T t with
    | .c (.ptr b off), some l, some ti => if sizeC l = ti.size ∧ allOne l = true then (match hp b with
      | some blk => if blk.ro then none else (match spliceC blk.cs off l with | some cs => some (.put b cs) | none => none)
      | none => none) else none
    | _, _, _ => none)
  | .build t parts => (match T t with
    | some { sh := .struct fs, zero := z, .. } => (match fillC (fun i => match nthO fs i with | some (o, n, _) => some (o, n) | none => none) z (parts.toList.map fun p => (p.1, ev p.2)) with
      | some cs => some (.val (.agg cs))
      | none => none)
    | some { sh := .array _ esz _, zero := z, .. } => (match fillC (fun i => some (i * esz, esz)) z (parts.toList.map fun p => (p.1, ev p.2)) with
      | some cs => some (.val (.agg cs))
      | none => none)
    | _ => none)
  | .binOp op t x y _ => binS T op t (ev x) (ev y)
  | .unOp op _ x => (match op, ev x with
    | .not, .c (.val (.bool b)) => bv (!b)
    | .neg, .c (.int a _) => iv (0 - a)
    | op, .c (.val (.int k a)) => pureO (Op.unary op (.int k a))
    | _, _ => none)
  | .convert s d x => (match T s, T d, ev x with
    | some _, some { sh := .int .i64, .. }, .c (.int a _) => iv a
    | some _, some { sh := .int .i64, .. }, .c (.val (.int _ a)) => iv a
    | some _, some { sh := .int k, .. }, .c (.int a _) => some (.val (.c (.val (.int k (k.wrap a)))))
    | some _, some { sh := .int k, .. }, .c (.val (.int _ a)) => some (.val (.c (.val (.int k (k.wrap a)))))
    | _, _, _ => none)
  | .fieldAddr t x f => (match T t, ev x with
    | some { sh := .struct fs, .. }, .c (.ptr b off) => (match nthO fs f with
      | some (o, n, _) => if n = 0 then none else some (.val (.c (.ptr b (off + o))))
      | none => none)
    | _, _ => none)
  | .field t x f => (match T t, ev x with
    | some { sh := .struct fs, .. }, .agg l => (match nthO fs f with
      | some (o, n, a) => (match partC a l o n with | some v => some (.val v) | none => none)
      | none => none)
    | _, _ => none)
  | .indexAddr t x i => (match T t, ev x, natOf (ev i) with
    | some { sh := .array n esz _, .. }, .c (.ptr b off), some i => if i < n then some (.val (.c (.ptr b (off + i * esz)))) else none
    | some { sh := .slice _ esz _, .. }, .c (.sli b off len _ _), some i => if i < len then some (.val (.c (.ptr b (off + i * esz)))) else none
    | _, _, _ => none)
  | .index t x i => (match T t, ev x, natOf (ev i) with
    | some { sh := .array n esz a, .. }, .agg l, some i => if i < n then (match partC a l (i * esz) esz with | some v => some (.val v) | none => none) else none
    | _, _, _ => none)
  | .extract x i => (match ev x with
    | .tup l => (match nthO l i with | some t => some (.val t.sv) | none => none)
    | _ => none)
  | .makeFunc fn first captured => (match fn, first.toList, ptrs (captured.toList.map ev) with
    | .func f, [], some ps => some (.val (.c (.fn f ps)))
    | _, _, _ => none)
  | .call c => (match c.callee, c.args.toList, c.argTypes.toList with
    | .builtin .len, [x], [t] => (match T t, ev x with
      | some { sh := .slice _ _ _, .. }, .c (.sli _ _ len _ h) => some (.val (.c (.int len h)))
      | some { sh := .slice _ _ _, .. }, .c (.val (.slice _ len _)) => if h : IR len then some (.val (.c (.int len h))) else none
      | _, _ => none)
    | _, _, _ => none)
  | _ => none

/-- what is known of the functions that are called: what is owed, and what comes back -/
structure Env where
  T : TypeId → Option TI
  un : Nat
  D : FuncId → List SV → (Nat → Option Blk) → Option (Option Prop × SV)

def putK (d : Option Tmp) (v : SV) (tm : List SV) (K : List SV → Prop) : Prop :=
  match d with
  | some t => updK tm t v K
  | none => K tm
def callee (ev : Operand → SV) (c : Call) : Option (FuncId × List SV) :=
  match c.callee with
  | .value f => (match ev f with
    | .c (.fn f caps) => some (f, c.args.toList.map ev ++ caps.map fun p => .c (.ptr p.1 p.2))
    | _ => none)
  | _ => none
/-- the reckoner stops here -/
inductive Bad (o : Oper) (why : Nat) (ev : List SV) : Prop
def opEv (o : Oper) (tm : List SV) : List SV := o.op.operands.toList.map (evm tm)
/-- one operation -/
def vcOp (E : Env) (H : FuncId → List SV → List Blk → (SV → List Blk → Prop) → Prop) (o : Oper) (tm : List SV) (hp : List Blk) (K : List SV → List Blk → Prop) : Prop :=
  match eff E.T o.op (evm tm) (nthO hp) with
  | some (.val v) => v.force fun v => putK o.dst v tm fun tm => K tm hp
  | some (.new b v) => forceL b.cs fun cs => snocK hp { ty := b.ty, ro := b.ro, cs := cs } fun hp' => (v hp.length).force fun v => putK o.dst v tm fun tm => K tm hp'
  | some (.put b cs) => forceL cs fun cs => (match nthO hp b with | some blk => updK hp b { ty := blk.ty, ro := blk.ro, cs := cs } fun hp => putK o.dst uv tm fun tm => K tm hp | none => Bad o 1 (opEv o tm))
  | none => (match o.op with
    | .call c => (match callee (evm tm) c with
      | some (f, args) => (match E.D f args (nthO hp) with
        | some (none, v) => v.force fun v => putK o.dst v tm fun tm => K tm hp
        | some (some p, v) => p ∧ v.force fun v => putK o.dst v tm fun tm => K tm hp
        | none => H f args hp fun v hp => v.force fun v => putK o.dst v tm fun tm => K tm hp)
      | none => Bad o 2 (opEv o tm))
    | _ => Bad o 3 (opEv o tm))
def guardS (all : Array Oper) (j : Nat) : Option Tmp :=
  match nthO all.toList j with
  | some o => o.dst
  | none => none
def vcOps (E : Env) (H : FuncId → List SV → List Blk → (SV → List Blk → Prop) → Prop) (all : Array Oper) : List Oper → List SV → List Blk → (List SV → List Blk → Prop) → Prop
  | [], tm, hp, K => K tm hp
  | o :: os, tm, hp, K =>
    match o.guard with
    | none => vcOp E H o tm hp fun tm hp => vcOps E H all os tm hp K
    | some (j, want) => (match guardS all j with
      | some t => (match nth uv tm t with
        | .c (.val (.bool b)) => (match want with
          | true => bcase b (updK tm t (.c (.val (.bool true))) fun tm => vcOp E H o tm hp fun tm hp => vcOps E H all os tm hp K) (updK tm t (.c (.val (.bool false))) fun tm => putK o.dst uv tm fun tm => vcOps E H all os tm hp K)
          | false => bcase b (updK tm t (.c (.val (.bool true))) fun tm => putK o.dst uv tm fun tm => vcOps E H all os tm hp K) (updK tm t (.c (.val (.bool false))) fun tm => vcOp E H o tm hp fun tm hp => vcOps E H all os tm hp K))
        | _ => Bad o 4 (opEv o tm))
      | none => Bad o 5 (opEv o tm))
/-- where a piece of code ends -/
inductive SE where
  | normal
  | exit (id : Nat)
  | ret
def rounds (b : List SV → List Blk → (SE → List SV → List Blk → Prop) → Prop) (Q : SE → List SV → List Blk → Prop) : Nat → List SV → List Blk → Prop
  | 0, _, _ => False
  | n + 1, tm, hp => b tm hp fun e tm hp => (match e with | .normal => rounds b Q n tm hp | .exit id => Q (.exit id) tm hp | .ret => Q .ret tm hp)
/-- no look at blocks from number m on -/
def lowP (m : Nat) : List (Nat × Nat) → Bool
  | [] => true
  | p :: l => decide (p.1 < m) && lowP m l
def C.low (m : Nat) : C → Bool
  | .ptr b _ => decide (b < m)
  | .sli b _ _ _ _ => decide (b < m)
  | .fn _ caps => lowP m caps
  | _ => true
def lowL (m : Nat) : List C → Bool
  | [] => true
  | x :: l => x.low m && lowL m l
def SV.low (m : Nat) : SV → Bool
  | .c x => x.low m
  | .agg l => lowL m l
  | .tup _ => false
def lowB (m : Nat) : List Blk → Bool
  | [] => true
  | b :: l => lowL m b.cs && lowB m l
/-- the blocks from number m on are forgotten -/
def inB : List Nat → Nat → Bool
  | [], _ => false
  | a :: l, i => a == i || inB l i
def fgtK (keep : List Nat) (m : Nat) (vs : Nat → Value) : Nat → List SV → (List SV → Prop) → Prop
  | _, [], K => K []
  | i, x :: l, K => (match inB keep i with
    | false => fgtK keep m vs (i + 1) l fun l => K (.c (.val (vs i)) :: l)
    | true => (match x.low m with
      | true => fgtK keep m vs (i + 1) l fun l => K (x :: l)
      | false => fgtK keep m vs (i + 1) l fun l => K (.c (.val (vs i)) :: l)))
def takeK : Nat → List Blk → (List Blk → Prop) → Prop
  | 0, _, K => K []
  | _ + 1, [], K => K []
  | m + 1, b :: l, K => takeK m l fun l => K (b :: l)
/-- what denotes the same -/
def SameTm : List SV → List SV → Prop
  | [], [] => True
  | x :: l, y :: m => (∀ ρ, x.den ρ = y.den ρ) ∧ SameTm l m
  | _, _ => False
def SameHp : List Blk → List Blk → Prop
  | [], [] => True
  | b :: l, c :: m => (b.ty = c.ty ∧ b.ro = c.ro ∧ ∀ ρ, cellsL ρ b.cs = cellsL ρ c.cs) ∧ SameHp l m
  | _, _ => False
def loopQ (un : Nat) (b : List SV → List Blk → (SE → List SV → List Blk → Prop) → Prop) (tm : List SV) (hp : List Blk) (Q : SE → List SV → List Blk → Prop) : Prop :=
  match un with
  | n + 1 => rounds b Q (n + 1) tm hp
  | 0 => (∃ n, rounds b Q n tm hp) ∨ ∃ (I : Nat → List SV → List Blk → Prop) (n0 : Nat) (keep : List Nat), (∃ tm2 hp2, SameTm tm tm2 ∧ SameHp hp hp2 ∧ I n0 tm2 hp2) ∧
    ∀ n tm' hp', I n tm' hp' → b tm' hp' fun e tm' hp' => (match e with
      | .normal => ∃ n', n' < n ∧ ∀ vs, takeK hp.length hp' fun hp' => (match lowB hp.length hp' with | true => fgtK keep hp.length vs 0 tm' fun tm' => ∃ tm2 hp2, SameTm tm' tm2 ∧ SameHp hp' hp2 ∧ I n' tm2 hp2 | false => False)
      | .exit id => Q (.exit id) tm' hp'
      | .ret => Q .ret tm' hp')
/-- in a region that draws its order: does the operation wait for number j? -/
def waits (o : Oper) (j : Nat) : Bool := o.after.toList.any fun e => decide (e.on = j) && Region.binds .any e
def isStore : Op → Bool
  | .store _ _ _ => true
  | _ => false
def lkN : List (Nat × Nat) → Nat → Option Nat
  | [], _ => none
  | (a, b) :: l, n => if a = n then some b else lkN l n
def okPut (n0 : Nat) (o : Oper) (al : List (Nat × Nat)) (b : Nat) : Bool :=
  decide (b < n0) || (match lkN al b with | some j => waits o j | none => false)
/-- the blocks that an operation may look into: those of the start, and those whose making it waits for -/
def hfR (n0 : Nat) (o : Oper) (al : List (Nat × Nat)) (hp : List Blk) : Nat → Option Blk := fun b => if okPut n0 o al b = true then nthO hp b else none
/-! may a store stand beside the looks ahead of it? -/
def maskOf : List Edge → List Nat → Nat
  | [], _ => 0
  | e :: es, acc => (if Region.binds .any e = true then 2 ^ e.on ||| nth 0 acc e.on else 0) ||| maskOf es acc
def masksA : List Oper → List Nat → List Nat
  | [], acc => acc
  | o :: os, acc => masksA os (acc ++ [maskOf o.after.toList acc])
def reading : Op → Bool
  | .load _ _ => true
  | .call c => (match c.callee with | .builtin _ => false | _ => true)
  | .select _ _ => true
  | _ => false
def lateL (ms : List Nat) (al : List (Nat × Nat)) (b n0 i : Nat) : Nat → List Oper → Bool
  | _, [] => true
  | j, a :: l => (decide (i ≤ j) || !reading a.op || (nth 0 ms i).testBit j || (decide (n0 ≤ b) && (match lkN al b with | some k => !waits a k | none => false))) && lateL ms al b n0 i (j + 1) l
def vcDop (E : Env) (all : Array Oper) (hp0 : List Blk) (o : Oper) (i : Nat) (al : List (Nat × Nat)) (tm : List SV) (hp : List Blk) (K : List (Nat × Nat) → List SV → List Blk → Prop) : Prop :=
  match isStore o.op with
  | true => (match eff E.T o.op (evm tm) (nthO hp) with
    | some (.put b cs) => if (okPut hp0.length o al b && lateL (masksA all.toList []) al b hp0.length i 0 all.toList) = true then
        (forceL cs fun cs => (match nthO hp b with | some blk => updK hp b { ty := blk.ty, ro := blk.ro, cs := cs } fun hp => putK o.dst uv tm fun tm => K al tm hp | none => Bad o 6 (opEv o tm))) else Bad o 7 (opEv o tm)
    | _ => Bad o 8 (opEv o tm))
  | false => (match eff E.T o.op (evm tm) (hfR hp0.length o al hp) with
    | some (.val v) => v.force fun v => putK o.dst v tm fun tm => K al tm hp
    | some (.new b v) => forceL b.cs fun cs => snocK hp { ty := b.ty, ro := b.ro, cs := cs } fun hp' => (v hp.length).force fun v => putK o.dst v tm fun tm => K ((hp.length, i) :: al) tm hp'
    | some (.put _ _) => Bad o 9 (opEv o tm)
    | none => (match o.op with
      | .call c => (match callee (evm tm) c with
        | some (f, args) => (match E.D f args (hfR hp0.length o al hp) with
          | some (none, v) => v.force fun v => putK o.dst v tm fun tm => K al tm hp
          | some (some p, v) => p ∧ v.force fun v => putK o.dst v tm fun tm => K al tm hp
          | none => Bad o 10 (opEv o tm))
        | none => Bad o 11 (opEv o tm))
      | _ => Bad o 12 (opEv o tm)))
def vcDs (E : Env) (all : Array Oper) (hp0 : List Blk) : List Oper → Nat → List (Nat × Nat) → List SV → List Blk → (List SV → List Blk → Prop) → Prop
  | [], _, _, tm, hp, K => K tm hp
  | o :: os, i, al, tm, hp, K =>
    match o.guard with
    | none => vcDop E all hp0 o i al tm hp fun al tm hp => vcDs E all hp0 os (i + 1) al tm hp K
    | some (j, want) => (match guardS all j with
      | some t => (match nth uv tm t with
        | .c (.val (.bool b)) => (match want with
          | true => bcase b (updK tm t (.c (.val (.bool true))) fun tm => vcDop E all hp0 o i al tm hp fun al tm hp => vcDs E all hp0 os (i + 1) al tm hp K) (updK tm t (.c (.val (.bool false))) fun tm => putK o.dst uv tm fun tm => vcDs E all hp0 os (i + 1) al tm hp K)
          | false => bcase b (updK tm t (.c (.val (.bool true))) fun tm => putK o.dst uv tm fun tm => vcDs E all hp0 os (i + 1) al tm hp K) (updK tm t (.c (.val (.bool false))) fun tm => vcDop E all hp0 o i al tm hp fun al tm hp => vcDs E all hp0 os (i + 1) al tm hp K))
        | _ => Bad o 13 (opEv o tm))
      | none => Bad o 14 (opEv o tm))
def vcC (E : Env) (H : FuncId → List SV → List Blk → (SV → List Blk → Prop) → Prop) : Code → List SV → List Blk → (SE → List SV → List Blk → Prop) → Prop
  | .skip, tm, hp, Q => Q .normal tm hp
  | .ret, tm, hp, Q => Q .ret tm hp
  | .exit id, tm, hp, Q => Q (.exit id) tm hp
  | .seq a b, tm, hp, Q => vcC E H a tm hp fun e tm hp => (match e with | .normal => vcC E H b tm hp Q | .exit id => Q (.exit id) tm hp | .ret => Q .ret tm hp)
  | .cond c x y, tm, hp, Q => (match evm tm c with
    | .c (.val (.bool b)) => bcase b (vcC E H x tm hp Q) (vcC E H y tm hp Q)
    | _ => False)
  | .block id c, tm, hp, Q => vcC E H c tm hp fun e tm hp => (match e with | .normal => Q .normal tm hp | .exit i => if i = id then Q .normal tm hp else Q (.exit i) tm hp | .ret => Q .ret tm hp)
  | .loop c, tm, hp, Q => loopQ E.un (fun tm hp Q => vcC E H c tm hp Q) tm hp Q
  | .region _ ops draw, tm, hp, Q => (match draw with
    | false => vcOps E H ops ops.toList tm hp fun tm hp => Q .normal tm hp
    | true => vcDs E ops hp ops.toList 0 [] tm hp fun tm hp => Q .normal tm hp)
  | _, _, _, _ => False
/-- what a function hands back -/
def resV (T : TypeId → Option TI) (r : ResultVar) (tm : List SV) (hp : List Blk) : Option T1 :=
  match r with
  | .tmp t => (match nth uv tm t with | .c x => some (.c x) | .agg l => some (.agg l) | .tup _ => none)
  | .cell a t => (match nth uv tm a, T t with
    | .c (.ptr b off), some ti => (match nthO hp b with
      | some blk => (match partC ti.agg blk.cs off ti.size with | some (.c x) => some (.c x) | some (.agg l) => some (.agg l) | _ => none)
      | none => none)
    | _, _ => none)
def resL (T : TypeId → Option TI) : List ResultVar → List SV → List Blk → (List T1 → Prop) → Prop
  | [], _, _, K => K []
  | r :: rs, tm, hp, K => (match resV T r tm hp with | some v => v.force fun v => resL T rs tm hp fun l => K (v :: l) | none => False)
def retQ (T : TypeId → Option TI) (rs : List ResultVar) (tm : List SV) (hp : List Blk) (K : SV → List Blk → Prop) : Prop :=
  resL T rs tm hp fun l => (match l with | [v] => K v.sv hp | l => K (.tup l) hp)
def padK : Nat → (List SV → Prop) → Prop
  | 0, K => K []
  | n + 1, K => padK n fun l => K (uv :: l)
def appK : List SV → List SV → (List SV → Prop) → Prop
  | [], l, K => K l
  | x :: m, l, K => appK m l fun l => K (x :: l)
/-- a function's body, from its arguments on -/
def vcF (E : Env) (H : FuncId → List SV → List Blk → (SV → List Blk → Prop) → Prop) (fn : Func) (args : List SV) (hp : List Blk) (K : SV → List Blk → Prop) : Prop :=
  match fn.body with
  | some c => padK (fn.ntmps - args.length) fun pad => appK args pad fun tm => vcC E H c tm hp fun e tm hp => (match e with
    | .normal => retQ E.T fn.results.toList tm hp K
    | .ret => retQ E.T fn.results.toList tm hp K
    | .exit _ => False)
  | none => False
/-- functions that are walked in place -/
def inl (E : Env) (F : FuncId → Option Func) : Nat → FuncId → List SV → List Blk → (SV → List Blk → Prop) → Prop
  | 0, _, _, _, _ => False
  | n + 1, f, args, hp, K => (match F f with | some fn => vcF E (inl E F n) fn args hp K | none => False)
end Go.Proofs.YtapppahniablmaaDoor
