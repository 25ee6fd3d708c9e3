/- Functions that hand values to the rounds of a loop, walked by the reckoner. The reckoner: families: memory of the caller's that is only read, pieces unknown in number; blocks of one's own that become such. The reckoner: two families of one's own become one, ahead of a call. The reckoner: pieces of families that are written, or become blocks of one's own again; addresses in words. The reckoner: freezing and calls that tell where pieces do not lie. The reckoner: blocks forgotten ahead of a call. Maps of the walk's own, by the reckoner: made, looked up, a new entry. The reckoner: callers that hand over what is made of slices; calls whose own blocks are forgotten behind them. The reckoner: clear of elements of more than one cell. -/
import Derived.Test.YthmdmbpecgakkaaDoorEnb
import Derived.Test.YthmdmbpecgakkaaDoorEno
import Derived.Maps.Keyed
namespace Go.Proofs.YthmdmbpecgakkaaDoor
open Go Go.RowKit
set_option maxRecDepth 100000

def inN : List Nat → Nat → Bool
 | [], _ => false
 | a :: l, i => (match Nat.beq a i with | true => true | false => inN l i)
def fgt (keep : List Nat) (vs : Nat → Value) : Nat → List SV → List SV
 | _, [] => []
 | i, x :: l => (match inN keep i with | true => x | false => .c (.val (vs i))) :: fgt keep vs (i + 1) l
theorem fgt_den (keep : List Nat) (ρ : Rho) : ∀ (tm : List SV) (i : Nat) (f : Nat → Value), (∀ j x, tm[j]? = some x → f (i + j) = x.den ρ) → (fgt keep f i tm).map (SV.den ρ) = tm.map (SV.den ρ)
 | [], _, _, _ => rfl
 | x :: l, i, f, h => by
  unfold fgt
  rw [List.map_cons, List.map_cons, fgt_den keep ρ l (i + 1) f fun j y hj => by have := h (j + 1) y hj; rwa [show i + 1 + j = i + (j + 1) by omega]]
  have h0 : f i = x.den ρ := h 0 x rfl
  cases inN keep i with
  | true => rfl
  | false => show (SV.c (.val (f i))).den ρ :: _ = _; rw [h0]; rfl
def denN (ρ : Rho) (tm : List SV) (i : Nat) : Value := match nthO tm i with | some x => x.den ρ | none => undef
theorem fgt_denN (keep : List Nat) (ρ : Rho) (tm : List SV) : (fgt keep (denN ρ tm) 0 tm).map (SV.den ρ) = tm.map (SV.den ρ) :=
 fgt_den keep ρ tm 0 _ fun j x hj => by unfold denN; rw [Nat.zero_add, nthO_eq, hj]
def yOp (o : Oper) (tm : List SV) : Option (Nat × List SV) :=
 match o.op with
 | .call c => (match c.callee with
  | .value f => (match evm tm f with
   | .c (.val (.func (.yield m) ⟨[]⟩ ⟨[]⟩)) => some (m, c.args.toList.map (evm tm))
   | _ => none)
  | _ => none)
 | _ => none
section
variable (E : Env) (H : FuncId → List SV → List Blk → (SV → List Blk → Prop) → Prop) (l : Nat) (xs : List (List SV)) (hpI : List Blk)
def Clo (hp : List Blk) (tm : List SV) : Prop := ∀ ρ ρ', Agr (nthO hp) ρ ρ' → tm.map (SV.den ρ) = tm.map (SV.den ρ')
theorem Clo.put {hp : List Blk} {tm : List SV} (h : Clo hp tm) (d : Option Tmp) (b : Bool) : Clo hp (match d with | some t => tm.set t (.c (.val (.bool b))) | none => tm) := fun ρ ρ' hρ => by
 cases d with
 | none => exact h ρ ρ' hρ
 | some t => simp only [List.map_set, h ρ ρ' hρ]; rfl
def vcI1 (o : Oper) (st : Bool) (k : Nat) (tm : List SV) (hp : List Blk) (K : Bool → Nat → List SV → List Blk → Prop) : Prop :=
 match yOp o tm with
 | some (m, args) => (m = l ∧ st = false ∧ k < xs.length ∧ ∀ ρ, args.map (SV.den ρ) = (nth [] xs k).map (SV.den ρ)) ∧ ∃ keep, ∀ vs, Clo hpI (fgt keep vs 0 tm) ∧
   (putK o.dst (.c (.val (.bool true))) (fgt keep vs 0 tm) fun tm => K false (k + 1) tm hpI) ∧
   ∃ keep2, ∀ vs2, Clo [] (fgt keep2 vs2 0 (fgt keep vs 0 tm)) ∧ putK o.dst (.c (.val (.bool false))) (fgt keep2 vs2 0 (fgt keep vs 0 tm)) fun tm => K true k tm []
 | none => vcOp E H o tm hp fun tm hp => K st k tm hp
def vcIops (all : Array Oper) : List Oper → Bool → Nat → List SV → List Blk → (Bool → Nat → List SV → List Blk → Prop) → Prop
 | [], st, k, tm, hp, K => K st k tm hp
 | o :: os, st, k, tm, hp, K =>
  match o.guard with
  | none => vcI1 E H l xs hpI o st k tm hp fun st k tm hp => vcIops all os st k tm hp K
  | some (j, want) => (match guardS all j with
   | some t => (match nth uv tm t with
    | .c (.val (.bool b)) => (match want with
     | true => bcase b (updK tm t (.c (.val (.bool true))) fun tm => vcI1 E H l xs hpI o st k tm hp fun st k tm hp => vcIops all os st k tm hp K) (updK tm t (.c (.val (.bool false))) fun tm => putK o.dst uv tm fun tm => vcIops all os st k tm hp K)
     | false => bcase b (updK tm t (.c (.val (.bool true))) fun tm => putK o.dst uv tm fun tm => vcIops all os st k tm hp K) (updK tm t (.c (.val (.bool false))) fun tm => vcI1 E H l xs hpI o st k tm hp fun st k tm hp => vcIops all os st k tm hp K))
    | .c (.val (.tuple _)) => putK o.dst uv tm fun tm => vcIops all os st k tm hp K
    | _ => False)
   | none => False)
def vcI : Code → Bool → Nat → List SV → List Blk → (SE → Bool → Nat → List SV → List Blk → Prop) → Prop
 | .skip, st, k, tm, hp, Q => Q .normal st k tm hp
 | .ret, st, k, tm, hp, Q => Q .ret st k tm hp
 | .exit id, st, k, tm, hp, Q => Q (.exit id) st k tm hp
 | .seq a b, st, k, tm, hp, Q => vcI a st k tm hp fun e st k tm hp => (match e with | .normal => vcI b st k tm hp Q | .exit id => Q (.exit id) st k tm hp | .ret => Q .ret st k tm hp)
 | .cond c x y, st, k, tm, hp, Q => (match evm tm c with
  | .c (.val (.bool b)) => bcase b (vcI x st k tm hp Q) (vcI y st k tm hp Q)
  | _ => False)
 | .block id c, st, k, tm, hp, Q => vcI c st k tm hp fun e st k tm hp => (match e with | .normal => Q .normal st k tm hp | .exit i => if i = id then Q .normal st k tm hp else Q (.exit i) st k tm hp | .ret => Q .ret st k tm hp)
 | .region _ ops false, st, k, tm, hp, Q => vcIops E H l xs hpI ops ops.toList st k tm hp fun st k tm hp => Q .normal st k tm hp
 | .region id ops true, st, k, tm, hp, Q => vcR E H id ops.toList ops.toList tm hp fun tm hp => Q .normal st k tm hp
 | .loop c, st, k, tm, _, Q => st = false ∧ ∃ I : Nat → Nat → List SV → Prop,
   (∃ keep, ∀ vs, Clo hpI (fgt keep vs 0 tm) ∧ ∃ m, I m k (fgt keep vs 0 tm)) ∧
   ∀ m k tm, I m k tm → vcI c false k tm hpI fun e st k tm hp => (match e with
    | .normal => st = false ∧ ∃ keep, ∀ vs, Clo hpI (fgt keep vs 0 tm) ∧ ∃ m', m' < m ∧ I m' k (fgt keep vs 0 tm)
    | .exit id => Q (.exit id) st k tm hp
    | .ret => Q .ret st k tm hp)
 | _, _, _, _, _, _ => False
end
def okI : Code → Bool
 | .region _ ops true => okR ops.toList ops.toList && ops.toList.all nodef
 | .region _ ops false => ops.toList.all nodef
 | .seq a b => okI a && okI b
 | .cond _ a b => okI a && okI b
 | .block _ c => okI c
 | .loop c => okI c
 | .skip => true
 | .ret => true
 | .exit _ => true
 | _ => false
theorem yield_call {o : Oper} {c : Call} {f : Operand} (ho : o.op = .call c) (hc : c.callee = .value f) {ρ : Operand → Value} {l : Nat} (hf : ρ f = .func (.yield l) #[] #[]) {xs : Array Value} (hx : c.args.map ρ = xs) (P : Program) (w : World) : (execOp ρ o).run P w = (Instr.yield l xs).run P w := by
 subst hx
 obtain ⟨ce, xs, ts⟩ := c
 simp only at hc
 subst hc
 simp only [execOp, ho, resolve, hf, Deferred.ofValue, Sem.run_bind, Sem.run_pure, Result.andThen_ok, invoke]
 simp
section
variable {P : Program} {E : Env} (hE : EOk P E) (hm : P.follows .mixedOrders = true) {H : FuncId → List SV → List Blk → (SV → List Blk → Prop) → Prop} (hH : HOk P H)
variable {l : Nat} {xs : List (List SV)} {hpI : List Blk} {ρI : Rho} {J : Nat → World → Prop} {Jx : World → Prop}
def GoodI (hpI : List Blk) (ρI : Rho) (w : World) : Prop := ∀ i b, nthO hpI i = some b → b.ro = true ∧ b.mapOf = none ∧ (∀ ρ, Agr (nthO hpI) ρ ρI → Holds ρ b i w) ∧ (b.void = false → (ρI i).1 < w.heap.size) ∧ ∀ o l, b.famOf = some (o, l) → ∀ e ∈ l, FamAt w.heap.size w o e
variable (hJ : ∀ k A B, J k A → A.grownBy B none → J k B) (hX : ∀ A B, Jx A → A.grownBy B none → Jx B) (hG : ∀ k A, J k A → GoodI hpI ρI A)
 (hY : ∀ k A, J k A → k < xs.length → YieldAt Fence.wide 0 P l (((nth [] xs k).map (SV.den ρI)).toArray) A fun e B => (e = .returned (.bool true) ∧ J (k + 1) B) ∨ (e = .returned (.bool false) ∧ Jx B))
def bsI (hpI : List Blk) (ρI : Rho) (st : Bool) (w : World) : Base := ⟨w, fun i => st = false ∧ (nthO hpI i).isSome = true, ρI, 0⟩
def RelI (J : Nat → World → Prop) (Jx : World → Prop) (hpI : List Blk) (ρI : Rho) (st : Bool) (k : Nat) (tm : List SV) (hp : List Blk) (a : Act) (w : World) : Prop :=
 ∃ W0, (if st = true then Jx W0 else J k W0) ∧ RelS W0.heap.size (bsI hpI ρI st W0) tm hp a w
def QI (J : Nat → World → Prop) (Jx : World → Prop) (hpI : List Blk) (ρI : Rho) (Q : SE → Bool → Nat → List SV → List Blk → Prop) : Exit → Act → World → Prop
 | .normal, a, w => ∃ st k tm hp, Q .normal st k tm hp ∧ RelI J Jx hpI ρI st k tm hp a w
 | .exit id, a, w => ∃ st k tm hp, Q (.exit id) st k tm hp ∧ RelI J Jx hpI ρI st k tm hp a w
 | .ret, a, w => ∃ st k tm hp, Q .ret st k tm hp ∧ RelI J Jx hpI ρI st k tm hp a w
 | _, _, _ => False
theorem QI_out {Q : SE → Bool → Nat → List SV → List Blk → Prop} : ¬ LetsOut (QI J Jx hpI ρI Q) := fun ⟨_, _, h⟩ => h
theorem relS_grown {st : Bool} {tm : List SV} {hp : List Blk} {a : Act} {W0 w : World} (h : RelS W0.heap.size (bsI hpI ρI st W0) tm hp a w) : W0.grownBy w none ∧ a.defers = [] := by
 obtain ⟨ρ1, hh, ht, M, hM, -, -, hD⟩ := h
 refine ⟨⟨hh.bel.below.os, hh.bel.below.tape, hh.bel.below.output, hh.bel.below.size, fun k hk _ => hh.bel.below.block k hk⟩, ?_⟩
 rw [hM]
 cases M with
 | nil => rfl
 | cons D M =>
  obtain ⟨h1, -, h2⟩ := hD D List.mem_cons_self
  have : D < W0.heap.size := (Array.getElem?_eq_some_iff.1 h2).1
  omega
theorem relS_start {tm : List SV} {a : Act} {w : World} (hg : GoodI hpI ρI w) (hc : Clo hpI tm) (ha : a.tmps.toList = tm.map (SV.den ρI)) (hd : a.defers = []) : RelS w.heap.size (bsI hpI ρI false w) tm hpI a w := by
 refine ⟨ρI, ⟨fun i b hi hv => (hg i b hi).2.2.2.1 hv, fun i b hi ho => ?_, fun i j b c hi ho => ?_, fun ρ hρ i b hi => (hg i b hi).2.2.1 ρ hρ, BelO.refl _ _, Nat.le_refl _, fun i hi => ⟨hi.2, rfl⟩, fun i b e hi he => ?_, fun i j b c hi _ hb => ?_, fun i b o l e hi hb he => ⟨(hg i b hi).2.2.2.2 o l hb e he, fun j c hj hc => ?_⟩⟩, fun ρ hρ => ha.trans (hc ρI ρ fun i hi => (hρ i hi).symm), by rw [hd]; exact Marks.nil _ _ (Nat.zero_le _)⟩
 ·rw [(hg i b hi).1] at ho; cases ho
 ·rw [(hg i b hi).1] at ho; cases ho
 ·rw [(hg i b hi).2.1] at he; cases he
 ·rw [(hg i b hi).2.1] at hb; cases hb
 ·rw [(hg j c hj).1] at hc; cases hc
theorem relS_stop {tm : List SV} {a : Act} {w : World} (hc : Clo [] tm) (ha : a.tmps.toList = tm.map (SV.den ρI)) (hd : a.defers = []) : RelS w.heap.size (bsI hpI ρI true w) tm [] a w := by
 have h0 : ∀ {i : Nat} {b : Blk}, nthO ([] : List Blk) i = some b → False := fun h => by simp [nthO] at h
 exact ⟨ρI, ⟨fun i b hi => (h0 hi).elim, fun i b hi => (h0 hi).elim, fun i j b c hi => (h0 hi).elim, fun ρ _ i b hi => (h0 hi).elim, BelO.refl _ _, Nat.le_refl _, fun i hi => (by cases hi.1), fun i b e hi => (h0 hi).elim, fun i j b c hi => (h0 hi).elim, fun i b o l e hi => (h0 hi).elim⟩, fun ρ hρ => ha.trans (hc ρI ρ fun i hi => by simp [nthO] at hi), by rw [hd]; exact Marks.nil _ _ (Nat.zero_le _)⟩
variable (hpure : ∀ x ∈ xs, ∀ y ∈ x, ∀ ρ ρ', y.den ρ = y.den ρ')
include hE hH hJ hG hY hpure
theorem vcI1_ok {o : Oper} (hnd : nodef o = true) {st : Bool} {k : Nat} {tm : List SV} {hp : List Blk} {K : Bool → Nat → List SV → List Blk → Prop} (h : vcI1 E H l xs hpI o st k tm hp K) {a : Act} {w : World} (hr : RelI J Jx hpI ρI st k tm hp a w)
  {next : Act → World → Prop} {Q : Exit → Act → World → Prop} (hn : ∀ st k tm hp a w, K st k tm hp → RelI J Jx hpI ρI st k tm hp a w → next a w) : o.wpIn (FR none) 0 P a w next Q := by
 obtain ⟨W0, hw0, hr⟩ := hr
 unfold vcI1 at h
 split at h
 ·rename_i m args hyo
  obtain ⟨⟨hml, rfl, hk, hargs⟩, keep, h⟩ := h
  have hml : l = m := hml.symm
  subst hml
  have hj : J k W0 := hw0
  obtain ⟨hgr, hde⟩ := relS_grown hr
  have hjw : J k w := hJ k _ _ hj hgr
  obtain ⟨ρ1, hh, ht, -⟩ := hr
  have hta := ht ρ1 (Agr.refl _ _)
  obtain ⟨hclo, h1, keep2, h2⟩ := h (denN ρ1 tm)
  have hag : Agr (nthO hpI) ρ1 ρI := fun i hi => (hh.ext i ⟨rfl, hi⟩).2
  have htm1 : a.tmps.toList = (fgt keep (denN ρ1 tm) 0 tm).map (SV.den ρI) := hta.trans ((fgt_denN keep ρ1 tm).symm.trans (hclo ρ1 ρI hag))
  unfold yOp at hyo
  split at hyo
  ·rename_i c hop
   split at hyo
   ·rename_i f hcal
    split at hyo
    ·rename_i m' hf
     cases hyo
     obtain ⟨fn, tmps, asg, body, yr1, yr2⟩ := hY k w hjw hk
     have he : o.semAt (FR none).round a.eval = execOp a.eval o := by
      unfold nodef at hnd
      unfold Oper.semAt
      split
      ·rename_i h1 h2; rw [h2] at hnd; cases hnd
      ·rfl
     have hpur : (nth [] xs k).map (SV.den ρI) = (nth [] xs k).map (SV.den ρ1) := by
      have hx : nth [] xs k ∈ xs := by
       rw [nth_eq, List.getElem?_eq_getElem hk]
       exact List.getElem_mem hk
      exact List.map_congr_left fun y hy => hpure _ hx y hy ρI ρ1
     have hrun : ((o.semAt (FR none).round a.eval).run P w) = .ok (.round l fn tmps asg body) w := by
      rw [he, ← yr1, eval_ok hta]
      refine yield_call (ρ := evr (evm tm) ρ1) hop hcal (l := l) ?_ ?_ P w
      ·show (evm tm f).den ρ1 = _
       rw [hf]; rfl
      ·rw [hpur, ← hargs ρ1]
       apply Array.ext'
       simp [evr]
     refine ⟨fun _ _ => trivial, ?_⟩
     rw [hrun]
     refine ⟨(fun h => by cases h), RoundIn.mono (F := Fence.wide) yr2 ?_⟩
     rintro e B (⟨rfl, hjb⟩ | ⟨rfl, hxb⟩)
     ·rw [putK_eq] at h1
      exact hn _ _ _ _ _ _ h1 ⟨B, hjb, relS_start (hG _ _ hjb) (hclo.put _ _) (put_ok htm1 o.dst (.c (.val (.bool true))) rfl) ((put_defers _ _ _).trans hde)⟩
     ·obtain ⟨hc2, h2⟩ := h2 (denN ρI (fgt keep (denN ρ1 tm) 0 tm))
      rw [putK_eq] at h2
      exact hn _ _ _ _ _ _ h2 ⟨B, hxb, relS_stop (hc2.put _ _) (put_ok (htm1.trans (fgt_denN keep2 ρI _).symm) o.dst (.c (.val (.bool false))) rfl) ((put_defers _ _ _).trans hde)⟩
    ·cases hyo
   ·cases hyo
  ·cases hyo
 ·exact oper_round none hnd (vcOp_ok hE hH h hr fun tm' hp' a' w' hK hr' => hn _ _ _ _ _ _ hK ⟨W0, hw0, hr'⟩)
omit hE hH hJ hG hY hpure in
theorem relI_put {st : Bool} {k : Nat} {tm : List SV} {hp : List Blk} {a : Act} {w : World} (hr : RelI J Jx hpI ρI st k tm hp a w) (d : Option Tmp) : RelI J Jx hpI ρI st k (match d with | some t => tm.set t uv | none => tm) hp (a.put d undef) w := by
 obtain ⟨W0, hw0, ρ0, hh, ht, hd⟩ := hr
 exact ⟨W0, hw0, RelS.put ht hd hh (fun i hi => ⟨hi, rfl⟩) d fun ρ _ => rfl⟩
theorem vcIops_ok {all : Array Oper} {K : Bool → Nat → List SV → List Blk → Prop} {Q : Exit → Act → World → Prop} (hQ : ∀ st k tm hp a w, K st k tm hp → RelI J Jx hpI ρI st k tm hp a w → Q .normal a w) :
  ∀ (os : List Oper) (_ : os.all nodef = true) (st : Bool) (k : Nat) (tm : List SV) (hp : List Blk), vcIops E H l xs hpI all os st k tm hp K → ∀ a w, RelI J Jx hpI ρI st k tm hp a w → wpListIn (FR none) 0 P all Q os a w
 | [], _, st, k, tm, hp, h, a, w, hr => hQ _ _ _ _ _ _ h hr
 | o :: os, hnd, st, k, tm, hp, h, a, w, hr => by
  simp only [List.all_cons, Bool.and_eq_true] at hnd
  unfold vcIops at h
  unfold wpListIn
  split at h
  ·rename_i hg
   rw [if_pos (by simp [Region.wanted, hg])]
   exact vcI1_ok hE hH hJ hG hY hpure hnd.1 h hr fun st k tm hp a w hK hr' => vcIops_ok hQ os hnd.2 st k tm hp hK a w hr'
  ·rename_i j want hg
   split at h
   ·rename_i t hgs
    split at h
    ·rename_i b hb
     have hy : yielded all a.tmps j = some b := by
      obtain ⟨_, _, ρ0, -, ht, -⟩ := hr
      exact yielded_ok hgs (ht ρ0 (Agr.refl _ _)) hb
     have hw : Region.wanted o (yielded all a.tmps) = (b == want) := by
      unfold Region.wanted
      rw [hg]
      simp only [hy]
      cases b <;> cases want <;> rfl
     have run : vcI1 E H l xs hpI o st k tm hp (fun st k tm hp => vcIops E H l xs hpI all os st k tm hp K) → o.wpIn (FR none) 0 P a w (wpListIn (FR none) 0 P all Q os) Q := fun h =>
      vcI1_ok hE hH hJ hG hY hpure hnd.1 h hr fun st k tm hp a w hK hr' => vcIops_ok hQ os hnd.2 st k tm hp hK a w hr'
     have skip : putK o.dst uv tm (fun tm => vcIops E H l xs hpI all os st k tm hp K) → wpListIn (FR none) 0 P all Q os (a.put o.dst undef) w := fun h => by
      rw [putK_eq] at h
      exact vcIops_ok hQ os hnd.2 st k _ hp h _ _ (relI_put hr o.dst)
     split at h
     ·obtain ⟨h1, h2⟩ := bcase_of h
      rw [updK_eq] at h1 h2
      cases b with
      | true => rw [if_pos (by rw [hw]; rfl)]; exact run (by rw [set_same hb (bool_ne _)] at h1; exact h1 rfl)
      | false => rw [if_neg (by rw [hw]; simp)]; exact ⟨fun _ _ => trivial, skip (by rw [set_same hb (bool_ne _)] at h2; exact h2 rfl)⟩
     ·obtain ⟨h1, h2⟩ := bcase_of h
      rw [updK_eq] at h1 h2
      cases b with
      | true => rw [if_neg (by rw [hw]; simp)]; exact ⟨fun _ _ => trivial, skip (by rw [set_same hb (bool_ne _)] at h1; exact h1 rfl)⟩
      | false => rw [if_pos (by rw [hw]; rfl)]; exact run (by rw [set_same hb (bool_ne _)] at h2; exact h2 rfl)
    ·rename_i l hb
     have hy : yielded all a.tmps j = none := by
      obtain ⟨_, _, ρ0, -, ht, -⟩ := hr
      exact yielded_no hgs (ht ρ0 (Agr.refl _ _)) hb
     have hw : Region.wanted o (yielded all a.tmps) = false := by
      unfold Region.wanted
      rw [hg]
      simp only [hy]
      cases want <;> rfl
     rw [if_neg (by rw [hw]; simp)]
     rw [putK_eq] at h
     exact ⟨fun _ _ => trivial, vcIops_ok hQ os hnd.2 st k _ hp h _ _ (relI_put hr o.dst)⟩
    ·cases h
   ·cases h
omit hE hH hY hpure in
theorem relI_again {k : Nat} {tm : List SV} {hp : List Blk} {a : Act} {w : World} (hr : RelI J Jx hpI ρI false k tm hp a w) {X : List SV → Prop} (h : ∃ keep, ∀ vs, Clo hpI (fgt keep vs 0 tm) ∧ X (fgt keep vs 0 tm)) : ∃ tm1, X tm1 ∧ RelI J Jx hpI ρI false k tm1 hpI a w := by
 obtain ⟨W0, hw0, hr⟩ := hr
 obtain ⟨keep, h⟩ := h
 have hj : J k W0 := hw0
 obtain ⟨hgr, hde⟩ := relS_grown hr
 have hjw : J k w := hJ k _ _ hj hgr
 obtain ⟨ρ1, hh, ht, -⟩ := hr
 have hta := ht ρ1 (Agr.refl _ _)
 obtain ⟨hclo, hx⟩ := h (denN ρ1 tm)
 have hag : Agr (nthO hpI) ρ1 ρI := fun i hi => (hh.ext i ⟨rfl, hi⟩).2
 exact ⟨_, hx, w, hjw, relS_start (hG _ _ hjw) hclo (hta.trans ((fgt_denN keep ρ1 tm).symm.trans (hclo ρ1 ρI hag))) hde⟩
include hm in
theorem vcI_ok : ∀ (c : Code) (_ : okI c = true) (st : Bool) (k : Nat) (tm : List SV) (hp : List Blk) (Q : SE → Bool → Nat → List SV → List Blk → Prop), vcI E H l xs hpI c st k tm hp Q → ∀ a w, RelI J Jx hpI ρI st k tm hp a w → c.wpIn (FR none) 0 P (QI J Jx hpI ρI Q) a w
 | .skip, _, st, k, tm, hp, Q, h, a, w, hr => wpIn_skip ⟨st, k, tm, hp, h, hr⟩
 | .ret, _, st, k, tm, hp, Q, h, a, w, hr => wpIn_ret ⟨st, k, tm, hp, h, hr⟩
 | .exit id, _, st, k, tm, hp, Q, h, a, w, hr => wpIn_exit ⟨st, k, tm, hp, h, hr⟩
 | .seq x y, hk, st, k, tm, hp, Q, h, a, w, hr => by
  simp only [okI, Bool.and_eq_true] at hk
  refine wpIn_seq (wpIn_mono (vcI_ok x hk.1 st k tm hp _ h a w hr) fun e a' w' hq => ?_)
  cases e with
  | normal => obtain ⟨st', k', tm', hp', h1, h2⟩ := hq; exact vcI_ok y hk.2 st' k' tm' hp' Q h1 a' w' h2
  | exit id => exact hq
  | ret => exact hq
  | goto l => exact hq.elim
  | panic c => exact hq.elim
  | outgrown => exact hq.elim
 | .cond c x y, hk, st, k, tm, hp, Q, h, a, w, hr => by
  simp only [okI, Bool.and_eq_true] at hk
  unfold vcI at h
  split at h
  ·rename_i b hb
   have he : a.eval c = .bool b := by
    obtain ⟨w1, -, ρ0, -, ht, -⟩ := hr
    rw [eval_ok (ht ρ0 (Agr.refl _ _)), evr, hb]; rfl
   obtain ⟨h1, h2⟩ := bcase_of h
   exact wpIn_cond_split he (fun hb => vcI_ok x hk.1 st k tm hp Q (h1 hb) a w hr) (fun hb => vcI_ok y hk.2 st k tm hp Q (h2 hb) a w hr)
  ·cases h
 | .block id c, hk, st, k, tm, hp, Q, h, a, w, hr => by
  refine wpIn_block (wpIn_mono (vcI_ok c hk st k tm hp _ h a w hr) fun e a' w' hq => ?_)
  cases e with
  | normal => exact hq
  | exit id' =>
   obtain ⟨st', k', tm', hp', h1, h2⟩ := hq
   simp only at h1
   show if id' = id then _ else _
   split
   ·rename_i e; rw [if_pos e] at h1; exact ⟨st', k', tm', hp', h1, h2⟩
   ·rename_i e; rw [if_neg e] at h1; exact ⟨st', k', tm', hp', h1, h2⟩
  | ret => exact hq
  | goto l => exact hq.elim
  | panic c => exact hq.elim
  | outgrown => exact hq.elim
 | .loop c, hk, st, k, tm, hp, Q, h, a, w, hr => by
  simp only [okI] at hk
  unfold vcI at h
  obtain ⟨rfl, I, hent, hround⟩ := h
  have lex : ∀ m k tm, I m k tm → ∀ a w, RelI J Jx hpI ρI false k tm hpI a w → Code.roundsIn (FR none) 0 P c (QI J Jx hpI ρI Q) (m + 1) a w := by
   intro m
   induction m using Nat.strongRecOn with
   | _ m ihm =>
    intro k tm hI a w hr
    rw [roundsIn_succ]
    refine wpIn_mono (vcI_ok c hk false k tm hpI _ (hround m k tm hI) a w hr) fun e a' w' hq => ?_
    cases e with
    | normal =>
     obtain ⟨st', k', tm', hp', h2, h3⟩ := hq
     obtain ⟨rfl, h2⟩ := h2
     obtain ⟨tm2, ⟨m', h1, hI2⟩, h4⟩ := relI_again hJ hG h3 (X := fun t => ∃ m', m' < m ∧ I m' k' t) h2
     exact roundsIn_mono (by omega) (ihm m' h1 k' tm2 hI2 a' w' h4)
    | exit id => exact hq
    | ret => exact hq
    | goto l => exact hq.elim
    | panic c => exact hq.elim
    | outgrown => exact hq.elim
  obtain ⟨tm2, ⟨m, h0⟩, hr2⟩ := relI_again hJ hG hr (X := fun t => ∃ m, I m k t) hent
  exact wpIn_loop_rounds _ (lex m k tm2 h0 a w hr2)
 | .region id ops draw, hk, st, k, tm, hp, Q, h, a, w, hr => by
  cases draw with
  | true =>
   unfold vcI at h
   have hk : (okR ops.toList ops.toList && ops.toList.all nodef) = true := hk
   obtain ⟨hk, hnd⟩ := Bool.and_eq_true_iff.1 hk
   obtain ⟨W0, hw0, hr⟩ := hr
   have key := vcR_ok hE hH (Q := QI J Jx hpI ρI Q) (fun _ _ _ _ h => h) (fun tm' hp' a' w' h1 h2 => ⟨st, k, tm', hp', h1, W0, hw0, h2⟩) ops.toList ops.toList hk h hr.drew
   simp only [Array.toArray_toList, Array.length_toList] at key
   exact wpIn_region_any hm (any_round none QI_out hnd key)
  | false =>
   unfold vcI at h
   exact wpIn_region_list (vcIops_ok hE hH hJ hG hY hpure (fun st k tm hp a w h1 h2 => ⟨st, k, tm, hp, h1, h2⟩) ops.toList hk st k tm hp h a w hr)
 | .rangeFunc _ _ _ _, hk, _, _, _, _, _, _, _, _, _ => by cases hk
 | .scope _, hk, _, _, _, _, _, _, _, _, _ => by cases hk
 | .label _, hk, _, _, _, _, _, _, _, _, _ => by cases hk
 | .goto _, hk, _, _, _, _, _, _, _, _, _ => by cases hk
end
theorem iter_ok {P : Program} {E : Env} (hE : EOk P E) (hm : P.follows .mixedOrders = true) {H : FuncId → List SV → List Blk → (SV → List Blk → Prop) → Prop} (hH : HOk P H) {f : FuncId} {fn : Func} (hfn : P.funcs[f]? = some fn) {c : Code} (hc : fn.body = some c) (hk : okI c = true) (hres : fn.results = #[])
  {xs : List (List SV)} (hpure : ∀ x ∈ xs, ∀ y ∈ x, ∀ ρ ρ', y.den ρ = y.den ρ') {hpI : List Blk} {ρ ρI : Rho} {lb : Array Value} {caps : List SV} {G : World → Prop} (hG : ∀ w, G w → GoodI hpI ρI w) (hlb : lb.toList = caps.map (SV.den ρI)) (hcl : Clo hpI caps)
  (h : ∀ l, vcI E H l xs hpI c false 0 (.c (.val (.func (.yield l) #[] #[])) :: (caps ++ List.replicate (fn.ntmps - (caps.length + 1)) uv)) hpI fun e st k _ _ => (match e with | .exit _ => False | _ => st = true ∨ k = xs.length)) :
  IterOk P f lb (fun k => ((nth [] xs k).map (SV.den ρ)).toArray) xs.length G := fun l J Jx W hJ hX hGJ hY h0 => by
 refine callsIn_of_wp hfn (c := c) hc trivial ?_ rfl
 have hg0 := hG _ (hGJ _ _ h0)
 have hrel : RelI J Jx hpI ρI false 0 (.c (.val (.func (.yield l) #[] #[])) :: (caps ++ List.replicate (fn.ntmps - (caps.length + 1)) uv)) hpI { tmps := #[.func (.yield l) #[] #[]] ++ lb ++ Array.replicate (fn.ntmps - (#[Value.func (.yield l) #[] #[]] ++ lb).size) undef, defers := [] } W := by
  have hsz : lb.size = caps.length := by rw [← Array.length_toList, hlb, List.length_map]
  refine ⟨W, h0, relS_start hg0 (fun ρ ρ' hρ => ?_) ?_ rfl⟩
  ·simp only [List.map_cons, List.map_append, List.map_replicate, hcl ρ ρ' hρ]; rfl
  ·simp only [Array.toList_append, hlb, List.map_cons, List.map_append, List.map_replicate, Array.toList_replicate, Array.size_append, hsz]
   rw [List.append_assoc, show (#[Value.func (.yield l) #[] #[]] : Array Value).size + caps.length = caps.length + 1 from Nat.add_comm _ _]
   rfl
 refine wpIn_mono (vcI_ok hE hm hH hJ (fun k A h => hG _ (hGJ k A h)) (fun k A hA hk => ?_) hpure c hk false 0 _ _ _ (h l) _ _ hrel) fun e a' W' hq => ?_
 ·have e : (nth [] xs k).map (SV.den ρI) = (nth [] xs k).map (SV.den ρ) := by
   have hx : nth [] xs k ∈ xs := by
    rw [nth_eq, List.getElem?_eq_getElem hk]
    exact List.getElem_mem hk
   exact List.map_congr_left fun y hy => hpure _ hx y hy ρI ρ
  rw [e]; exact hY k A hA hk
 ·have fin : ∀ {st k tm hp}, RelI J Jx hpI ρI st k tm hp a' W' → (st = true ∨ k = xs.length) → a'.defers = [] ∧ ∃ v, (results fn a'.tmps).run P W' = .ok v W' ∧ (∃ v', Ending.returned v = .returned v') ∧ (J xs.length W' ∨ Jx W') := fun {st k tm hp} hr hs => by
   obtain ⟨W0, hw0, hr⟩ := hr
   obtain ⟨hgr, hde⟩ := relS_grown hr
   refine ⟨hde, _, results_none hres _ _ _, ⟨_, rfl⟩, ?_⟩
   cases st with
   | true => exact .inr (hX _ _ hw0 hgr)
   | false =>
    rcases hs with hs | rfl
    ·cases hs
    ·exact .inl (hJ _ _ _ hw0 hgr)
  cases e with
  | normal => obtain ⟨st, k, tm, hp, h1, h2⟩ := hq; exact fin h2 h1
  | ret => obtain ⟨st, k, tm, hp, h1, h2⟩ := hq; exact fin h2 h1
  | exit id => obtain ⟨_, _, _, _, h1, _⟩ := hq; exact h1.elim
  | goto l => exact hq.elim
  | panic c => exact hq.elim
  | outgrown => exact hq.elim
theorem keepR_one {b : Nat} {l : List Nat} {hp hp' : List Blk} {ty : TypeId} {ro : Bool} {cs cs' : List C} {tl : Nat} (h1 : nthO hp b = some ⟨.t ty, ro, cs, tl⟩) (h2 : nthO hp' b = some ⟨.t ty, ro, cs', tl⟩) (hc : ∀ ρ, cellsL ρ cs = cellsL ρ cs') (h : keepR l hp hp') : keepR (b :: l) hp hp' := by
 unfold keepR
 rw [h1, h2]
 exact ⟨⟨rfl,rfl,rfl⟩, hc, h⟩
theorem keepR_fam {b : Nat} {l : List Nat} {hp hp' : List Blk} {f g : List Ent} {k : Nat} (h1 : nthO hp b = some ⟨.x f, true, [], k⟩) (h2 : nthO hp' b = some ⟨.x g, true, [], k⟩) (hc : ∃ m, g = f ++ m) (h : keepR l hp hp') : keepR (b :: l) hp hp' := by
 unfold keepR
 rw [h1, h2]
 exact ⟨rfl, hc, h⟩
theorem rangeK_ind {n0 : Nat} {ps : List Tmp} {ds : List Nat} {b : List SV → List Blk → (SE → List SV → List Blk → Prop) → Prop} {tm : List SV} {Q : SE → List SV → List Blk → Prop} {xs : List (List SV)} {G : Type} (P : Nat → G → Prop) (B : Nat → G → List Blk)
  (hround : ∀ k (hk : k < xs.length) g, P k g → ∀ (R : List Blk → Prop), (∀ g', P (k + 1) g' → R (B (k + 1) g')) → setPs ps xs[k] tm fun tm1 => b tm1 (B k g) fun e _ hp' => (match e with
   | .normal => againR n0 hp' fun hp' => keepR ds (B k g) hp' ∧ R hp'
   | .exit id => Q (.exit id) tm hp'
   | .ret => Q .ret tm hp'))
  (hend : ∀ g, P xs.length g → Q .normal tm (B xs.length g)) (g : G) (hg : P 0 g) : rangeK n0 ps ds b tm Q xs (B 0 g) := by
 have key : ∀ (m k : Nat), m + k = xs.length → ∀ g, P k g → rangeK n0 ps ds b tm Q (xs.drop k) (B k g) := by
  intro m
  induction m with
  | zero =>
   intro k hk g hg
   obtain rfl : k = xs.length := by omega
   rw [List.drop_length]
   exact hend g hg
  | succ m ih =>
   intro k hk g hg
   have hlt : k < xs.length := by omega
   rw [List.drop_eq_getElem_cons hlt]
   exact hround k hlt g hg _ fun g' hg' => ih (k + 1) (by omega) g' hg'
 exact key xs.length 0 rfl g hg
end Go.Proofs.YthmdmbpecgakkaaDoor

namespace Go.Proofs.YthmdmbpecgakkaaDoor
open Go.RowKit

section
variable {N : Nat} {w0 : Base} {hf : Nat → Option Blk} {ρ0 : Rho} {w : World}
/-- a block that is only read, at a place that was there before -/
theorem HRel.addAt (h : HRel N w0 hf ρ0 w) {n : Nat} (hn : hf n = none) {v : Blk} (hro : v.ro = true) (htl : v.tl = 0) (hp : PureL v.cs) (p : Nat × Nat)
    (hv : v.void = true ∨ (p.1 < w.heap.size ∧ (∀ j c, hf j = some c → c.ro = false → (ρ0 j).1 ≠ p.1) ∧ w.rangeAt p.1 p.2 (cellsL ρ0 v.cs))) : HRel N w0 (upF hf n v) (upR ρ0 n p) w := by
  have hne : ∀ {i : Nat} {c : Blk}, i ≠ n → upF hf n v i = some c → hf i = some c := fun hi hc => by unfold upF at hc; rwa [if_neg hi] at hc
  have hat : ∀ {c : Blk}, upF hf n v n = some c → c = v := fun hc => by unfold upF at hc; rw [if_pos rfl] at hc; cases hc; rfl
  have rn : upR ρ0 n p n = p := by unfold upR; rw [if_pos rfl]
  have ri : ∀ {i : Nat}, i ≠ n → upR ρ0 n p i = ρ0 i := fun hi => by unfold upR; rw [if_neg hi]
  refine ⟨fun i b hi hv2 => ?_, fun i b hi ho => ?_, fun i j b c hi ho hj hv2 hij => ?_, fun ρ hρ i b hi => ?_, h.bel, h.big, fun i hi => ?_, fun i b e hi he => ?_, fun i j b c hi hj hb hc hij => ?_, h.fam.up (fun i b hi hm => ?_) fun j c hj hc => ?_⟩
  · by_cases e : i = n
    · subst e; rw [rn]
      rcases hv with h1 | h1
      · rw [hat hi, h1] at hv2; cases hv2
      · exact h1.1
    · rw [ri e]; exact h.old i b (hne e hi) hv2
  · by_cases e : i = n
    · subst e; rw [hat hi, hro] at ho; cases ho
    · rw [ri e]; exact h.own i b (hne e hi) ho
  · by_cases ei : i = n
    · subst ei; rw [hat hi, hro] at ho; cases ho
    · by_cases ej : j = n
      · subst ej
        rw [rn, ri ei]
        rcases hv with h1 | h1
        · rw [hat hj, h1] at hv2; cases hv2
        · exact (h1.2.1 i b (hne ei hi) ho).symm
      · rw [ri ei, ri ej]; exact h.apart i j b c (hne ei hi) ho (hne ej hj) hv2 hij
  · by_cases e : i = n
    · subst e
      have := hat hi
      subst this
      have hρn : ρ i = p := by rw [hρ i (by rw [hi]; rfl), rn]
      rcases hv with h1 | h1
      · exact Holds.void h1 ρ i w
      · refine ⟨?_, fun h0 => by rw [hro] at h0; cases h0⟩
        have hp2 : cellsL ρ b.cs = cellsL ρ0 b.cs := hp ρ ρ0
        rw [hρn, hp2]; exact h1.2.2
    · exact h.holds ρ (fun k hk => by
        have hkn : k ≠ n := fun e => by rw [e, hn] at hk; cases hk
        rw [hρ k (by unfold upF; rw [if_neg hkn]; exact hk), ri hkn]) i b (hne e hi)
  · have := h.ext i hi
    have hin : i ≠ n := fun e => by rw [e, hn] at this; exact absurd this.1 (by simp)
    exact ⟨by unfold upF; rw [if_neg hin]; exact this.1, by rw [ri hin]; exact this.2⟩
  · by_cases e2 : i = n
    · subst e2; rw [hat hi, map_tl htl] at he; cases he
    · rw [ri e2]; exact h.maps i b e (hne e2 hi) he
  · by_cases ei : i = n
    · subst ei; rw [hat hi, map_tl htl] at hb; cases hb
    · by_cases ej : j = n
      · subst ej; rw [hat hj, map_tl htl] at hc; cases hc
      · rw [ri ei, ri ej]; exact h.mapA i j b c (hne ei hi) (hne ej hj) hb hc hij
  · by_cases ei : i = n
    · subst ei; rw [hat hi, fam_tl htl] at hm; cases hm
    · exact ⟨i, b, hne ei hi, rfl⟩
  · by_cases ej : j = n
    · subst ej; rw [hat hj, hro] at hc; cases hc
    · exact .inl ⟨j, c, hne ej hj, hc, by rw [ri ej]⟩
/-- the same cells in other words -/
theorem HRel.turn (h : HRel N w0 hf ρ0 w) {x : Nat} {c d : Blk} (hx : hf x = some c) (hc : c.ro = false) (hd : d.ty = c.ty ∧ d.ro = false ∧ d.tl = c.tl) (hcs : ∀ ρ, Agr hf ρ ρ0 → cellsL ρ d.cs = cellsL ρ c.cs) : HRel N w0 (upF hf x d) ρ0 w := by
  have hup : ∀ i b, upF hf x d i = some b → (i = x ∧ b = d) ∨ (i ≠ x ∧ hf i = some b) := fun i b hi => by
    unfold upF at hi
    split at hi
    · rename_i e; cases hi; exact .inl ⟨e, rfl⟩
    · rename_i e; exact .inr ⟨e, hi⟩
  have hagr : ∀ ρ, Agr (upF hf x d) ρ ρ0 → Agr hf ρ ρ0 := fun ρ hρ i hi => hρ i (by unfold upF; split; rfl; exact hi)
  refine ⟨fun i b hi hv => ?_, fun i b hi ho => ?_, fun i j b e hi ho hj hv hij => ?_, fun ρ hρ i b hi => ?_, h.bel, h.big, fun i hi => ?_, fun i b e hi he => ?_, fun i j b e hi hj hb he hij => ?_, h.fam.up (fun i b hi hm => ?_) fun j b hj hb => ?_⟩
  · rcases hup i b hi with ⟨rfl, rfl⟩ | ⟨_, hi⟩
    · exact h.old i c hx (own_live hc)
    · exact h.old i b hi hv
  · rcases hup i b hi with ⟨rfl, rfl⟩ | ⟨_, hi⟩
    · exact h.own i c hx hc
    · exact h.own i b hi ho
  · rcases hup i b hi with ⟨rfl, rfl⟩ | ⟨_, hi1⟩ <;> rcases hup j e hj with ⟨rfl, rfl⟩ | ⟨_, hj1⟩
    · exact absurd rfl hij
    · exact h.apart i j c e hx hc hj1 hv hij
    · exact h.apart i j b c hi1 ho hx (own_live hc) hij
    · exact h.apart i j b e hi1 ho hj1 hv hij
  · rcases hup i b hi with ⟨rfl, rfl⟩ | ⟨_, hi⟩
    · have := h.holds ρ (hagr ρ hρ) i c hx
      unfold Holds at this ⊢
      rw [hcs ρ (hagr ρ hρ), hd.1, hd.2.2]
      exact ⟨this.1, fun _ => this.2 hc⟩
    · exact h.holds ρ (hagr ρ hρ) i b hi
  · obtain ⟨h1, h2⟩ := h.ext i hi
    refine ⟨?_, h2⟩
    unfold upF; split
    · rfl
    · exact h1
  · rcases hup i b hi with ⟨rfl, rfl⟩ | ⟨_, hi⟩
    · rw [map_ro hd.2.1] at he; cases he
    · exact h.maps i b e hi he
  · rcases hup i b hi with ⟨rfl, rfl⟩ | ⟨_, hi⟩
    · rw [map_ro hd.2.1] at hb; cases hb
    · rcases hup j e hj with ⟨rfl, rfl⟩ | ⟨_, hj⟩
      · rw [map_ro hd.2.1] at he; cases he
      · exact h.mapA i j b e hi hj hb he hij
  · rcases hup i b hi with ⟨rfl, rfl⟩ | ⟨_, hi⟩
    · rw [fam_ro hd.2.1] at hm; cases hm
    · exact ⟨i, b, hi, rfl⟩
  · rcases hup j b hj with ⟨rfl, rfl⟩ | ⟨_, hj⟩
    · exact .inl ⟨j, c, hx, hc, rfl⟩
    · exact .inl ⟨j, b, hj, hb, rfl⟩
/-- a family put in a block's place -/
theorem HRel.ghost (h : HRel N w0 hf ρ0 w) {fb : Nat} {l : List Ent} (hl : ∀ e ∈ l, FamAt N w true e ∧ ∀ j c, j ≠ fb → hf j = some c → c.ro = false → (ρ0 j).1 ≠ e.a.1) : HRel N w0 (upF hf fb ⟨.x l, true, [], 2⟩) ρ0 w := by
  have hup : ∀ i b, upF hf fb ⟨.x l, true, [], 2⟩ i = some b → (i = fb ∧ b = ⟨.x l, true, [], 2⟩) ∨ (i ≠ fb ∧ hf i = some b) := fun i b hi => by
    unfold upF at hi
    split at hi
    · rename_i e; cases hi; exact .inl ⟨e, rfl⟩
    · rename_i e; exact .inr ⟨e, hi⟩
  have hagr : ∀ ρ, Agr (upF hf fb ⟨.x l, true, [], 2⟩) ρ ρ0 → Agr hf ρ ρ0 := fun ρ hρ i hi => hρ i (by unfold upF; split; rfl; exact hi)
  refine ⟨fun i b hi hv => ?_, fun i b hi ho => ?_, fun i j b e hi ho hj hv hij => ?_, fun ρ hρ i b hi => ?_, h.bel, h.big, fun i hi => ?_, fun i b e hi he => ?_, fun i j b e hi hj hb he hij => ?_, fun i b o l' e hi hm he => ?_⟩
  · rcases hup i b hi with ⟨rfl, rfl⟩ | ⟨_, hi⟩
    · cases hv
    · exact h.old i b hi hv
  · rcases hup i b hi with ⟨rfl, rfl⟩ | ⟨_, hi⟩
    · cases ho
    · exact h.own i b hi ho
  · rcases hup i b hi with ⟨rfl, rfl⟩ | ⟨_, hi⟩
    · cases ho
    · rcases hup j e hj with ⟨rfl, rfl⟩ | ⟨_, hj⟩
      · cases hv
      · exact h.apart i j b e hi ho hj hv hij
  · rcases hup i b hi with ⟨rfl, rfl⟩ | ⟨_, hi⟩
    · exact Holds.void rfl ρ i w
    · exact h.holds ρ (hagr ρ hρ) i b hi
  · obtain ⟨h1, h2⟩ := h.ext i hi
    refine ⟨?_, h2⟩
    unfold upF; split
    · rfl
    · exact h1
  · rcases hup i b hi with ⟨rfl, rfl⟩ | ⟨_, hi⟩
    · cases he
    · exact h.maps i b e hi he
  · rcases hup i b hi with ⟨rfl, rfl⟩ | ⟨_, hi⟩
    · cases hb
    · rcases hup j e hj with ⟨rfl, rfl⟩ | ⟨_, hj⟩
      · cases he
      · exact h.mapA i j b e hi hj hb he hij
  · have own : ∀ j c, upF hf fb ⟨.x l, true, [], 2⟩ j = some c → c.ro = false → j ≠ fb ∧ hf j = some c := fun j c hj hc => by
      rcases hup j c hj with ⟨rfl, rfl⟩ | ⟨h1, hj⟩
      · cases hc
      · exact ⟨h1, hj⟩
    rcases hup i b hi with ⟨rfl, rfl⟩ | ⟨_, hi⟩
    · cases hm
      exact ⟨(hl e he).1, fun j c hj hc => (hl e he).2 j c (own j c hj hc).1 (own j c hj hc).2 hc⟩
    · have := h.fam i b o l' e hi hm he
      exact ⟨this.1, fun j c hj hc => this.2 j c (own j c hj hc).2 hc⟩
end
/-- the address of block b put in words -/
def frzC (b r : Nat) : C → C
  | .sli nl b' off len cap h => (match Nat.beq b' b with
    | true => .val (.slice (nlA nl ⟨r, off, none⟩) len cap)
    | false => .sli nl b' off len cap h)
  | x => x
def frzL (b r : Nat) : List C → List C
  | [] => []
  | x :: l => frzC b r x :: frzL b r l
theorem frzC_cells {b r : Nat} {ρ : Rho} (h : ρ b = (r, 0)) (x : C) : (frzC b r x).cells ρ = x.cells ρ := by
  unfold frzC
  split
  · split
    · rename_i e
      have := Nat.eq_of_beq_eq_true e
      subst this
      simp only [C.cells, h, Nat.zero_add]
    · rfl
  · rfl
theorem frzL_cells {b r : Nat} {ρ : Rho} (h : ρ b = (r, 0)) : ∀ l : List C, cellsL ρ (frzL b r l) = cellsL ρ l
  | [] => rfl
  | x :: l => by rw [frzL, cellsL_cons, cellsL_cons, frzC_cells h, frzL_cells h l]
/-- a block of one's own, b, becomes a piece of the family fb; the cells of block x speak of it by its address -/
def frzK (hp : List Blk) (fb b x : Nat) (K : List Blk → Prop) : Prop :=
  match nthO hp fb, nthO hp b, nthO hp x with
  | some ⟨.x l, true, [], 2⟩, some ⟨.t ty1, false, cs, tl1⟩, some ⟨ty2, false, cs2, tl2⟩ => (PureL cs ∧ Nat.beq b x = false ∧ Nat.beq fb x = false) ∧ ∀ r, updK hp fb ⟨.x (l ++ [⟨(r, 0), cs, ty1, tl1⟩]), true, [], 2⟩ fun hp => updK hp b ⟨.t 0, true, [], 0⟩ fun hp => forceL (frzL b r cs2) fun cs3 => updK hp x ⟨ty2, false, cs3, tl2⟩ K
  | _, _, _ => False
/-- what is known stays known -/
def Frz (N : Nat) (w0 : Base) (ρ0 : Rho) (w : World) (hp hp' : List Blk) : Prop := HRel N w0 (nthO hp') ρ0 w ∧ ∀ i, (nthO hp' i).isSome = (nthO hp i).isSome
theorem frzK_ok {hp : List Blk} {fb b x : Nat} {K : List Blk → Prop} (h : frzK hp fb b x K) {N : Nat} {w0 : Base} {ρ0 : Rho} {w : World} (hh : HRel N w0 (nthO hp) ρ0 w) : ∃ hp', K hp' ∧ Frz N w0 ρ0 w hp hp' := by
  unfold frzK at h
  split at h
  · rename_i l t cs tl ty2 cs2 tl2 hfb hb hx
    obtain ⟨⟨hpure, hbx, hfx⟩, h⟩ := h
    have hbx : b ≠ x := fun e => by subst e; rw [Nat.beq_refl] at hbx; cases hbx
    have hfx : fb ≠ x := fun e => by subst e; rw [Nat.beq_refl] at hfx; cases hfx
    have hfbb : fb ≠ b := fun e => by subst e; rw [hfb] at hb; cases hb
    have h := h (ρ0 b).1
    simp only [updK_eq, forceL_eq] at h
    obtain ⟨h01, t0, ht0, hheap⟩ := (hh.holds ρ0 (Agr.refl _ _) b _ hb).2 rfl
    have hlt := hh.old b _ hb rfl
    have e1 : FamAt N w true ⟨((ρ0 b).1, 0), cs, t, tl⟩ := by
      have h3 : cellsL (fun _ => (0, 0)) cs = cellsL ρ0 cs := hpure _ _
      refine ⟨hpure, ⟨_, hheap, rfl⟩, fun _ => ⟨hh.own b _ hb rfl, rfl, t0, ht0, by rw [h3]; exact hheap⟩, ?_, fun h => (by cases h)⟩
      have h2 := (hh.holds ρ0 (Agr.refl _ _) b _ hb).1
      show w.rangeAt (ρ0 b).1 0 (cellsL (fun _ => (0, 0)) cs)
      rw [h3]
      rw [h01] at h2
      exact h2
    have k1 := hh.kill (b := b) (v := ⟨.t 0, true, [], 0⟩) rfl (map_tl rfl) (fam_tl rfl)
    have k2 := k1.ghost (fb := fb) (l := l ++ [⟨((ρ0 b).1, 0), cs, t, tl⟩]) (fun e he => by
      have own : ∀ j c, upF (nthO hp) b ⟨.t 0, true, [], 0⟩ j = some c → c.ro = false → j ≠ b ∧ nthO hp j = some c := fun j c hj hc => by
        unfold upF at hj
        split at hj
        · cases hj; cases hc
        · rename_i e; exact ⟨e, hj⟩
      rcases List.mem_append.1 he with he | he
      · have := hh.fam fb _ true l e hfb rfl he
        exact ⟨this.1, fun j c _ hj hc => this.2 j c (own j c hj hc).2 hc⟩
      · rw [List.mem_singleton.1 he]
        exact ⟨e1, fun j c _ hj hc => hh.apart b j _ c hb rfl (own j c hj hc).2 (own_live hc) (own j c hj hc).1 |> fun h => h⟩)
    have hxx : upF (upF (nthO hp) b ⟨.t 0, true, [], 0⟩) fb ⟨.x (l ++ [⟨((ρ0 b).1, 0), cs, t, tl⟩]), true, [], 2⟩ x = some ⟨ty2, false, cs2, tl2⟩ := by
      unfold upF; rw [if_neg (Ne.symm hfx), if_neg (Ne.symm hbx)]; exact hx
    have k3 := k2.turn (d := ⟨ty2, false, frzL b (ρ0 b).1 cs2, tl2⟩) hxx rfl ⟨rfl, rfl, rfl⟩ (fun ρ hρ => by
      refine frzL_cells ?_ cs2
      have : ρ b = ρ0 b := hρ b (by unfold upF; split; rfl; split; rfl; rw [hb]; rfl)
      rw [this, ← h01])
    have s1 : nthO (hp.set fb ⟨.x (l ++ [⟨((ρ0 b).1, 0), cs, t, tl⟩]), true, [], 2⟩) = upF (nthO hp) fb ⟨.x (l ++ [⟨((ρ0 b).1, 0), cs, t, tl⟩]), true, [], 2⟩ := nthO_set _ _ _ _ hfb
    have s2 := nthO_set (hp.set fb ⟨.x (l ++ [⟨((ρ0 b).1, 0), cs, t, tl⟩]), true, [], 2⟩) b ⟨.t 0, true, [], 0⟩ _ (by rw [s1]; unfold upF; rw [if_neg (Ne.symm hfbb)]; exact hb)
    have s3 := nthO_set ((hp.set fb ⟨.x (l ++ [⟨((ρ0 b).1, 0), cs, t, tl⟩]), true, [], 2⟩).set b ⟨.t 0, true, [], 0⟩) x ⟨ty2, false, frzL b (ρ0 b).1 cs2, tl2⟩ _ (by rw [s2, s1]; unfold upF; rw [if_neg (Ne.symm hbx), if_neg (Ne.symm hfx)]; exact hx)
    have comm : upF (upF (nthO hp) fb ⟨.x (l ++ [⟨((ρ0 b).1, 0), cs, t, tl⟩]), true, [], 2⟩) b ⟨.t 0, true, [], 0⟩ = upF (upF (nthO hp) b ⟨.t 0, true, [], 0⟩) fb ⟨.x (l ++ [⟨((ρ0 b).1, 0), cs, t, tl⟩]), true, [], 2⟩ := by
      funext i
      unfold upF
      by_cases e1 : i = b
      · rw [if_pos e1, if_neg (fun e => hfbb (e.symm.trans e1)), if_pos e1]
      · rw [if_neg e1]
        split <;> rfl
    refine ⟨_, h, ?_, fun i => ?_⟩
    · rw [s3, s2, s1, comm]; exact k3
    · rw [s3, s2, s1]
      unfold upF
      split
      · rename_i e; rw [e, hx]; rfl
      · split
        · rename_i e; rw [e, hb]; rfl
        · split
          · rename_i e; rw [e, hfb]; rfl
          · rfl
  · exact h.elim
theorem Frz.agr {N : Nat} {w0 : Base} {ρ0 : Rho} {w : World} {hp hp' : List Blk} (h : Frz N w0 ρ0 w hp hp') {ρ : Rho} (ha : Agr (nthO hp') ρ ρ0) : Agr (nthO hp) ρ ρ0 := fun i hi => ha i (by rw [h.2 i]; exact hi)
/-- freezing ahead of a call -/
def hfz (H : FuncId → List SV → List Blk → (SV → List Blk → Prop) → Prop) : Nat → FuncId → List SV → List Blk → (SV → List Blk → Prop) → Prop
  | 0, f, args, hp, K => H f args hp K
  | n + 1, f, args, hp, K => H f args hp K ∨ ∃ fb b x, frzK hp fb b x fun hp' => hfz H n f args hp' K
theorem hfz_ok {P : Program} {H : FuncId → List SV → List Blk → (SV → List Blk → Prop) → Prop} (hH : HOk P H) : ∀ n, HOk P (hfz H n)
  | 0 => hH
  | n + 1 => fun f args hp K h => by
    rcases h with h | ⟨fb, b, x, h⟩
    · exact hH f args hp K h
    · have key : ∀ hp', hfz H n f args hp' K → Callable P f ∧ _ := fun hp' h => hfz_ok hH n f args hp' K h
      refine ⟨?_, fun N w0 ρ0 w hh hargs => ?_⟩
      · unfold frzK at h
        split at h
        · have h := h.2 0
          simp only [updK_eq, forceL_eq] at h
          exact (key _ h).1
        · exact h.elim
      · obtain ⟨hp', hK, hf⟩ := frzK_ok h hh
        refine ((key hp' hK).2 N w0 ρ0 w hf.1 fun ρ hρ => hargs ρ (hf.agr hρ)).mono ?_
        rintro e w' ⟨v, hp2, ρ1, h1, h2, h3, h4⟩
        exact ⟨v, hp2, ρ1, h1, h2, fun i hi => h3 i (by rw [hf.2 i]; exact hi), h4⟩
/-- freezing ahead of an operation by a law of its own -/
def ofz (O : Oper → List SV → List Blk → (List SV → List Blk → Prop) → Prop) : Nat → Oper → List SV → List Blk → (List SV → List Blk → Prop) → Prop
  | 0, o, tm, hp, K => O o tm hp K
  | n + 1, o, tm, hp, K => O o tm hp K ∨ ∃ fb b x, frzK hp fb b x fun hp' => ofz O n o tm hp' K
theorem ofz_ok {P : Program} {O : Oper → List SV → List Blk → (List SV → List Blk → Prop) → Prop} (hO : OOk P O) : ∀ n, OOk P (ofz O n)
  | 0 => hO
  | n + 1 => fun o tm hp K h N w0 a w next Q hr hn => by
    rcases h with h | ⟨fb, b, x, h⟩
    · exact hO o tm hp K h hr hn
    · obtain ⟨ρ0, hh, ht, hd⟩ := hr
      obtain ⟨hp', hK, hf⟩ := frzK_ok h hh
      exact ofz_ok hO n o tm hp' K hK ⟨ρ0, hf.1, fun ρ hρ => ht ρ (hf.agr hρ), hd⟩ hn
/-- does a family hold a piece? -/
def famHas (hp : List Blk) (fb : Nat) (a : Nat × Nat) (cs : List C) : Prop := ∃ b o l, nthO hp fb = some b ∧ b.famOf = some (o, l) ∧ InF l a cs
/-- a slice by its address becomes one of a block that is only read -/
def impB (hp : List Blk) (v : Value) (K : Nat → List Blk → SV → Prop) : Prop :=
  ∃ (nl : Bool) (r o len cap : Nat) (h : SliOk nl len cap) (ty : TypeId) (cs : List C) (fb : Nat), v = .slice (nlA nl ⟨r, o, none⟩) len cap ∧ (cs = [] ∨ famHas hp fb (r, o) cs) ∧ snocK hp ⟨.t ty, true, cs, 0⟩ fun hp' => lenK hp fun n => K n hp' (.c (.sli nl n 0 len cap h))
theorem impB_ok {hp : List Blk} {v : Value} {K : Nat → List Blk → SV → Prop} (h : impB hp v K) {N : Nat} {w0 : Base} {ρ0 : Rho} {w : World} (hh : HRel N w0 (nthO hp) ρ0 w) :
    ∃ hp' s p, K hp.length hp' s ∧ HRel N w0 (nthO hp') (upR ρ0 hp.length p) w ∧ (∀ i, (nthO hp i).isSome = true → (nthO hp' i).isSome = true ∧ upR ρ0 hp.length p i = ρ0 i) ∧ ∀ ρ, Agr (nthO hp') ρ (upR ρ0 hp.length p) → s.den ρ = v := by
  obtain ⟨nl, r, o, len, cap, hl, ty, cs, fb, rfl, hc, h⟩ := h
  rw [snocK_eq, lenK_eq] at h
  have hn := nthO_none hp
  have hsn : nthO (hp ++ [(⟨.t ty, true, cs, 0⟩ : Blk)]) = upF (nthO hp) hp.length ⟨.t ty, true, cs, 0⟩ := nthO_snoc' _ _
  refine ⟨_, _, (r, o), h, ?_, fun i hi => by rw [hsn]; exact up_agr hn i hi, fun ρ hρ => ?_⟩
  · rw [hsn]
    rcases hc with rfl | ⟨b, o', l, h1, h2, ⟨⟨r', o1⟩, cs', ty1, tl1⟩, h3, h4, h5⟩
    · exact hh.addAt hn rfl rfl (fun _ _ => rfl) (r, o) (.inl rfl)
    · simp only at h4 h5
      cases h4; subst h5
      have hf := hh.fam fb b o' l _ h1 h2 h3
      refine hh.addAt hn rfl rfl hf.1.pure (r, o) (.inr ⟨hf.1.lt, hf.2, ?_⟩)
      have : cellsL ρ0 cs' = cellsL (fun _ => (0, 0)) cs' := hf.1.pure _ _
      show w.rangeAt r o (cellsL ρ0 cs')
      rw [this]; exact hf.1.holds
  · have : ρ hp.length = (r, o) := by
      rw [hρ _ (by rw [hsn]; unfold upF; rw [if_pos rfl]; rfl)]; unfold upR; rw [if_pos rfl]
    simp [SV.den, C.den, C.cells, this]
/-- an argument that is a slice by its address -/
def argI (hp : List Blk) : List SV → Nat → (List SV → List Blk → Prop) → Prop
  | [], _, _ => False
  | x :: l, 0, K => (match x with
    | .c (.val v) => impB hp v fun _ hp' s => K (s :: l) hp'
    | _ => False)
  | x :: l, k + 1, K => argI hp l k fun l hp' => K (x :: l) hp'
theorem argI_ok {hp : List Blk} : ∀ {l : List SV} {k : Nat} {K : List SV → List Blk → Prop}, argI hp l k K → ∀ {N : Nat} {w0 : Base} {ρ0 : Rho} {w : World}, HRel N w0 (nthO hp) ρ0 w →
    ∃ hp' l' p, K l' hp' ∧ HRel N w0 (nthO hp') (upR ρ0 hp.length p) w ∧ (∀ i, (nthO hp i).isSome = true → (nthO hp' i).isSome = true ∧ upR ρ0 hp.length p i = ρ0 i) ∧ ∀ ρ, Agr (nthO hp') ρ (upR ρ0 hp.length p) → l'.map (SV.den ρ) = l.map (SV.den ρ)
  | [], _, _, h => h.elim
  | x :: l, k + 1, K, h => fun hh => by
    have h : argI hp l k fun l hp' => K (x :: l) hp' := h
    obtain ⟨hp', l', p, h1, h2, h3, h4⟩ := argI_ok h hh
    exact ⟨hp', x :: l', p, h1, h2, h3, fun ρ hρ => by rw [List.map_cons, List.map_cons, h4 ρ hρ]⟩
  | x :: l, 0, K, h => fun hh => by
    unfold argI at h
    split at h
    · obtain ⟨hp', s, p, h1, h2, h3, h4⟩ := impB_ok h hh
      exact ⟨hp', s :: l, p, h1, h2, h3, fun ρ hρ => by rw [List.map_cons, List.map_cons, h4 ρ hρ]; rfl⟩
    · exact h.elim
theorem argI_ex {hp : List Blk} : ∀ {l : List SV} {k : Nat} {K : List SV → List Blk → Prop}, argI hp l k K → ∃ l' hp', K l' hp'
  | [], _, _, h => h.elim
  | x :: l, k + 1, K, h => by
    have h : argI hp l k fun l hp' => K (x :: l) hp' := h
    obtain ⟨l', hp', h1⟩ := argI_ex h
    exact ⟨x :: l', hp', h1⟩
  | x :: l, 0, K, h => by
    unfold argI at h
    split at h
    · obtain ⟨nl, r, o, len, cap, hl, ty, cs, fb, -, -, h⟩ := h
      rw [snocK_eq, lenK_eq] at h
      exact ⟨_, _, h⟩
    · exact h.elim
/-- slices by their addresses made known ahead of a call -/
def himp (H : FuncId → List SV → List Blk → (SV → List Blk → Prop) → Prop) : Nat → FuncId → List SV → List Blk → (SV → List Blk → Prop) → Prop
  | 0, f, args, hp, K => H f args hp K
  | n + 1, f, args, hp, K => H f args hp K ∨ ∃ k, argI hp args k fun args hp' => himp H n f args hp' K
theorem himp_ok {P : Program} {H : FuncId → List SV → List Blk → (SV → List Blk → Prop) → Prop} (hH : HOk P H) : ∀ n, HOk P (himp H n)
  | 0 => hH
  | n + 1 => fun f args hp K h => by
    rcases h with h | ⟨k, h⟩
    · exact hH f args hp K h
    · refine ⟨?_, fun N w0 ρ0 w hh hargs => ?_⟩
      · obtain ⟨l', hp', h1⟩ := argI_ex h
        exact (himp_ok hH n f l' hp' K h1).1
      · obtain ⟨hp', l', p, h1, h2, h3, h4⟩ := argI_ok h hh
        have hsub : ∀ ρ, Agr (nthO hp') ρ (upR ρ0 hp.length p) → Agr (nthO hp) ρ ρ0 := fun ρ hρ => hρ.sub h3
        have e0 : l'.map (SV.den (upR ρ0 hp.length p)) = args.map (SV.den ρ0) := by rw [h4 _ (Agr.refl _ _)]; exact hargs _ (hsub _ (Agr.refl _ _))
        rw [← e0]
        refine ((himp_ok hH n f l' hp' K h1).2 N w0 _ w h2 fun ρ hρ => ?_).mono ?_
        · rw [h4 ρ hρ, h4 _ (Agr.refl _ _), hargs ρ (hsub ρ hρ), hargs _ (hsub _ (Agr.refl _ _))]
        · rintro e w' ⟨v, hp2, ρ1, k1, k2, k3, k4⟩
          exact ⟨v, hp2, ρ1, k1, k2, fun i hi => ⟨(k3 i (h3 i hi).1).1, (k3 i (h3 i hi).1).2.trans (h3 i hi).2⟩, k4⟩
/-- a slice by its address in a slot -/
def tmI (hp : List Blk) : List SV → Nat → (List SV → List Blk → Prop) → Prop := argI hp
/-- slices by their addresses made known ahead of an operation -/
def oimp (E : Env) (H : FuncId → List SV → List Blk → (SV → List Blk → Prop) → Prop) (O : Oper → List SV → List Blk → (List SV → List Blk → Prop) → Prop) : Nat → Oper → List SV → List Blk → (List SV → List Blk → Prop) → Prop
  | 0, o, tm, hp, K => O o tm hp K
  | n + 1, o, tm, hp, K => O o tm hp K ∨ ∃ k, argI hp tm k fun tm hp' => vcOp { E with O := oimp E H O n } H o tm hp' K
theorem oimp_ok {P : Program} {E : Env} (hE : EOk P E) {H : FuncId → List SV → List Blk → (SV → List Blk → Prop) → Prop} (hH : HOk P H) {O : Oper → List SV → List Blk → (List SV → List Blk → Prop) → Prop} (hO : OOk P O) : ∀ n, OOk P (oimp E H O n)
  | 0 => hO
  | n + 1 => fun o tm hp K h N w0 a w next Q hr hn => by
    rcases h with h | ⟨k, h⟩
    · exact hO o tm hp K h hr hn
    · obtain ⟨ρ0, hh, ht, hd⟩ := hr
      obtain ⟨hp', l', p, h1, h2, h3, h4⟩ := argI_ok h hh
      have hE2 : EOk P { E with O := oimp E H O n } := ⟨hE.T, hE.D, oimp_ok hE hH hO n, hE.R⟩
      exact vcOp_ok hE2 hH h1 ⟨_, h2, fun ρ hρ => by rw [h4 ρ hρ]; exact ht ρ (hρ.sub h3), hd⟩ hn
/-- a family without pieces, ahead of a call -/
def hfam0 (H : FuncId → List SV → List Blk → (SV → List Blk → Prop) → Prop) (f : FuncId) (args : List SV) (hp : List Blk) (K : SV → List Blk → Prop) : Prop :=
  H f args hp K ∨ snocK hp ⟨.x [], true, [], 2⟩ fun hp' => H f args hp' K
theorem hfam0_ok {P : Program} {H : FuncId → List SV → List Blk → (SV → List Blk → Prop) → Prop} (hH : HOk P H) : HOk P (hfam0 H) := fun f args hp K h => by
  rcases h with h | h
  · exact hH f args hp K h
  · rw [snocK_eq] at h
    refine ⟨(hH f args _ K h).1, fun N w0 ρ0 w hh hargs => ?_⟩
    have hsn : nthO (hp ++ [(⟨.x [], true, [], 2⟩ : Blk)]) = upF (nthO hp) hp.length ⟨.x [], true, [], 2⟩ := nthO_snoc' _ _
    have h2 : HRel N w0 (nthO (hp ++ [(⟨.x [], true, [], 2⟩ : Blk)])) ρ0 w := by rw [hsn]; exact hh.ghost fun e he => by simp at he
    have hs : ∀ i, (nthO hp i).isSome = true → (nthO (hp ++ [(⟨.x [], true, [], 2⟩ : Blk)]) i).isSome = true := fun i hi => by
      rw [hsn]; unfold upF; split
      · rfl
      · exact hi
    refine ((hH f args _ K h).2 N w0 ρ0 w h2 fun ρ hρ => hargs ρ fun i hi => hρ i (hs i hi)).mono ?_
    rintro e w' ⟨v, hp2, ρ1, k1, k2, k3, k4⟩
    exact ⟨v, hp2, ρ1, k1, k2, fun i hi => k3 i (hs i hi), k4⟩
/-! functions that take families -/
def roAllX : List Blk → Prop
  | [] => True
  | b :: l => (b.ro = true ∧ b.mapOf = none) ∧ roAllX l
theorem roAllX_get : ∀ {l : List Blk} (_ : roAllX l) {i : Nat} {b : Blk}, nthO l i = some b → b.ro = true ∧ b.mapOf = none
  | [], _, i, b, h => by simp [nthO] at h
  | x :: l, hp, 0, b, h => by simp [nthO] at h; subst h; exact hp.1
  | x :: l, hp, i + 1, b, h => roAllX_get hp.2 (by simpa [nthO] using h)
/-- as CSp, but the blocks may be families -/
def CSpX (P : Program) (f : FuncId) (c : NewC) : Prop := Callable P f ∧ ∀ args ros K, c args ros K → roAllX ros → pureAll ros → ∀ ρ w, (∀ i b, nthO ros i = some b → w.rangeAt (ρ i).1 (ρ i).2 (cellsL ρ b.cs)) →
  (∀ i b o l e, nthO ros i = some b → b.famOf = some (o, l) → e ∈ l → FamAt w.heap.size w false e) → (∀ i b o l, nthO ros i = some b → b.famOf = some (o, l) → o = false) →
  Calls P f (args.map (SV.den ρ)).toArray w fun e w' => ∃ v news σ, K v news ∧ newAll news ∧ HRel w.heap.size ⟨w, fun _ => False, ρ, 0⟩ (nthO (ros ++ news)) σ w' ∧ (∀ i, i < ros.length → σ i = ρ i) ∧ ∀ ρ', Agr (nthO (ros ++ news)) ρ' σ → e = .returned (v.den ρ')
theorem csp_ofX {P : Program} {E : Env} (hE : EOk P E) (hm : P.follows .mixedOrders = true) {H : FuncId → List SV → List Blk → (SV → List Blk → Prop) → Prop} (hH : HOk P H) {f : FuncId} {fn : Func} (hf : FnOk P f fn) {c : NewC}
    (h : ∀ args ros K, c args ros K → (∀ ρ ρ', (∀ i, i < ros.length → ρ i = ρ' i) → args.map (SV.den ρ) = args.map (SV.den ρ')) ∧ vcF E H fn args ros (outK ros K)) : CSpX P f c := by
  refine ⟨hf.callable, fun args ros K hc hro hpure ρ w hr hfam hold => ?_⟩
  obtain ⟨hargs, hwalk⟩ := h args ros K hc
  have hlen : ∀ {i : Nat}, (nthO ros i).isSome = true ↔ i < ros.length := fun {i} => by
    rw [nthO_eq]
    constructor
    · intro h; obtain ⟨x, hx⟩ := Option.isSome_iff_exists.1 h; exact (List.getElem?_eq_some_iff.1 hx).1
    · intro h; rw [List.getElem?_eq_getElem h]; rfl
  have hh : HRel w.heap.size ⟨w, fun i => (nthO ros i).isSome = true, ρ, 0⟩ (nthO ros) ρ w := by
    refine ⟨fun i b hi hv => ?_, fun i b hi ho => ?_, fun i j b c hi ho => ?_, fun ρ' hρ i b hi => ?_, BelO.refl _ _, Nat.le_refl _, fun i h => ⟨h, rfl⟩, fun i b e hi he => (by rw [(roAllX_get hro hi).2] at he; cases he), fun i j b c hi hj hm hk hne => (by rw [(roAllX_get hro hi).2] at hm; cases hm), fun i b o l e hi hm he => ⟨⟨(hfam i b o l e hi hm he).pure, (hfam i b o l e hi hm he).row, fun ho => (by have := (roAllX_get hro hi); exact absurd ho (by rw [(hold i b o l hi hm)]; decide)), (hfam i b o l e hi hm he).holds, fun _ => (hfam i b o l e hi hm he).lt⟩, fun j c hj ho => (by rw [(roAllX_get hro hj).1] at ho; cases ho)⟩⟩
    · have h0 : 0 < sizeC b.cs := by
        cases hc : b.cs with
        | nil =>
          unfold Blk.void at hv
          rw [hc, (roAllX_get hro hi).1] at hv
          cases hv
        | cons x l => cases x <;> simp [sizeC, C.n] <;> omega
      rw [sizeC_eq ρ] at h0
      exact block_lt_of_cell (hr i b hi 0 _ (List.getElem?_eq_getElem h0))
    · rw [(roAllX_get hro hi).1] at ho; cases ho
    · rw [(roAllX_get hro hi).1] at ho; cases ho
    · refine ⟨?_, fun ho => by rw [(roAllX_get hro hi).1] at ho; cases ho⟩
      have hp2 : cellsL ρ' b.cs = cellsL ρ b.cs := (pureAll_get hpure hi) ρ' ρ
      rw [hρ i (by rw [hi]; rfl), hp2]
      exact hr i b hi
  refine (fn_ok hE hm hH hf hwalk w.heap.size _ ρ w hh (fun ρ' hρ => hargs ρ' ρ fun i hi => hρ i (hlen.2 hi))).mono ?_
  rintro e w' ⟨v, hp', ρ1, ⟨sel, pf, hout⟩, hh', -, he⟩
  have he0 := he ρ1 (Agr.refl _ _)
  have hrel : RelS w.heap.size ⟨w, fun i => (nthO ros i).isSome = true, ρ, 0⟩ [v] hp' { tmps := #[v.den ρ1], defers := [] } w' := ⟨ρ1, hh', fun ρ' hρ' => by
    have := he ρ' hρ'
    rw [he0] at this
    have : v.den ρ1 = v.den ρ' := by simpa using this
    simp [this], Marks.nil _ _ (Nat.zero_le _)⟩
  obtain ⟨tm2, hp2, ⟨v2, news, rfl, hsame, hn, v3, hv3, hK⟩, hr2⟩ := endK_ok (n0 := ros.length) (fun i hi => hlen.1 hi) hrel (hout _)
  have hr3 := hr2.same (tm2 := [v3]) ⟨hv3, trivial⟩ hsame
  obtain ⟨σ, hh3, ht3, -⟩ := hr3
  refine ⟨v3, news, σ, hK, hn, ⟨hh3.old, hh3.own, hh3.apart, hh3.holds, hh3.bel, hh3.big, fun i hi => hi.elim, hh3.maps, hh3.mapA, hh3.fam⟩, fun i hi => ?_, fun ρ' hρ' => ?_⟩
  · exact (hh3.ext i (hlen.2 hi)).2
  · have := ht3 ρ' hρ'
    simp only [List.map_cons, List.map_nil, List.cons.injEq, and_true] at this
    rw [he0, this]
def hnewX (l : List (FuncId × NewC)) (H : FuncId → List SV → List Blk → (SV → List Blk → Prop) → Prop) (f : FuncId) (args : List SV) (hp : List Blk) (K : SV → List Blk → Prop) : Prop :=
  match lkC l f with
  | some c => ∃ fb, (match nthO hp fb with
    | some ⟨.x fl, true, [], t⟩ => (t = 2 ∨ t = 3) ∧ argK hp 0 args fun args' ros bs => pureAll ros ∧ snocK ros ⟨.x fl, true, [], 3⟩ fun ros => c args' ros fun v news => lenK hp fun n => appB hp news fun hp' => snocK bs fb fun bs => K (v.mv bs n) hp'
    | _ => False)
  | none => H f args hp K
def AllX (P : Program) (l : List (FuncId × NewC)) : Prop := ∀ x ∈ l, CSpX P x.1 x.2
theorem AllX.nil {P : Program} : AllX P [] := fun x hx => by simp at hx
theorem AllX.cons {P : Program} {f : FuncId} {c : NewC} {l : List (FuncId × NewC)} (h : CSpX P f c) (hl : AllX P l) : AllX P ((f, c) :: l) := fun x hx => by
  rcases List.mem_cons.1 hx with rfl | hx
  · exact h
  · exact hl x hx
theorem pureAll_snoc {b : Blk} (hb : PureL b.cs) : ∀ {l : List Blk}, pureAll l → pureAll (l ++ [b])
  | [], _ => ⟨hb, trivial⟩
  | _ :: _, h => ⟨h.1, pureAll_snoc hb h.2⟩
theorem roAllX_snoc {b : Blk} (hb : b.ro = true ∧ b.mapOf = none) : ∀ {l : List Blk}, roAll l → roAllX (l ++ [b])
  | [], _ => ⟨hb, trivial⟩
  | _ :: _, h => ⟨⟨h.1.1, map_tl h.1.2⟩, roAllX_snoc hb h.2⟩
theorem hnewX_ok {P : Program} {l : List (FuncId × NewC)} (hl : AllX P l) {H : FuncId → List SV → List Blk → (SV → List Blk → Prop) → Prop} (hH : HOk P H) : HOk P (hnewX l H) := by
  intro f args hp K h
  unfold hnewX at h
  split at h
  · rename_i c hc
    have hsp := hl _ (lkC_mem hc)
    obtain ⟨fb, h⟩ := h
    split at h
    · rename_i fl t hfb
      obtain ⟨ht, h⟩ := h
      refine ⟨hsp.1, fun N w0 ρ0 w hh _ => ?_⟩
      obtain ⟨l', ros0, bs0, hK, hlen0, hro0, hbs0, hden0⟩ := argK_spec h
      obtain ⟨hpure0, hK⟩ := hK
      rw [snocK_eq] at hK
      have hfo : ∃ o, (⟨.x fl, true, [], t⟩ : Blk).famOf = some (o, fl) := by rcases ht with rfl | rfl <;> exact ⟨_, rfl⟩
      obtain ⟨ros, hros⟩ : ∃ ros, ros = ros0 ++ [⟨.x fl, true, [], 3⟩] := ⟨_, rfl⟩
      obtain ⟨bs, hbsd⟩ : ∃ bs, bs = bs0 ++ [fb] := ⟨_, rfl⟩
      rw [← hros] at hK
      have hlen : ros.length = bs.length := by rw [hros, hbsd]; simp [hlen0]
      have hpure : pureAll ros := by rw [hros]; exact pureAll_snoc (fun _ _ => rfl) hpure0
      have hro : roAllX ros := by rw [hros]; exact roAllX_snoc ⟨rfl, rfl⟩ hro0
      have hbs : ∀ (i b : Nat), bs[i]? = some b → ∃ c d, nthO hp b = some c ∧ nthO ros i = some d ∧ d.cs = c.cs := fun i b hi => by
        rw [hbsd] at hi
        by_cases hlt : i < bs0.length
        · rw [List.getElem?_append_left hlt] at hi
          obtain ⟨c', d', h1, h2, h3⟩ := hbs0 i b hi
          refine ⟨c', d', h1, ?_, h3⟩
          rw [hros, nthO_append, if_pos (by omega)]; exact h2
        · rw [List.getElem?_append_right (by omega)] at hi
          have e : i - bs0.length = 0 := by
            have := (List.getElem?_eq_some_iff.1 hi).1
            simp at this; omega
          rw [e] at hi
          simp at hi
          subst hi
          refine ⟨_, ⟨.x fl, true, [], 3⟩, hfb, ?_, rfl⟩
          rw [hros, nthO_append, if_neg (by omega), show i - ros0.length = 0 by omega]; rfl
      have hden : ∀ ρ ρ' : Rho, (∀ (i b : Nat), bs[i]? = some b → ρ' (0 + i) = ρ b) → args.map (SV.den ρ) = l'.map (SV.den ρ') := fun ρ ρ' h => hden0 ρ ρ' fun i b hi => h i b (by rw [hbsd, List.getElem?_append_left (List.getElem?_eq_some_iff.1 hi).1]; exact hi)
      let ρ : Rho := fun i => ρ0 (bs[i]?.getD 0)
      have hρ : ∀ (i b : Nat), bs[i]? = some b → ρ i = ρ0 b := fun i b hi => by show ρ0 (bs[i]?.getD 0) = ρ0 b; rw [hi]; rfl
      have hargs : args.map (SV.den ρ0) = l'.map (SV.den ρ) := hden ρ0 ρ (fun i b hi => by rw [Nat.zero_add]; exact hρ i b hi)
      rw [hargs]
      have hfam0 : ∀ i b o l, nthO ros i = some b → b.famOf = some (o, l) → o = false ∧ l = fl := fun i b o l hi hm => by
        rw [hros, nthO_append] at hi
        split at hi
        · rw [fam_tl (roAll_get2 hro0 hi).2] at hm; cases hm
        · have e : i - ros0.length = 0 := by
            rw [nthO_eq] at hi
            have := (List.getElem?_eq_some_iff.1 hi).1
            simp at this; omega
          rw [e] at hi
          cases hi
          cases hm
          exact ⟨rfl, rfl⟩
      refine (hsp.2 l' ros _ hK hro hpure ρ w (fun i d hd => ?_) (fun i b o l e hi hm he => ?_) (fun i b o l hi hm => (hfam0 i b o l hi hm).1)).mono ?_
      · have hi : i < ros.length := by rw [nthO_eq] at hd; exact (List.getElem?_eq_some_iff.1 hd).1
        obtain ⟨b, hb⟩ : ∃ b, bs[i]? = some b := ⟨_, List.getElem?_eq_getElem (by omega)⟩
        obtain ⟨c', d', h1, h2, h3⟩ := hbs i b hb
        rw [hd] at h2; cases h2
        have := (hh.holds ρ0 (Agr.refl _ _) b c' h1).1
        have hp2 : cellsL ρ d.cs = cellsL ρ0 d.cs := (pureAll_get hpure hd) ρ ρ0
        rw [hρ i b hb, hp2, h3]
        exact this
      · obtain ⟨rfl, rfl⟩ := hfam0 i b o l hi hm
        obtain ⟨o', ho'⟩ := hfo
        have := (hh.fam fb _ o' _ e hfb ho' he).1
        exact ⟨this.pure, this.row, fun h => (by cases h), this.holds, fun _ => this.lt⟩
      · rintro e w' ⟨v, news, σ, hK, hn, hc, hσ, he⟩
        rw [lenK_eq, appB_eq, snocK_eq, ← hbsd] at hK
        refine ⟨_, _, _, hK, hh.join hc hn, fun i hi => ?_, fun ρ1 hρ1 => ?_⟩
        · have hil : i < hp.length := by
            obtain ⟨x, hx⟩ := Option.isSome_iff_exists.1 hi
            rw [nthO_eq] at hx; exact (List.getElem?_eq_some_iff.1 hx).1
          exact ⟨by rw [nthO_append, if_pos hil]; exact hi, if_pos hil⟩
        · rw [mv_den]
          refine he _ (fun k hk => ?_)
          have hkl : k < (ros ++ news).length := by
            obtain ⟨x, hx⟩ := Option.isSome_iff_exists.1 hk
            rw [nthO_eq] at hx; exact (List.getElem?_eq_some_iff.1 hx).1
          show ρ1 (mvN bs hp.length k) = σ k
          unfold mvN
          by_cases hkr : k < ros.length
          · have hkb : k < bs.length := by omega
            obtain ⟨b, hb⟩ : ∃ b, bs[k]? = some b := ⟨_, List.getElem?_eq_getElem hkb⟩
            rw [nthO_eq, hb]
            obtain ⟨c', d', h1, -⟩ := hbs k b hb
            have hbl : b < hp.length := by rw [nthO_eq] at h1; exact (List.getElem?_eq_some_iff.1 h1).1
            rw [hσ k hkr, hρ k b hb]
            have := hρ1 b (by rw [nthO_append, if_pos hbl, h1]; rfl)
            rw [this]; exact if_pos hbl
          · rw [nthO_eq, List.getElem?_eq_none (by omega)]
            have hx : (nthO (hp ++ news) (hp.length + (k - bs.length))).isSome = true := by
              rw [nthO_append, if_neg (by omega)]
              rw [nthO_append, if_neg hkr] at hk
              rw [show hp.length + (k - bs.length) - hp.length = k - ros.length by omega]; exact hk
            have := hρ1 _ hx
            show ρ1 (hp.length + (k - bs.length)) = σ k
            rw [this]
            show (if hp.length + (k - bs.length) < hp.length then _ else σ (hp.length + (k - bs.length) - hp.length + ros.length)) = σ k
            rw [if_neg (by omega)]
            congr 1; omega
    · exact h.elim
  · exact hH f args hp K h
end Go.Proofs.YthmdmbpecgakkaaDoor

namespace Go.Proofs.YthmdmbpecgakkaaDoor
open Go.RowKit

def hmrg (H : FuncId → List SV → List Blk → (SV → List Blk → Prop) → Prop) (f : FuncId) (args : List SV) (hp : List Blk) (K : SV → List Blk → Prop) : Prop :=
  H f args hp K ∨ ∃ b1 b2, match nthO hp b1, nthO hp b2 with
    | some ⟨.x l1, true, [], 2⟩, some ⟨.x l2, true, [], 2⟩ => updK hp b1 ⟨.x (l1 ++ l2), true, [], 2⟩ fun hp' => H f args hp' K
    | _, _ => False
theorem hmrg_ok {P : Program} {H : FuncId → List SV → List Blk → (SV → List Blk → Prop) → Prop} (hH : HOk P H) : HOk P (hmrg H) := fun f args hp K h => by
  rcases h with h | ⟨b1, b2, h⟩
  · exact hH f args hp K h
  · split at h
    · rename_i l1 l2 h1 h2
      rw [updK_eq] at h
      refine ⟨(hH f args _ K h).1, fun N w0 ρ0 w hh hargs => ?_⟩
      have hsn : nthO (hp.set b1 (⟨.x (l1 ++ l2), true, [], 2⟩ : Blk)) = upF (nthO hp) b1 ⟨.x (l1 ++ l2), true, [], 2⟩ := nthO_set _ _ _ _ h1
      have hg : HRel N w0 (nthO (hp.set b1 (⟨.x (l1 ++ l2), true, [], 2⟩ : Blk))) ρ0 w := by
        rw [hsn]
        refine hh.ghost fun e he => ?_
        rcases List.mem_append.1 he with he | he
        · have := hh.fam b1 _ true l1 e h1 rfl he
          exact ⟨this.1, fun j c _ hj hc => this.2 j c hj hc⟩
        · have := hh.fam b2 _ true l2 e h2 rfl he
          exact ⟨this.1, fun j c _ hj hc => this.2 j c hj hc⟩
      have hs : ∀ i, (nthO hp i).isSome = true → (nthO (hp.set b1 (⟨.x (l1 ++ l2), true, [], 2⟩ : Blk)) i).isSome = true := fun i hi => by
        rw [hsn]; unfold upF; split
        · rfl
        · exact hi
      refine ((hH f args _ K h).2 N w0 ρ0 w hg fun ρ hρ => hargs ρ fun i hi => hρ i (hs i hi)).mono ?_
      rintro e w' ⟨v, hp2, ρ1, k1, k2, k3, k4⟩
      exact ⟨v, hp2, ρ1, k1, k2, fun i hi => k3 i (hs i hi), k4⟩
    · exact h.elim
end Go.Proofs.YthmdmbpecgakkaaDoor

namespace Go.Proofs.YthmdmbpecgakkaaDoor
open Go.RowKit

/-- the same blocks in other words -/
theorem HRel.same {N : Nat} {w0 : Base} {hp hp2 : List Blk} {ρ0 : Rho} {w : World} (hh : HRel N w0 (nthO hp) ρ0 w) (e2 : SameHp hp hp2) : HRel N w0 (nthO hp2) ρ0 w ∧ ∀ i, (nthO hp2 i).isSome = (nthO hp i).isSome := by
  have hagr : ∀ ρ, Agr (nthO hp2) ρ ρ0 → Agr (nthO hp) ρ ρ0 := fun ρ hρ i hi => by
    obtain ⟨b, hb⟩ := Option.isSome_iff_exists.1 hi
    obtain ⟨c, hc⟩ := e2.some' i b hb
    exact hρ i (by rw [hc]; rfl)
  have hvoid : ∀ i b c, nthO hp i = some b → nthO hp2 i = some c → b.ro = c.ro → (∀ ρ, cellsL ρ b.cs = cellsL ρ c.cs) → c.void = false → b.void = false := fun i b c _ _ h2 h3 hv => by
    rcases void_or b with h | h
    · obtain ⟨h4, h5⟩ := void_spec h
      have h6 := h3 ρ0
      rw [h5] at h6
      have h7 : sizeC c.cs = 0 := by rw [sizeC_eq ρ0, ← h6]; rfl
      have h8 : c.cs = [] := by
        cases hc : c.cs with
        | nil => rfl
        | cons x l => rw [hc] at h7; cases x <;> simp [sizeC, C.n] at h7
      unfold Blk.void at hv
      rw [h8, ← h2, h4] at hv
      cases hv
    · exact h
  refine ⟨⟨fun i c hc hv => ?_, fun i c hc ho => ?_, fun i j c d hc ho hd hdv => ?_, fun ρ hρ i c hc => ?_, hh.bel, hh.big, fun i hi => ?_, fun i c e hc he => ?_, fun i j c d hc hd' h1 h2 hji => ?_, hh.fam.up (fun i c hc hm => ?_) fun j c hc ho => ?_⟩, fun i => ?_⟩
  · obtain ⟨b, hb, -, h2, -, h3, -⟩ := e2.get i c hc; exact hh.old i b hb (hvoid i b c hb hc h2 h3 hv)
  · obtain ⟨b, hb, -, h2, -⟩ := e2.get i c hc; exact hh.own i b hb (h2.trans ho)
  · obtain ⟨b, hb, -, h2, -⟩ := e2.get i c hc
    obtain ⟨b', hb', -, h2', -, h3', -⟩ := e2.get j d hd
    exact hh.apart i j b b' hb (h2.trans ho) hb' (hvoid j b' d hb' hd h2' h3' hdv)
  · obtain ⟨b, hb, h1, h2, h5, h3, -⟩ := e2.get i c hc
    have := hh.holds ρ (hagr ρ hρ) i b hb
    unfold Holds at this ⊢
    rw [← h3 ρ, ← h1, ← h2, ← h5]
    exact this
  · have := hh.ext i hi
    refine ⟨?_, this.2⟩
    obtain ⟨b, hb⟩ := Option.isSome_iff_exists.1 this.1
    obtain ⟨c, hc⟩ := e2.some' i b hb
    rw [hc]; rfl
  · obtain ⟨b, hb, -, -, -, -, h6⟩ := e2.get i c hc
    exact hh.maps i b e hb (h6.trans he)
  · obtain ⟨b, hb, -, -, -, -, h6⟩ := e2.get i c hc
    obtain ⟨b', hb', -, -, -, -, h6'⟩ := e2.get j d hd'
    exact hh.mapA i j b b' hb hb' (by rw [h6]; exact h1) (by rw [h6']; exact h2) hji
  · obtain ⟨b, hb, h1, h2, h5, -⟩ := e2.get i c hc
    exact ⟨i, b, hb, by unfold Blk.famOf; rw [h1, h2, h5]⟩
  · obtain ⟨b, hb, -, h2, -⟩ := e2.get j c hc
    exact .inl ⟨j, b, hb, h2.trans ho, rfl⟩
  · cases h1 : nthO hp i with
    | none =>
      cases h2 : nthO hp2 i with
      | none => rfl
      | some c => obtain ⟨b, hb, -⟩ := e2.get i c h2; rw [h1] at hb; cases hb
    | some b => obtain ⟨c, hc⟩ := e2.some' i b h1; rw [hc]; rfl
/-- ahead of a call the state is put in other words -/
def hsm (H : FuncId → List SV → List Blk → (SV → List Blk → Prop) → Prop) (f : FuncId) (args : List SV) (hp : List Blk) (K : SV → List Blk → Prop) : Prop :=
  H f args hp K ∨ ∃ args' hp', SameTm args args' ∧ SameHp hp hp' ∧ H f args' hp' K
theorem hsm_ok {P : Program} {H : FuncId → List SV → List Blk → (SV → List Blk → Prop) → Prop} (hH : HOk P H) : HOk P (hsm H) := fun f args hp K h => by
  rcases h with h | ⟨args', hp', e1, e2, h⟩
  · exact hH f args hp K h
  · refine ⟨(hH f args' hp' K h).1, fun N w0 ρ0 w hh hargs => ?_⟩
    obtain ⟨h2, hs⟩ := hh.same e2
    have e0 : args.map (SV.den ρ0) = args'.map (SV.den ρ0) := e1.den ρ0
    rw [e0]
    refine ((hH f args' hp' K h).2 N w0 ρ0 w h2 fun ρ hρ => ?_).mono ?_
    · rw [← e1.den ρ, ← e1.den ρ0]; exact hargs ρ fun i hi => hρ i (by rw [hs i]; exact hi)
    · rintro e w' ⟨v, hp2, ρ1, k1, k2, k3, k4⟩
      exact ⟨v, hp2, ρ1, k1, k2, fun i hi => k3 i (by rw [hs i]; exact hi), k4⟩
/-- nothing that is only read is known any more -/
def noRo : List Blk → Prop
  | [] => True
  | b :: l => (b.ro = false ∨ b.void = true) ∧ noRo l
theorem noRo_get : ∀ {l : List Blk} (_ : noRo l) {i : Nat} {b : Blk}, nthO l i = some b → b.ro = false ∨ b.void = true
  | [], _, i, b, h => by simp [nthO] at h
  | x :: l, hp, 0, b, h => by simp [nthO] at h; subst h; exact hp.1
  | x :: l, hp, i + 1, b, h => noRo_get hp.2 (by simpa [nthO] using h)
/-- a family's pieces lie elsewhere -/
def disB (r : Nat) (b : Blk) : Prop :=
  match b.ty with
  | .x l => (match b.tl with
    | 3 => True
    | _ => ∀ e, e ∈ l → e.a.1 ≠ r)
  | _ => True
theorem disB_get {r : Nat} {b : Blk} (h : disB r b) {l : List Ent} (hm : b.famOf = some (true, l)) : ∀ e, e ∈ l → e.a.1 ≠ r := by
  obtain ⟨ty, ro, cs, tl⟩ := b
  unfold Blk.famOf famC at hm
  split at hm
  · rename_i h1 h2 h3
    cases hm
    simp only at h1 h3
    subst h1 h3
    exact h
  · cases hm
  · cases hm
def disF (r fb : Nat) : Nat → List Blk → Prop
  | _, [] => True
  | i, b :: l => (match Nat.beq i fb with
    | true => True
    | false => disB r b) ∧ disF r fb (i + 1) l
theorem disF_get {r fb : Nat} : ∀ {l : List Blk} {k : Nat} (_ : disF r fb k l) {i : Nat} {b : Blk}, nthO l i = some b → k + i ≠ fb → disB r b
  | [], _, _, i, b, h, _ => by simp [nthO] at h
  | x :: l, k, hp, 0, b, h, hne => by
    simp [nthO] at h
    subst h
    have h1 := hp.1
    have e : Nat.beq k fb = false := by
      cases hb : Nat.beq k fb
      · rfl
      · exact absurd (Nat.eq_of_beq_eq_true hb) (by simpa using hne)
    rw [e] at h1
    exact h1
  | x :: l, k, hp, i + 1, b, h, hne => disF_get hp.2 (by simpa [nthO] using h) (by omega)
section
variable {N : Nat} {w0 : Base} {hf : Nat → Option Blk} {ρ0 : Rho} {w : World}
/-- a piece becomes a block -/
theorem HRel.thaw (h : HRel N w0 hf ρ0 w) {fb n : Nat} (hn : hf n = none) {l1 l2 : List Ent} {e : Ent} (hfb : hf fb = some ⟨.x (l1 ++ e :: l2), true, [], 2⟩)
    (hlive : ∀ i b, hf i = some b → b.ro = false ∨ b.void = true) (hdis : ∀ i b l, hf i = some b → i ≠ fb → b.famOf = some (true, l) → ∀ e', e' ∈ l → e'.a.1 ≠ e.a.1) (hd2 : ∀ e', e' ∈ l1 ++ l2 → e'.a.1 ≠ e.a.1) :
    HRel N w0 (upF (upF hf fb ⟨.x (l1 ++ l2), true, [], 2⟩) n ⟨.t e.ty, false, e.cs, e.tl⟩) (upR ρ0 n (e.a.1, 0)) w := by
  have hmem : e ∈ l1 ++ e :: l2 := by simp
  have he := h.fam fb _ true _ e hfb rfl hmem
  obtain ⟨hN, -, t, ht, hheap⟩ := he.1.own rfl
  have hne : n ≠ fb := fun e1 => by rw [← e1, hn] at hfb; cases hfb
  have k2 := h.ghost (fb := fb) (l := l1 ++ l2) (fun e' he' => by
    have := h.fam fb _ true _ e' hfb rfl (by
      rcases List.mem_append.1 he' with h1 | h1
      · exact List.mem_append_left _ h1
      · exact List.mem_append_right _ (List.mem_cons_of_mem _ h1))
    exact ⟨this.1, fun j c _ hj hc => this.2 j c hj hc⟩)
  have hup : ∀ i b, upF hf fb ⟨.x (l1 ++ l2), true, [], 2⟩ i = some b → (i = fb ∧ b = ⟨.x (l1 ++ l2), true, [], 2⟩) ∨ (i ≠ fb ∧ hf i = some b) := fun i b hi => by
    unfold upF at hi
    split at hi
    · rename_i e1; cases hi; exact .inl ⟨e1, rfl⟩
    · rename_i e1; exact .inr ⟨e1, hi⟩
  refine k2.app (w' := w) (g0 := some e.a.1) (c := ⟨.t e.ty, false, e.cs, e.tl⟩) (by unfold upF; rw [if_neg hne]; exact hn) (World.grownBy.refl _ _) (fun k hk => ?_) (fun k hk i b o l e' hi hm he' => ?_) (.inl rfl) rfl hheap ht (fun ρ _ => he.1.pure _ _)
  · cases hk
    refine ⟨hN, ⟨_, _, _, hheap⟩, fun i b hi hv => ?_⟩
    rcases hup i b hi with ⟨rfl, rfl⟩ | ⟨_, hi⟩
    · cases hv
    · rcases hlive i b hi with h1 | h1
      · exact he.2 i b hi h1
      · rw [h1] at hv; cases hv
  · cases hk
    rcases hup i b hi with ⟨rfl, rfl⟩ | ⟨hif, hi⟩
    · cases hm; exact hd2 e' he'
    · cases o with
      | true => exact hdis i b l hi hif hm e' he'
      | false =>
        have := (h.fam i b false l e' hi hm he').1.old rfl
        omega
/-- and a piece again -/
theorem HRel.refrz (h : HRel N w0 hf ρ0 w) {fb n : Nat} {ty : TypeId} {cs : List C} {tl : Nat} (hn : hf n = some ⟨.t ty, false, cs, tl⟩) (hpure : PureL cs) {l1 l2 : List Ent} (hfb : hf fb = some ⟨.x (l1 ++ l2), true, [], 2⟩) :
    HRel N w0 (upF (upF hf n ⟨.t 0, true, [], 0⟩) fb ⟨.x (l1 ++ ⟨((ρ0 n).1, 0), cs, ty, tl⟩ :: l2), true, [], 2⟩) ρ0 w := by
  obtain ⟨h01, t0, ht0, hheap⟩ := (h.holds ρ0 (Agr.refl _ _) n _ hn).2 rfl
  have h3 : cellsL (fun _ => (0, 0)) cs = cellsL ρ0 cs := hpure _ _
  have e1 : FamAt N w true ⟨((ρ0 n).1, 0), cs, ty, tl⟩ := by
    refine ⟨hpure, ⟨_, hheap, rfl⟩, fun _ => ⟨h.own n _ hn rfl, rfl, t0, ht0, by rw [h3]; exact hheap⟩, ?_, fun h => (by cases h)⟩
    have h2 := (h.holds ρ0 (Agr.refl _ _) n _ hn).1
    show w.rangeAt (ρ0 n).1 0 (cellsL (fun _ => (0, 0)) cs)
    rw [h3]
    rw [h01] at h2
    exact h2
  have k1 := h.kill (b := n) (v := ⟨.t 0, true, [], 0⟩) rfl (map_tl rfl) (fam_tl rfl)
  have own : ∀ j c, upF hf n ⟨.t 0, true, [], 0⟩ j = some c → c.ro = false → j ≠ n ∧ hf j = some c := fun j c hj hc => by
    unfold upF at hj
    split at hj
    · cases hj; cases hc
    · rename_i e; exact ⟨e, hj⟩
  refine k1.ghost fun e he => ?_
  have old : ∀ e, e ∈ l1 ++ l2 → FamAt N w true e ∧ ∀ j c, j ≠ fb → upF hf n ⟨.t 0, true, [], 0⟩ j = some c → c.ro = false → (ρ0 j).1 ≠ e.a.1 := fun e he => by
    have := h.fam fb _ true _ e hfb rfl he
    exact ⟨this.1, fun j c _ hj hc => this.2 j c (own j c hj hc).2 hc⟩
  rcases List.mem_append.1 he with he | he
  · exact old e (List.mem_append_left _ he)
  · rcases List.mem_cons.1 he with rfl | he
    · exact ⟨e1, fun j c _ hj hc => h.apart n j _ c hn rfl (own j c hj hc).2 (own_live hc) (own j c hj hc).1⟩
    · exact old e (List.mem_append_right _ he)
end
/-- a block forgotten, ahead of an operation -/
def okl (E : Env) (H : FuncId → List SV → List Blk → (SV → List Blk → Prop) → Prop) (O : Oper → List SV → List Blk → (List SV → List Blk → Prop) → Prop) : Nat → Oper → List SV → List Blk → (List SV → List Blk → Prop) → Prop
  | 0, o, tm, hp, K => O o tm hp K
  | n + 1, o, tm, hp, K => O o tm hp K ∨ ∃ b, (match nthO hp b with
    | some _ => updK hp b ⟨.t 0, true, [], 0⟩ fun hp' => vcOp { E with O := okl E H O n } H o tm hp' K
    | none => False)
theorem okl_ok {P : Program} {E : Env} (hE : EOk P E) {H : FuncId → List SV → List Blk → (SV → List Blk → Prop) → Prop} (hH : HOk P H) {O : Oper → List SV → List Blk → (List SV → List Blk → Prop) → Prop} (hO : OOk P O) : ∀ n, OOk P (okl E H O n)
  | 0 => hO
  | n + 1 => fun o tm hp K h N w0 a w next Q hr hn => by
    rcases h with h | ⟨b, h⟩
    · exact hO o tm hp K h hr hn
    · split at h
      · rename_i c hc
        rw [updK_eq] at h
        obtain ⟨ρ0, hh, ht, hd⟩ := hr
        have hE2 : EOk P { E with O := okl E H O n } := ⟨hE.T, hE.D, okl_ok hE hH hO n, hE.R⟩
        have e := nthO_set hp b (⟨.t 0, true, [], 0⟩ : Blk) _ hc
        refine vcOp_ok hE2 hH h ⟨ρ0, by rw [e]; exact hh.kill rfl (map_tl rfl) (fam_tl rfl), fun ρ hρ => ht ρ fun i hi => hρ i ?_, hd⟩ hn
        rw [e]; unfold upF; split
        · rfl
        · exact hi
      · exact h.elim
/-- a piece that a slice in a slot speaks of becomes a block of one's own -/
def thwB (hp : List Blk) (v : Value) (K : Nat → List Blk → SV → Prop) : Prop :=
  ∃ (nl : Bool) (r len cap : Nat) (h : SliOk nl len cap) (fb : Nat) (l1 : List Ent) (e : Ent) (l2 : List Ent), v = .slice (nlA nl ⟨r, 0, none⟩) len cap ∧ e.a.1 = r ∧ nthO hp fb = some ⟨.x (l1 ++ e :: l2), true, [], 2⟩ ∧
    (noRo hp ∧ disF r fb 0 hp ∧ ∀ e', e' ∈ l1 ++ l2 → e'.a.1 ≠ r) ∧ updK hp fb ⟨.x (l1 ++ l2), true, [], 2⟩ fun hp1 => snocK hp1 ⟨.t e.ty, false, e.cs, e.tl⟩ fun hp' => lenK hp fun n => K n hp' (.c (.sli nl n 0 len cap h))
theorem thwB_ok {hp : List Blk} {v : Value} {K : Nat → List Blk → SV → Prop} (h : thwB hp v K) {N : Nat} {w0 : Base} {ρ0 : Rho} {w : World} (hh : HRel N w0 (nthO hp) ρ0 w) :
    ∃ hp' s p, K hp.length hp' s ∧ HRel N w0 (nthO hp') (upR ρ0 hp.length p) w ∧ (∀ i, (nthO hp i).isSome = true → (nthO hp' i).isSome = true ∧ upR ρ0 hp.length p i = ρ0 i) ∧ ∀ ρ, Agr (nthO hp') ρ (upR ρ0 hp.length p) → s.den ρ = v := by
  obtain ⟨nl, r, len, cap, hl, fb, l1, e, l2, rfl, rfl, hfb, ⟨h1, h2, h3⟩, h⟩ := h
  rw [updK_eq, snocK_eq, lenK_eq] at h
  have hn := nthO_none hp
  have hs1 := nthO_set hp fb (⟨.x (l1 ++ l2), true, [], 2⟩ : Blk) _ hfb
  have hsn : nthO (hp.set fb (⟨.x (l1 ++ l2), true, [], 2⟩ : Blk) ++ [(⟨.t e.ty, false, e.cs, e.tl⟩ : Blk)]) = upF (upF (nthO hp) fb ⟨.x (l1 ++ l2), true, [], 2⟩) hp.length ⟨.t e.ty, false, e.cs, e.tl⟩ := by
    rw [nthO_snoc', hs1, List.length_set]
  have ht := hh.thaw hn hfb (fun i b hi => noRo_get h1 hi) (fun i b l hi hne hm e' he' => disB_get (disF_get h2 hi (by rw [Nat.zero_add]; exact hne)) hm e' he') h3
  have hag : ∀ i, (nthO hp i).isSome = true → i ≠ hp.length := fun i hi e1 => by rw [e1, hn] at hi; cases hi
  refine ⟨_, _, (e.a.1, 0), h, by rw [hsn]; exact ht, fun i hi => ⟨?_, if_neg (hag i hi)⟩, fun ρ hρ => ?_⟩
  · rw [hsn]; unfold upF; split
    · rfl
    · split
      · rfl
      · exact hi
  · have : ρ hp.length = (e.a.1, 0) := by
      rw [hρ _ (by rw [hsn]; unfold upF; rw [if_pos rfl]; rfl)]; unfold upR; rw [if_pos rfl]
    simp [SV.den, C.den, C.cells, this]
def argT (hp : List Blk) : List SV → Nat → (List SV → List Blk → Prop) → Prop
  | [], _, _ => False
  | x :: l, 0, K => (match x with
    | .c (.val v) => thwB hp v fun _ hp' s => K (s :: l) hp'
    | _ => False)
  | x :: l, k + 1, K => argT hp l k fun l hp' => K (x :: l) hp'
theorem argT_ok {hp : List Blk} : ∀ {l : List SV} {k : Nat} {K : List SV → List Blk → Prop}, argT hp l k K → ∀ {N : Nat} {w0 : Base} {ρ0 : Rho} {w : World}, HRel N w0 (nthO hp) ρ0 w →
    ∃ hp' l' p, K l' hp' ∧ HRel N w0 (nthO hp') (upR ρ0 hp.length p) w ∧ (∀ i, (nthO hp i).isSome = true → (nthO hp' i).isSome = true ∧ upR ρ0 hp.length p i = ρ0 i) ∧ ∀ ρ, Agr (nthO hp') ρ (upR ρ0 hp.length p) → Agr (nthO hp) ρ ρ0 → l'.map (SV.den ρ) = l.map (SV.den ρ)
  | [], _, _, h => h.elim
  | x :: l, k + 1, K, h => fun hh => by
    have h : argT hp l k fun l hp' => K (x :: l) hp' := h
    obtain ⟨hp', l', p, h1, h2, h3, h4⟩ := argT_ok h hh
    exact ⟨hp', x :: l', p, h1, h2, h3, fun ρ hρ hr => by rw [List.map_cons, List.map_cons, h4 ρ hρ hr]⟩
  | x :: l, 0, K, h => fun hh => by
    unfold argT at h
    split at h
    · obtain ⟨hp', s, p, h1, h2, h3, h4⟩ := thwB_ok h hh
      exact ⟨hp', s :: l, p, h1, h2, h3, fun ρ hρ _ => by rw [List.map_cons, List.map_cons, h4 ρ hρ]; rfl⟩
    · exact h.elim
def othw (E : Env) (H : FuncId → List SV → List Blk → (SV → List Blk → Prop) → Prop) (O : Oper → List SV → List Blk → (List SV → List Blk → Prop) → Prop) : Nat → Oper → List SV → List Blk → (List SV → List Blk → Prop) → Prop
  | 0, o, tm, hp, K => O o tm hp K
  | n + 1, o, tm, hp, K => O o tm hp K ∨ ∃ k, argT hp tm k fun tm hp' => vcOp { E with O := othw E H O n } H o tm hp' K
theorem othw_ok {P : Program} {E : Env} (hE : EOk P E) {H : FuncId → List SV → List Blk → (SV → List Blk → Prop) → Prop} (hH : HOk P H) {O : Oper → List SV → List Blk → (List SV → List Blk → Prop) → Prop} (hO : OOk P O) : ∀ n, OOk P (othw E H O n)
  | 0 => hO
  | n + 1 => fun o tm hp K h N w0 a w next Q hr hn => by
    rcases h with h | ⟨k, h⟩
    · exact hO o tm hp K h hr hn
    · obtain ⟨ρ0, hh, ht, hd⟩ := hr
      obtain ⟨hp', l', p, h1, h2, h3, h4⟩ := argT_ok h hh
      have hE2 : EOk P { E with O := othw E H O n } := ⟨hE.T, hE.D, othw_ok hE hH hO n, hE.R⟩
      exact vcOp_ok hE2 hH h1 ⟨_, h2, fun ρ hρ => by rw [h4 ρ hρ (hρ.sub h3)]; exact ht ρ (hρ.sub h3), hd⟩ hn
/-! addresses in words -/
def oAdr (T : TypeId → Option TI) (O : Oper → List SV → List Blk → (List SV → List Blk → Prop) → Prop) (o : Oper) (tm : List SV) (hp : List Blk) (K : List SV → List Blk → Prop) : Prop :=
  O o tm hp K ∨ match o.op with
  | .indexAddr t x i => (match T t with
    | some { sh := .slice _ esz _, .. } => ∃ r off len cap j, evm tm x = .c (.val (.slice (some ⟨r, off, none⟩) len cap)) ∧ natOf (evm tm i) = some j ∧ j < len ∧ putK o.dst (.c (.val (.pointer (some ⟨r, off + j * esz, none⟩)))) tm fun tm => K tm hp
    | some { sh := .array n esz _, .. } => ∃ r off j, evm tm x = .c (.val (.pointer (some ⟨r, off, none⟩))) ∧ natOf (evm tm i) = some j ∧ j < n ∧ putK o.dst (.c (.val (.pointer (some ⟨r, off + j * esz, none⟩)))) tm fun tm => K tm hp
    | _ => False)
  | .fieldAddr t x f => (match T t with
    | some { sh := .struct fs, .. } => ∃ r off so n a, evm tm x = .c (.val (.pointer (some ⟨r, off, none⟩))) ∧ nthO fs f = some (so, n, a) ∧ n ≠ 0 ∧ putK o.dst (.c (.val (.pointer (some ⟨r, off + so, none⟩)))) tm fun tm => K tm hp
    | _ => False)
  | .load t x => (match T t with
    | some ti => ∃ r o1 off fb cs v, evm tm x = .c (.val (.pointer (some ⟨r, o1 + off, none⟩))) ∧ famHas hp fb (r, o1) cs ∧ (partC ti.agg cs off ti.size = some v ∧ ∀ ρ ρ' : Rho, v.den ρ = v.den ρ') ∧ v.force fun v => putK o.dst v tm fun tm => K tm hp
    | none => False)
  | .store t x y => (match (evm tm y).ch, T t with
    | some l, some ti => ∃ r off fb l1 e l2 cs', evm tm x = .c (.val (.pointer (some ⟨r, off, none⟩))) ∧ (sizeC l = ti.size ∧ allOne l = true ∧ e.a.1 = r) ∧ nthO hp fb = some ⟨.x (l1 ++ e :: l2), true, [], 2⟩ ∧ (putC e.cs off l = some cs' ∧ PureL cs') ∧
      (noRo hp ∧ disF r fb 0 hp ∧ ∀ e', e' ∈ l1 ++ l2 → e'.a.1 ≠ r) ∧ updK hp fb ⟨.x (l1 ++ ⟨(r, 0), cs', e.ty, e.tl⟩ :: l2), true, [], 2⟩ fun hp1 => snocK hp1 ⟨.t 0, true, [], 0⟩ fun hp' => putK o.dst uv tm fun tm => K tm hp'
    | _, _ => False)
  | _ => False
open Classical in
theorem oAdr_ok {P : Program} {T : TypeId → Option TI} (hT : TOk P T) {O : Oper → List SV → List Blk → (List SV → List Blk → Prop) → Prop} (hO : OOk P O) : OOk P (oAdr T O) := fun o tm hp K h N w0 a w next Q hr hn => by
  rcases h with h | h
  · exact hO o tm hp K h hr hn
  obtain ⟨ρ0, hh, ht, hd⟩ := hr
  have hev : ∀ ρ, Agr (nthO hp) ρ ρ0 → a.eval = evr (evm tm) ρ := fun ρ hρ => eval_ok (ht ρ hρ)
  have hev0 := hev ρ0 (Agr.refl _ _)
  have hN := nthO_none hp
  have fin : ∀ sv : SV, (∀ ρ ρ' : Rho, sv.den ρ = sv.den ρ') → (execOp a.eval o).run P w = .ok (.value (sv.den ρ0)) w → (putK o.dst sv tm fun tm => K tm hp) → o.wp P a w next Q := fun sv h1 hrun hk => by
    unfold Oper.wp
    rw [hrun]
    rw [putK_eq] at hk
    exact hn _ _ _ _ hk (RelS.put ht hd hh (fun i hi => ⟨hi, rfl⟩) o.dst fun ρ _ => h1 ρ0 ρ)
  -- a pointer in words and a block at its place
  have turn : ∀ (x : Operand) (r b off : Nat), evm tm x = .c (.val (.pointer (some ⟨r, b + off, none⟩))) → a.eval = evr (fun z => if z = x then .c (.ptr hp.length off) else evm tm z) (upR ρ0 hp.length (r, b)) := fun x r b off hx => by
    have h1 := hev (upR ρ0 hp.length (r, b)) fun i hi => if_neg fun e => by rw [e, hN] at hi; cases hi
    funext z
    by_cases e : z = x
    · subst e
      rw [h1]
      simp only [evr, hx, if_true, SV.den, C.den, C.cells, adr, upR, List.headD_cons]
    · rw [h1]
      simp only [evr, if_neg e]
  split at h
  · rename_i t x i hop
    split at h
    · rename_i sz ag z e esz ez eq hTt
      obtain ⟨r, off, len, cap, j, hx, hi, hlt, hk⟩ := h
      refine fin _ (fun _ _ => rfl) ?_ hk
      obtain ⟨hu, he, hie, -⟩ := sh_ok hT hTt
      obtain ⟨ie, hie⟩ := Option.isSome_iff_exists.1 hie
      have hs := run_sizeOf w hie
      have hpx : (SV.c (C.val (.slice (some ⟨r, off, none⟩) len cap))).den ρ0 = .slice (some ⟨r, off, none⟩) len cap := rfl
      have hj : (0 : Int) ≤ (j : Int) ∧ (j : Int) < (len : Int) := ⟨by omega, by omega⟩
      rw [hev0]
      simp only [execOp, hop, evr, hx, natOf_ok hi ρ0, hpx, Instr.indexAt, asIntOf, Sem.run_bind, Sem.run_pure, Result.andThen_ok, run_underlying hu w]
      rw [if_pos hj]
      simp only [Sem.run_bind, hs, Result.andThen_ok, Sem.run_pure, Addr.add_mid, Int.toNat_natCast, he]
      simp [SV.den, C.den, C.cells]
    · rename_i sz ag z n esz eg eq hTt
      obtain ⟨r, off, j, hx, hi, hlt, hk⟩ := h
      refine fin _ (fun _ _ => rfl) ?_ hk
      obtain ⟨e, hu, he, hr, -⟩ := sh_ok hT hTt
      obtain ⟨ie, hie⟩ := info_of_rowO hr
      have hs := run_sizeOf w hie
      have hpx : (SV.c (C.val (.pointer (some ⟨r, off, none⟩)))).den ρ0 = .pointer (some ⟨r, off, none⟩) := rfl
      have hj : (0 : Int) ≤ (j : Int) ∧ (j : Int) < (n : Int) := ⟨by omega, by omega⟩
      rw [hev0]
      simp only [execOp, hop, evr, hx, natOf_ok hi ρ0, hpx, Instr.indexAt, asIntOf, Sem.run_bind, Sem.run_pure, Result.andThen_ok, run_underlying hu w, Instr.sureAddr]
      rw [if_pos hj]
      simp only [Sem.run_bind, hs, Result.andThen_ok, Sem.run_pure, Addr.add_mid, Int.toNat_natCast, he]
      simp [SV.den, C.den, C.cells]
    · exact h.elim
  · rename_i t x f hop
    split at h
    · rename_i sz ag z fs eq hTt
      obtain ⟨r, off, so, n, ag2, hx, hf, hn0, hk⟩ := h
      refine fin _ (fun _ _ => rfl) ?_ hk
      obtain ⟨fd, hu, hm, -⟩ := sh_ok hT hTt
      obtain ⟨g, hg, rfl, rfl, hr⟩ := fields_get hm hf
      obtain ⟨i, hi⟩ := info_of_rowO hr
      have e : (SV.c (C.val (.pointer (some ⟨r, off, none⟩)))).den ρ0 = .pointer (some ⟨r, off, none⟩) := rfl
      have hs := run_sizeOf w hi
      rw [hev0]
      simp only [execOp, hop, evr, hx, e, Instr.fieldAt, Sem.run_bind, run_underlying hu w, Result.andThen_ok, hg, Instr.sureAddr, Sem.run_pure, fieldPlace, hs]
      rw [if_neg hn0]
      simp only [Sem.run_pure, Result.andThen_ok, Addr.add_mid]
      simp [SV.den, C.den, C.cells]
    · exact h.elim
  · rename_i t x hop
    split at h
    · rename_i ti hTt
      obtain ⟨r, o1, off, fb, cs, v, hx, ⟨b, o', l, h1, h2, ⟨⟨r', o2⟩, cs', ty1, tl1⟩, h3, h4, h5⟩, ⟨hv, hpv⟩, hk⟩ := h
      simp only at h4 h5
      cases h4; subst h5
      rw [SV.force_eq] at hk
      have hf := hh.fam fb b o' l _ h1 h2 h3
      have hcs : cellsL ρ0 cs' = cellsL (fun _ => (0, 0)) cs' := hf.1.pure _ _
      have hadd := hh.addAt (n := hp.length) (v := ⟨.t 0, true, cs', 0⟩) hN rfl rfl hf.1.pure (r, o1) (.inr ⟨hf.1.lt, hf.2, by rw [hcs]; exact hf.1.holds⟩)
      refine fin v hpv ?_ hk
      rw [turn x r o1 off hx, hpv ρ0 (upR ρ0 hp.length (r, o1))]
      refine eff_val hT (hp := upF (nthO hp) hp.length ⟨.t 0, true, cs', 0⟩) ?_ _ w fun i c hi => hadd.holds _ (Agr.refl _ _) i c hi
      rw [hop]
      have hb : upF (nthO hp) hp.length ⟨.t 0, true, cs', 0⟩ hp.length = some ⟨.t 0, true, cs', 0⟩ := by unfold upF; rw [if_pos rfl]
      simp only [eff, if_true, hTt, hb, hv]
    · exact h.elim
  · rename_i t x y hop
    split at h
    · rename_i l ti hy hTt
      obtain ⟨r, off, fb, l1, e, l2, cs', hx, ⟨hs, hone, rfl⟩, hfb, ⟨hc, hpure⟩, ⟨k1, k2, k3⟩, hk⟩ := h
      rw [updK_eq, snocK_eq, putK_eq] at hk
      have ht2 := hh.thaw hN hfb (fun i b hi => noRo_get k1 hi) (fun i b l hi hne hm e' he' => disB_get (disF_get k2 hi (by rw [Nat.zero_add]; exact hne)) hm e' he') k3
      have hnf : hp.length ≠ fb := fun e1 => by rw [← e1, hN] at hfb; cases hfb
      have hag : Agr (nthO hp) (upR ρ0 hp.length (e.a.1, 0)) ρ0 := fun i hi => if_neg fun e => by rw [e, hN] at hi; cases hi
      have hblk : upF (upF (nthO hp) fb ⟨.x (l1 ++ l2), true, [], 2⟩) hp.length ⟨.t e.ty, false, e.cs, e.tl⟩ hp.length = some ⟨.t e.ty, false, e.cs, e.tl⟩ := by unfold upF; rw [if_pos rfl]
      have rn : upR ρ0 hp.length (e.a.1, 0) hp.length = (e.a.1, 0) := by unfold upR; rw [if_pos rfl]
      obtain ⟨h1, tt, htt, h2⟩ := run_store_sx hT hTt (ht2.holds _ (Agr.refl _ _) _ _ hblk) rfl (off := off) hy hs hone hc
      have hput := ht2.put (cs := cs') (M := cellsL (upR ρ0 hp.length (e.a.1, 0)) l) (off := off) hblk rfl (fun ρ _ => ⟨tt, htt, by rw [show cellsL ρ cs' = cellsL (upR ρ0 hp.length (e.a.1, 0)) cs' from hpure _ _]; exact h2⟩)
      have hfb2 : upF (upF (upF (nthO hp) fb ⟨.x (l1 ++ l2), true, [], 2⟩) hp.length ⟨.t e.ty, false, e.cs, e.tl⟩) hp.length ⟨.t e.ty, false, cs', e.tl⟩ fb = some ⟨.x (l1 ++ l2), true, [], 2⟩ := by
        unfold upF; rw [if_neg (Ne.symm hnf), if_neg (Ne.symm hnf), if_pos rfl]
      have hz := hput.refrz (by unfold upF; rw [if_pos rfl]) hpure hfb2
      rw [rn] at hz
      have hfin : nthO (hp.set fb (⟨.x (l1 ++ ⟨(e.a.1, 0), cs', e.ty, e.tl⟩ :: l2), true, [], 2⟩ : Blk) ++ [(⟨.t 0, true, [], 0⟩ : Blk)]) = upF (upF (upF (upF (upF (nthO hp) fb ⟨.x (l1 ++ l2), true, [], 2⟩) hp.length ⟨.t e.ty, false, e.cs, e.tl⟩) hp.length ⟨.t e.ty, false, cs', e.tl⟩) hp.length ⟨.t 0, true, [], 0⟩) fb ⟨.x (l1 ++ ⟨(e.a.1, 0), cs', e.ty, e.tl⟩ :: l2), true, [], 2⟩ := by
        rw [nthO_snoc', nthO_set hp fb _ _ hfb, List.length_set]
        funext i
        unfold upF
        by_cases e1 : i = fb
        · rw [if_neg (fun e2 => hnf (e2.symm.trans e1)), if_pos e1, if_pos e1]
        · rw [if_neg e1, if_neg e1]
          by_cases e2 : i = hp.length
          · rw [if_pos e2, if_pos e2]
          · simp only [if_neg e2, if_neg e1]
      have hax : a.eval x = adr (upR ρ0 hp.length (e.a.1, 0)) hp.length off := by
        rw [hev0]
        simp only [evr, hx, SV.den, C.den, C.cells, adr, rn, List.headD_cons, Nat.zero_add]
      have hay : a.eval y = (evm tm y).den (upR ρ0 hp.length (e.a.1, 0)) := by rw [hev _ hag]; rfl
      unfold Oper.wp
      have hrun : (execOp a.eval o).run P w = .ok .skip (w.setCells (upR ρ0 hp.length (e.a.1, 0) hp.length).1 off (cellsL (upR ρ0 hp.length (e.a.1, 0)) l)) := by
        simp only [execOp, hop, hax, hay, Sem.run_bind, h1, Result.andThen_ok, Sem.run_pure]
      rw [hrun]
      refine hn _ _ _ _ hk (RelS.put (ρ1 := upR ρ0 hp.length (e.a.1, 0)) ht hd ?_ (fun i hi => ⟨?_, hag i hi⟩) o.dst fun ρ hρ => rfl)
      · rw [hfin, rn]; exact hz
      · rw [hfin]; unfold upF
        (repeat' split) <;> first | rfl | exact hi
    · exact h.elim
  · exact h.elim
end Go.Proofs.YthmdmbpecgakkaaDoor

namespace Go.Proofs.YthmdmbpecgakkaaDoor
open Go.RowKit

/-- what holds of the places of a family's pieces -/
def famB (φ : Nat → Prop) (b : Blk) : Prop :=
  match b.ty with
  | .x l => (match b.ro, b.tl with
    | true, 2 => ∀ e, e ∈ l → φ e.a.1
    | true, 3 => ∀ e, e ∈ l → φ e.a.1
    | _, _ => True)
  | _ => True
theorem famB_of {φ : Nat → Prop} {b : Blk} (h : ∀ o l e, b.famOf = some (o, l) → e ∈ l → φ e.a.1) : famB φ b := by
  obtain ⟨ty, ro, cs, tl⟩ := b
  unfold famB
  simp only
  split
  · split
    · exact fun e he => h true _ e rfl he
    · exact fun e he => h false _ e rfl he
    · trivial
  · trivial
def allF (φ : Nat → Prop) : List Blk → Prop
  | [] => True
  | b :: l => famB φ b ∧ allF φ l
theorem allF_of {φ : Nat → Prop} : ∀ (l : List Blk), (∀ i b o m e, nthO l i = some b → b.famOf = some (o, m) → e ∈ m → φ e.a.1) → allF φ l
  | [], _ => trivial
  | b :: l, h => ⟨famB_of fun o m e hm he => h 0 b o m e rfl hm he, allF_of l fun i c o m e hi hm he => h (i + 1) c o m e hi hm he⟩
/-- a block of one's own, b, becomes a piece of the family fb; the cells of block x speak of it by its address -/
def frzD (hp : List Blk) (fb b x : Nat) (K : List Blk → Prop) : Prop :=
  match nthO hp fb, nthO hp b, nthO hp x with
  | some ⟨.x l, true, [], 2⟩, some ⟨.t ty1, false, cs, tl1⟩, some ⟨ty2, false, cs2, tl2⟩ => (PureL cs ∧ Nat.beq b x = false ∧ Nat.beq fb x = false) ∧ ∀ r, allF (fun a => a ≠ r) hp → updK hp fb ⟨.x (l ++ [⟨(r, 0), cs, ty1, tl1⟩]), true, [], 2⟩ fun hp => updK hp b ⟨.t 0, true, [], 0⟩ fun hp => forceL (frzL b r cs2) fun cs3 => updK hp x ⟨ty2, false, cs3, tl2⟩ K
  | _, _, _ => False
theorem frzD_ok {hp : List Blk} {fb b x : Nat} {K : List Blk → Prop} (h : frzD hp fb b x K) {N : Nat} {w0 : Base} {ρ0 : Rho} {w : World} (hh : HRel N w0 (nthO hp) ρ0 w) : ∃ hp', K hp' ∧ Frz N w0 ρ0 w hp hp' := by
  unfold frzD at h
  split at h
  · rename_i l t cs tl ty2 cs2 tl2 hfb hb hx
    obtain ⟨⟨hpure, hbx, hfx⟩, h⟩ := h
    have hbx : b ≠ x := fun e => by subst e; rw [Nat.beq_refl] at hbx; cases hbx
    have hfx : fb ≠ x := fun e => by subst e; rw [Nat.beq_refl] at hfx; cases hfx
    have hfbb : fb ≠ b := fun e => by subst e; rw [hfb] at hb; cases hb
    have h := h (ρ0 b).1 (allF_of _ fun i c o l e hi hm he => fun e2 => (hh.fam i c o l e hi hm he).2 b _ hb rfl e2.symm)
    simp only [updK_eq, forceL_eq] at h
    obtain ⟨h01, t0, ht0, hheap⟩ := (hh.holds ρ0 (Agr.refl _ _) b _ hb).2 rfl
    have hlt := hh.old b _ hb rfl
    have e1 : FamAt N w true ⟨((ρ0 b).1, 0), cs, t, tl⟩ := by
      have h3 : cellsL (fun _ => (0, 0)) cs = cellsL ρ0 cs := hpure _ _
      refine ⟨hpure, ⟨_, hheap, rfl⟩, fun _ => ⟨hh.own b _ hb rfl, rfl, t0, ht0, by rw [h3]; exact hheap⟩, ?_, fun h => (by cases h)⟩
      have h2 := (hh.holds ρ0 (Agr.refl _ _) b _ hb).1
      show w.rangeAt (ρ0 b).1 0 (cellsL (fun _ => (0, 0)) cs)
      rw [h3]
      rw [h01] at h2
      exact h2
    have k1 := hh.kill (b := b) (v := ⟨.t 0, true, [], 0⟩) rfl (map_tl rfl) (fam_tl rfl)
    have k2 := k1.ghost (fb := fb) (l := l ++ [⟨((ρ0 b).1, 0), cs, t, tl⟩]) (fun e he => by
      have own : ∀ j c, upF (nthO hp) b ⟨.t 0, true, [], 0⟩ j = some c → c.ro = false → j ≠ b ∧ nthO hp j = some c := fun j c hj hc => by
        unfold upF at hj
        split at hj
        · cases hj; cases hc
        · rename_i e; exact ⟨e, hj⟩
      rcases List.mem_append.1 he with he | he
      · have := hh.fam fb _ true l e hfb rfl he
        exact ⟨this.1, fun j c _ hj hc => this.2 j c (own j c hj hc).2 hc⟩
      · rw [List.mem_singleton.1 he]
        exact ⟨e1, fun j c _ hj hc => hh.apart b j _ c hb rfl (own j c hj hc).2 (own_live hc) (own j c hj hc).1 |> fun h => h⟩)
    have hxx : upF (upF (nthO hp) b ⟨.t 0, true, [], 0⟩) fb ⟨.x (l ++ [⟨((ρ0 b).1, 0), cs, t, tl⟩]), true, [], 2⟩ x = some ⟨ty2, false, cs2, tl2⟩ := by
      unfold upF; rw [if_neg (Ne.symm hfx), if_neg (Ne.symm hbx)]; exact hx
    have k3 := k2.turn (d := ⟨ty2, false, frzL b (ρ0 b).1 cs2, tl2⟩) hxx rfl ⟨rfl, rfl, rfl⟩ (fun ρ hρ => by
      refine frzL_cells ?_ cs2
      have : ρ b = ρ0 b := hρ b (by unfold upF; split; rfl; split; rfl; rw [hb]; rfl)
      rw [this, ← h01])
    have s1 : nthO (hp.set fb ⟨.x (l ++ [⟨((ρ0 b).1, 0), cs, t, tl⟩]), true, [], 2⟩) = upF (nthO hp) fb ⟨.x (l ++ [⟨((ρ0 b).1, 0), cs, t, tl⟩]), true, [], 2⟩ := nthO_set _ _ _ _ hfb
    have s2 := nthO_set (hp.set fb ⟨.x (l ++ [⟨((ρ0 b).1, 0), cs, t, tl⟩]), true, [], 2⟩) b ⟨.t 0, true, [], 0⟩ _ (by rw [s1]; unfold upF; rw [if_neg (Ne.symm hfbb)]; exact hb)
    have s3 := nthO_set ((hp.set fb ⟨.x (l ++ [⟨((ρ0 b).1, 0), cs, t, tl⟩]), true, [], 2⟩).set b ⟨.t 0, true, [], 0⟩) x ⟨ty2, false, frzL b (ρ0 b).1 cs2, tl2⟩ _ (by rw [s2, s1]; unfold upF; rw [if_neg (Ne.symm hbx), if_neg (Ne.symm hfx)]; exact hx)
    have comm : upF (upF (nthO hp) fb ⟨.x (l ++ [⟨((ρ0 b).1, 0), cs, t, tl⟩]), true, [], 2⟩) b ⟨.t 0, true, [], 0⟩ = upF (upF (nthO hp) b ⟨.t 0, true, [], 0⟩) fb ⟨.x (l ++ [⟨((ρ0 b).1, 0), cs, t, tl⟩]), true, [], 2⟩ := by
      funext i
      unfold upF
      by_cases e1 : i = b
      · rw [if_pos e1, if_neg (fun e => hfbb (e.symm.trans e1)), if_pos e1]
      · rw [if_neg e1]
        split <;> rfl
    refine ⟨_, h, ?_, fun i => ?_⟩
    · rw [s3, s2, s1, comm]; exact k3
    · rw [s3, s2, s1]
      unfold upF
      split
      · rename_i e; rw [e, hx]; rfl
      · split
        · rename_i e; rw [e, hb]; rfl
        · split
          · rename_i e; rw [e, hfb]; rfl
          · rfl
  · exact h.elim
/-- freezing ahead of an operation by a law of its own -/
def ofzD (O : Oper → List SV → List Blk → (List SV → List Blk → Prop) → Prop) : Nat → Oper → List SV → List Blk → (List SV → List Blk → Prop) → Prop
  | 0, o, tm, hp, K => O o tm hp K
  | n + 1, o, tm, hp, K => O o tm hp K ∨ ∃ fb b x, frzD hp fb b x fun hp' => ofzD O n o tm hp' K
theorem ofzD_ok {P : Program} {O : Oper → List SV → List Blk → (List SV → List Blk → Prop) → Prop} (hO : OOk P O) : ∀ n, OOk P (ofzD O n)
  | 0 => hO
  | n + 1 => fun o tm hp K h N w0 a w next Q hr hn => by
    rcases h with h | ⟨fb, b, x, h⟩
    · exact hO o tm hp K h hr hn
    · obtain ⟨ρ0, hh, ht, hd⟩ := hr
      obtain ⟨hp', hK, hf⟩ := frzD_ok h hh
      exact ofzD_ok hO n o tm hp' K hK ⟨ρ0, hf.1, fun ρ hρ => ht ρ (hf.agr hρ), hd⟩ hn
def hnewD (l : List (FuncId × NewC)) (H : FuncId → List SV → List Blk → (SV → List Blk → Prop) → Prop) (f : FuncId) (args : List SV) (hp : List Blk) (K : SV → List Blk → Prop) : Prop :=
  match lkC l f with
  | some c => ∃ fb, (match nthO hp fb with
    | some ⟨.x fl, true, [], t⟩ => (t = 2 ∨ t = 3) ∧ argK hp 0 args fun args' ros bs => pureAll ros ∧ snocK ros ⟨.x fl, true, [], 3⟩ fun ros => c args' ros fun v news => ∀ s, allF (fun a => a < s) hp → allF (fun a => s ≤ a) news → lenK hp fun n => appB hp news fun hp' => snocK bs fb fun bs => K (v.mv bs n) hp'
    | _ => False)
  | none => H f args hp K
theorem hnewD_ok {P : Program} {l : List (FuncId × NewC)} (hl : AllX P l) {H : FuncId → List SV → List Blk → (SV → List Blk → Prop) → Prop} (hH : HOk P H) : HOk P (hnewD l H) := by
  intro f args hp K h
  unfold hnewD at h
  split at h
  · rename_i c hc
    have hsp := hl _ (lkC_mem hc)
    obtain ⟨fb, h⟩ := h
    split at h
    · rename_i fl t hfb
      obtain ⟨ht, h⟩ := h
      refine ⟨hsp.1, fun N w0 ρ0 w hh _ => ?_⟩
      obtain ⟨l', ros0, bs0, hK, hlen0, hro0, hbs0, hden0⟩ := argK_spec h
      obtain ⟨hpure0, hK⟩ := hK
      rw [snocK_eq] at hK
      have hfo : ∃ o, (⟨.x fl, true, [], t⟩ : Blk).famOf = some (o, fl) := by rcases ht with rfl | rfl <;> exact ⟨_, rfl⟩
      obtain ⟨ros, hros⟩ : ∃ ros, ros = ros0 ++ [⟨.x fl, true, [], 3⟩] := ⟨_, rfl⟩
      obtain ⟨bs, hbsd⟩ : ∃ bs, bs = bs0 ++ [fb] := ⟨_, rfl⟩
      rw [← hros] at hK
      have hlen : ros.length = bs.length := by rw [hros, hbsd]; simp [hlen0]
      have hpure : pureAll ros := by rw [hros]; exact pureAll_snoc (fun _ _ => rfl) hpure0
      have hro : roAllX ros := by rw [hros]; exact roAllX_snoc ⟨rfl, rfl⟩ hro0
      have hbs : ∀ (i b : Nat), bs[i]? = some b → ∃ c d, nthO hp b = some c ∧ nthO ros i = some d ∧ d.cs = c.cs := fun i b hi => by
        rw [hbsd] at hi
        by_cases hlt : i < bs0.length
        · rw [List.getElem?_append_left hlt] at hi
          obtain ⟨c', d', h1, h2, h3⟩ := hbs0 i b hi
          refine ⟨c', d', h1, ?_, h3⟩
          rw [hros, nthO_append, if_pos (by omega)]; exact h2
        · rw [List.getElem?_append_right (by omega)] at hi
          have e : i - bs0.length = 0 := by
            have := (List.getElem?_eq_some_iff.1 hi).1
            simp at this; omega
          rw [e] at hi
          simp at hi
          subst hi
          refine ⟨_, ⟨.x fl, true, [], 3⟩, hfb, ?_, rfl⟩
          rw [hros, nthO_append, if_neg (by omega), show i - ros0.length = 0 by omega]; rfl
      have hden : ∀ ρ ρ' : Rho, (∀ (i b : Nat), bs[i]? = some b → ρ' (0 + i) = ρ b) → args.map (SV.den ρ) = l'.map (SV.den ρ') := fun ρ ρ' h => hden0 ρ ρ' fun i b hi => h i b (by rw [hbsd, List.getElem?_append_left (List.getElem?_eq_some_iff.1 hi).1]; exact hi)
      let ρ : Rho := fun i => ρ0 (bs[i]?.getD 0)
      have hρ : ∀ (i b : Nat), bs[i]? = some b → ρ i = ρ0 b := fun i b hi => by show ρ0 (bs[i]?.getD 0) = ρ0 b; rw [hi]; rfl
      have hargs : args.map (SV.den ρ0) = l'.map (SV.den ρ) := hden ρ0 ρ (fun i b hi => by rw [Nat.zero_add]; exact hρ i b hi)
      rw [hargs]
      have hfam0 : ∀ i b o l, nthO ros i = some b → b.famOf = some (o, l) → o = false ∧ l = fl := fun i b o l hi hm => by
        rw [hros, nthO_append] at hi
        split at hi
        · rw [fam_tl (roAll_get2 hro0 hi).2] at hm; cases hm
        · have e : i - ros0.length = 0 := by
            rw [nthO_eq] at hi
            have := (List.getElem?_eq_some_iff.1 hi).1
            simp at this; omega
          rw [e] at hi
          cases hi
          cases hm
          exact ⟨rfl, rfl⟩
      refine (hsp.2 l' ros _ hK hro hpure ρ w (fun i d hd => ?_) (fun i b o l e hi hm he => ?_) (fun i b o l hi hm => (hfam0 i b o l hi hm).1)).mono ?_
      · have hi : i < ros.length := by rw [nthO_eq] at hd; exact (List.getElem?_eq_some_iff.1 hd).1
        obtain ⟨b, hb⟩ : ∃ b, bs[i]? = some b := ⟨_, List.getElem?_eq_getElem (by omega)⟩
        obtain ⟨c', d', h1, h2, h3⟩ := hbs i b hb
        rw [hd] at h2; cases h2
        have := (hh.holds ρ0 (Agr.refl _ _) b c' h1).1
        have hp2 : cellsL ρ d.cs = cellsL ρ0 d.cs := (pureAll_get hpure hd) ρ ρ0
        rw [hρ i b hb, hp2, h3]
        exact this
      · obtain ⟨rfl, rfl⟩ := hfam0 i b o l hi hm
        obtain ⟨o', ho'⟩ := hfo
        have := (hh.fam fb _ o' _ e hfb ho' he).1
        exact ⟨this.pure, this.row, fun h => (by cases h), this.holds, fun _ => this.lt⟩
      · rintro e w' ⟨v, news, σ, hK, hn, hc, hσ, he⟩
        have hK := hK w.heap.size (allF_of _ fun i c o l e hi hm he => (hh.fam i c o l e hi hm he).1.lt) (allF_of _ fun i c o l e hi hm he => by
          have ho := (newAll_get hn hi).1.fam hm
          exact ((hc.fam (ros.length + i) c o l e (by rw [nthO_append, if_neg (by omega), show ros.length + i - ros.length = i by omega]; exact hi) hm he).1.own ho).1)
        rw [lenK_eq, appB_eq, snocK_eq, ← hbsd] at hK
        refine ⟨_, _, _, hK, hh.join hc hn, fun i hi => ?_, fun ρ1 hρ1 => ?_⟩
        · have hil : i < hp.length := by
            obtain ⟨x, hx⟩ := Option.isSome_iff_exists.1 hi
            rw [nthO_eq] at hx; exact (List.getElem?_eq_some_iff.1 hx).1
          exact ⟨by rw [nthO_append, if_pos hil]; exact hi, if_pos hil⟩
        · rw [mv_den]
          refine he _ (fun k hk => ?_)
          have hkl : k < (ros ++ news).length := by
            obtain ⟨x, hx⟩ := Option.isSome_iff_exists.1 hk
            rw [nthO_eq] at hx; exact (List.getElem?_eq_some_iff.1 hx).1
          show ρ1 (mvN bs hp.length k) = σ k
          unfold mvN
          by_cases hkr : k < ros.length
          · have hkb : k < bs.length := by omega
            obtain ⟨b, hb⟩ : ∃ b, bs[k]? = some b := ⟨_, List.getElem?_eq_getElem hkb⟩
            rw [nthO_eq, hb]
            obtain ⟨c', d', h1, -⟩ := hbs k b hb
            have hbl : b < hp.length := by rw [nthO_eq] at h1; exact (List.getElem?_eq_some_iff.1 h1).1
            rw [hσ k hkr, hρ k b hb]
            have := hρ1 b (by rw [nthO_append, if_pos hbl, h1]; rfl)
            rw [this]; exact if_pos hbl
          · rw [nthO_eq, List.getElem?_eq_none (by omega)]
            have hx : (nthO (hp ++ news) (hp.length + (k - bs.length))).isSome = true := by
              rw [nthO_append, if_neg (by omega)]
              rw [nthO_append, if_neg hkr] at hk
              rw [show hp.length + (k - bs.length) - hp.length = k - ros.length by omega]; exact hk
            have := hρ1 _ hx
            show ρ1 (hp.length + (k - bs.length)) = σ k
            rw [this]
            show (if hp.length + (k - bs.length) < hp.length then _ else σ (hp.length + (k - bs.length) - hp.length + ros.length)) = σ k
            rw [if_neg (by omega)]
            congr 1; omega
    · exact h.elim
  · exact hH f args hp K h
end Go.Proofs.YthmdmbpecgakkaaDoor

namespace Go.Proofs.YthmdmbpecgakkaaDoor
open Go.RowKit

def hkl (H : FuncId → List SV → List Blk → (SV → List Blk → Prop) → Prop) (f : FuncId) (args : List SV) (hp : List Blk) (K : SV → List Blk → Prop) : Prop :=
  H f args hp K ∨ ∃ b, match nthO hp b with
    | some _ => updK hp b ⟨.t 0, true, [], 0⟩ fun hp' => H f args hp' K
    | none => False
theorem hkl_ok {P : Program} {H : FuncId → List SV → List Blk → (SV → List Blk → Prop) → Prop} (hH : HOk P H) : HOk P (hkl H) := fun f args hp K h => by
  rcases h with h | ⟨b, h⟩
  · exact hH f args hp K h
  · split at h
    · rename_i c hc
      rw [updK_eq] at h
      have e := nthO_set hp b (⟨.t 0, true, [], 0⟩ : Blk) _ hc
      have hs : ∀ i, (nthO hp i).isSome = true → (nthO (hp.set b (⟨.t 0, true, [], 0⟩ : Blk)) i).isSome = true := fun i hi => by
        rw [e]; unfold upF; split
        · rfl
        · exact hi
      refine ⟨(hH f args _ K h).1, fun N w0 ρ0 w hh hargs => ?_⟩
      refine ((hH f args _ K h).2 N w0 ρ0 w (by rw [e]; exact hh.kill rfl (map_tl rfl) (fam_tl rfl)) fun ρ hρ => hargs ρ fun i hi => hρ i (hs i hi)).mono ?_
      rintro x w' ⟨v, hp2, ρ1, k1, k2, k3, k4⟩
      exact ⟨v, hp2, ρ1, k1, k2, fun i hi => k3 i (hs i hi), k4⟩
    · exact h.elim
end Go.Proofs.YthmdmbpecgakkaaDoor

namespace Go.Proofs.YthmdmbpecgakkaaDoor
open Go.RowKit

def BV.t1 : BV → T1
  | .c x => .c x.c
  | .agg l => .agg (l.map B1.c)
theorem b1_cellsL (ρ : Rho) : ∀ l : List B1, cellsL ρ (l.map B1.c) = l.flatMap B1.cells
  | [] => rfl
  | x :: l => by rw [List.map_cons, cellsL_cons, b1_cellsL ρ l, B1.c_cells, List.flatMap_cons]
theorem BV.t1_den (ρ : Rho) (v : BV) : v.t1.den ρ = v.den := by
  cases v with
  | c x => show (x.c.cells ρ).headD undef = x.cells.headD undef; rw [B1.c_cells]
  | agg l => show Value.agg (cellsL ρ (l.map B1.c)).toArray = .agg (l.flatMap B1.cells).toArray; rw [b1_cellsL]
def KeyOk (P : Program) (k : TypeId) (v : BV) : Prop := ∃ l, keyOf P k v.den = some l
theorem entsV_toList (es : List (BV × BV)) : (entsV es).toList = es.zipIdx.map fun p => { key := p.1.1.den, val := p.1.2.den, born := p.2 } := rfl
theorem entsV_mem {es : List (BV × BV)} {x : MapEntry} (h : x ∈ (entsV es).toList) : ∃ e ∈ es, x.key = e.1.den ∧ x.val = e.2.den := by
  rw [entsV_toList] at h
  obtain ⟨p, hp, rfl⟩ := List.mem_map.1 h
  exact ⟨p.1, (List.mem_zipIdx_iff_getElem?.1 hp |> List.mem_of_getElem?), rfl, rfl⟩
theorem entsV_of {es : List (BV × BV)} {e : BV × BV} (h : e ∈ es) : ∃ x ∈ (entsV es).toList, x.key = e.1.den ∧ x.val = e.2.den := by
  obtain ⟨i, hi⟩ := List.getElem?_of_mem h
  rw [entsV_toList]
  exact ⟨_, List.mem_map.2 ⟨(e, i), List.mem_zipIdx_iff_getElem?.2 hi, rfl⟩, rfl, rfl⟩
theorem entsV_push (es : List (BV × BV)) (k v : BV) : entsV (es ++ [(k, v)]) = (entsV es).push { key := k.den, val := v.den, born := es.length } := by
  apply Array.toList_inj.1
  rw [entsV_toList, Array.toList_push, entsV_toList, List.zipIdx_append, List.map_append]
  simp [List.zipIdx]
section
variable {N : Nat} {w0 : Base} {hf : Nat → Option Blk} {ρ0 : Rho} {w : World}
/-- a map is made -/
theorem HRel.newM (h : HRel N w0 hf ρ0 w) {n : Nat} (hn : hf n = none) {c : Blk} (hc : c.mapOf = some ([], 0)) : HRel N w0 (upF hf n c) (upR ρ0 n (w.heap.size, 0)) (w.alloc (.map #[] 0)) := by
  obtain ⟨nt, hce⟩ := map_spec hc
  have c1 : c.ro = true := by rw [hce]
  have c2 : c.cs = [] := by rw [hce]
  have hcv : c.void = true := by unfold Blk.void; rw [c1, c2]
  have hne : ∀ i d, hf i = some d → i ≠ n := fun i d hi e => by rw [e, hn] at hi; cases hi
  have hup : ∀ i d, upF hf n c i = some d → (i = n ∧ d = c) ∨ (i ≠ n ∧ hf i = some d) := fun i d hi => by
    unfold upF at hi
    split at hi
    · rename_i e; cases hi; exact .inl ⟨e, rfl⟩
    · rename_i e; exact .inr ⟨e, hi⟩
  have hr : ∀ i, i ≠ n → upR ρ0 n (w.heap.size, 0) i = ρ0 i := fun i e => if_neg e
  have hrn : upR ρ0 n (w.heap.size, 0) n = (w.heap.size, 0) := if_pos rfl
  have hb : Below w.heap.size w (w.alloc (.map #[] 0)) := (Below.refl _ _).alloc (Nat.le_refl _) _
  have hold := h.below hb
  refine ⟨fun i d hi hv => ?_, fun i d hi hd => ?_, fun i j d e hi hd hj he hji => ?_, fun ρ hρ i d hi => ?_, hold.bel, hold.big, fun i hi => ?_, fun i d e hi he => ?_, fun i j d e hi hj hd he hji => ?_, hold.fam.up (fun i d hi hm => ?_) fun j d hj hd => ?_⟩
  · rcases hup i d hi with ⟨rfl, rfl⟩ | ⟨e, hi⟩
    · rw [hcv] at hv; cases hv
    · rw [hr i e]; exact hold.old i d hi hv
  · rcases hup i d hi with ⟨rfl, rfl⟩ | ⟨e, hi⟩
    · rw [c1] at hd; cases hd
    · rw [hr i e]; exact hold.own i d hi hd
  · rcases hup i d hi with ⟨rfl, rfl⟩ | ⟨e1, hi1⟩
    · rw [c1] at hd; cases hd
    · rcases hup j e hj with ⟨rfl, rfl⟩ | ⟨e', hj1⟩
      · rw [hcv] at he; cases he
      · rw [hr i e1, hr j e']; exact hold.apart i j d e hi1 hd hj1 he hji
  · rcases hup i d hi with ⟨rfl, rfl⟩ | ⟨e, hi⟩
    · exact Holds.void hcv ρ i _
    · exact hold.holds ρ (fun k hk => by
        obtain ⟨c', hc'⟩ := Option.isSome_iff_exists.1 hk
        have := hρ k (by unfold upF; rw [if_neg (hne k c' hc')]; exact hk)
        rw [this, hr k (hne k c' hc')]) i d hi
  · obtain ⟨h1, h2⟩ := hold.ext i hi
    have hin : i ≠ n := fun e => by rw [e, hn] at h1; cases h1
    rw [hr i hin]
    refine ⟨?_, h2⟩
    unfold upF; rw [if_neg hin]; exact h1
  · rcases hup i d hi with ⟨rfl, rfl⟩ | ⟨e2, hi⟩
    · rw [hc] at he; cases he
      rw [hrn]
      exact ⟨h.big, heap_alloc_new w (.map #[] 0)⟩
    · rw [hr i e2]; exact hold.maps i d e hi he
  · have low : ∀ i d, hf i = some d → d.mapOf.isSome = true → (ρ0 i).1 < w.heap.size := fun i d hi hm => by
      obtain ⟨x, hx⟩ := Option.isSome_iff_exists.1 hm
      exact (Array.getElem?_eq_some_iff.1 (h.maps i d x hi hx).2).1
    rcases hup i d hi with ⟨rfl, rfl⟩ | ⟨e1, hi1⟩ <;> rcases hup j e hj with ⟨rfl, rfl⟩ | ⟨e', hj1⟩
    · exact absurd rfl hji
    · rw [hrn, hr j e']; have := low j e hj1 he; simp; omega
    · rw [hrn, hr i e1]; have := low i d hi1 hd; simp; omega
    · rw [hr i e1, hr j e']; exact h.mapA i j d e hi1 hj1 hd he hji
  · rcases hup i d hi with ⟨rfl, rfl⟩ | ⟨e1, hi1⟩
    · rw [fam_map (by rw [hc]; rfl)] at hm; cases hm
    · exact ⟨i, d, hi1, rfl⟩
  · rcases hup j d hj with ⟨rfl, rfl⟩ | ⟨e1, hj1⟩
    · rw [c1] at hd; cases hd
    · exact .inl ⟨j, d, hj1, hd, by rw [hr j e1]⟩
/-- a map turns -/
theorem HRel.setM (h : HRel N w0 hf ρ0 w) {b : Nat} {blk c : Blk} (hb : hf b = some blk) (hm : blk.mapOf.isSome = true) {x : List (BV × BV) × Nat} (hc : c.mapOf = some x) :
    HRel N w0 (upF hf b c) ρ0 (ChangeMaps.setBlock w (ρ0 b).1 (.map (entsV x.1) x.2)) := by
  obtain ⟨y, hy⟩ := Option.isSome_iff_exists.1 hm
  have hat := h.maps b blk y hb hy
  have hlt := (Array.getElem?_eq_some_iff.1 hat.2).1
  obtain ⟨nt, hce⟩ := map_spec hc
  have c1 : c.ro = true := by rw [hce]
  have c2 : c.cs = [] := by rw [hce]
  have hcv : c.void = true := by unfold Blk.void; rw [c1, c2]
  have hsz : (ChangeMaps.setBlock w (ρ0 b).1 (.map (entsV x.1) x.2)).heap.size = w.heap.size := by simp [ChangeMaps.setBlock]
  have hother : ∀ k, k ≠ (ρ0 b).1 → (ChangeMaps.setBlock w (ρ0 b).1 (.map (entsV x.1) x.2)).heap[k]? = w.heap[k]? := fun k hk => by
    simp only [ChangeMaps.setBlock]
    rw [Array.getElem?_setIfInBounds_ne (fun e => hk e.symm)]
  have hself : (ChangeMaps.setBlock w (ρ0 b).1 (.map (entsV x.1) x.2)).heap[(ρ0 b).1]? = some (.map (entsV x.1) x.2) := by
    simp only [ChangeMaps.setBlock]
    rw [Array.getElem?_setIfInBounds_self_of_lt hlt]
  have hup : ∀ i d, upF hf b c i = some d → (i = b ∧ d = c) ∨ (i ≠ b ∧ hf i = some d) := fun i d hi => by
    unfold upF at hi
    split at hi
    · rename_i e; cases hi; exact .inl ⟨e, rfl⟩
    · rename_i e; exact .inr ⟨e, hi⟩
  have hagr : ∀ ρ, Agr (upF hf b c) ρ ρ0 → Agr hf ρ ρ0 := fun ρ hρ i hi => hρ i (by unfold upF; split; rfl; exact hi)
  refine ⟨fun i d hi hv => ?_, fun i d hi hd => ?_, fun i j d e hi hd hj he hji => ?_, fun ρ hρ i d hi => ?_, ⟨?_, ?_⟩, by rw [hsz]; exact h.big, fun i hi => ?_, fun i d e hi he => ?_, fun i j d e hi hj hd he hji => ?_, (h.fam.keep fun _ _ _ _ _ _ _ _ hk _ => hother _ fun e2 => ?_).up (fun i d hi hm => ?_) fun j d hj hd => ?_⟩
  · rcases hup i d hi with ⟨rfl, rfl⟩ | ⟨e, hi⟩
    · rw [hcv] at hv; cases hv
    · rw [hsz]; exact h.old i d hi hv
  · rcases hup i d hi with ⟨rfl, rfl⟩ | ⟨e, hi⟩
    · rw [c1] at hd; cases hd
    · exact h.own i d hi hd
  · rcases hup i d hi with ⟨rfl, rfl⟩ | ⟨e1, hi1⟩
    · rw [c1] at hd; cases hd
    · rcases hup j e hj with ⟨rfl, rfl⟩ | ⟨e', hj1⟩
      · rw [hcv] at he; cases he
      · exact h.apart i j d e hi1 hd hj1 he hji
  · rcases hup i d hi with ⟨rfl, rfl⟩ | ⟨e, hi⟩
    · exact Holds.void hcv ρ i _
    · refine (void_or d).elim (fun hv => Holds.void hv ρ i _) fun hv => (h.holds ρ (hagr ρ hρ) i d hi).keep (hother _ fun e2 => ?_)
      have := (h.holds ρ (hagr ρ hρ) i d hi).isCells hv (o := .map (entsV y.1) y.2) (by rw [e2]; exact hat.2)
      cases this
  · exact h.bel.below.trans ⟨rfl, rfl, rfl, by rw [hsz]; exact Nat.le_refl _, fun k hk => hother k (by have := hat.1; omega)⟩
  · exact h.bel.oth.trans ⟨by rw [hsz]; exact Nat.le_refl _, fun k o hk ho => (hother k fun e2 => by rw [e2, hat.2] at hk; cases hk; cases ho).trans hk⟩
  · obtain ⟨h1, h2⟩ := h.ext i hi
    refine ⟨?_, h2⟩
    unfold upF; split
    · rfl
    · exact h1
  · rcases hup i d hi with ⟨rfl, rfl⟩ | ⟨e2, hi⟩
    · rw [hc] at he; cases he
      exact ⟨hat.1, hself⟩
    · have hm2 := h.maps i d e hi he
      exact ⟨hm2.1, (hother _ (h.mapA b i blk d hb hi hm (by rw [he]; rfl) e2)).trans hm2.2⟩
  · rcases hup i d hi with ⟨rfl, rfl⟩ | ⟨e1, hi1⟩ <;> rcases hup j e hj with ⟨rfl, rfl⟩ | ⟨e', hj1⟩
    · exact absurd rfl hji
    · exact h.mapA i j blk e hb hj1 hm he hji
    · exact h.mapA i j d blk hi1 hb hd hm hji
    · exact h.mapA i j d e hi1 hj1 hd he hji
  · obtain ⟨x', h1, h2⟩ := hk.row
    rw [e2, hat.2] at h1; cases h1; cases h2
  · rcases hup i d hi with ⟨rfl, rfl⟩ | ⟨e1, hi1⟩
    · rw [fam_map (by rw [hc]; rfl)] at hm; cases hm
    · exact ⟨i, d, hi1, rfl⟩
  · rcases hup j d hj with ⟨rfl, rfl⟩ | ⟨e1, hj1⟩
    · rw [c1] at hd; cases hd
    · exact .inl ⟨j, d, hj1, hd, rfl⟩
end
/-- operations on maps of the walk's own -/
def oMap (P : Program) (T : TypeId → Option TI) (o : Oper) (tm : List SV) (hp : List Blk) (K : List SV → List Blk → Prop) : Prop :=
  match o.op with
  | .makeMap t none => snocK hp ⟨.m t [] 0, true, [], 1⟩ fun hp' => lenK hp fun n => putK o.dst (.c (.mp n)) tm fun tm => K tm hp'
  | .lookup t m k true => (match evm tm m with
    | .c (.mp b) => (match nthO hp b with
      | some ⟨.m _ es _, true, [], 1⟩ => ∃ (kt et : TypeId) (kb z : BV), P.underlying t = some (.map kt et) ∧ Maps.Keyed P kt ∧ (∀ ρ, (evm tm k).den ρ = kb.den) ∧ KeyOk P kt kb ∧ (∀ e ∈ es, KeyOk P kt e.1) ∧ (∀ w, (zeroValue et).run P w = .ok z.den w) ∧
          ((∀ e ∈ es, e.1.den ≠ kb.den) → putK o.dst (.tup [z.t1, .c (.val (.bool false))]) tm fun tm => K tm hp) ∧
          ∀ e ∈ es, e.1.den = kb.den → putK o.dst (.tup [e.2.t1, .c (.val (.bool true))]) tm fun tm => K tm hp
      | _ => Bad o 51 (opEv o tm))
    | _ => Bad o 52 (opEv o tm))
  | .mapUpdate t m k v => (match evm tm m with
    | .c (.mp b) => (match nthO hp b with
      | some ⟨.m mt es cl, true, [], 1⟩ => ∃ (kt et : TypeId) (kb vb : BV), P.underlying t = some (.map kt et) ∧ Maps.Keyed P kt ∧ (∀ ρ, (evm tm k).den ρ = kb.den) ∧ (∀ ρ, (evm tm v).den ρ = vb.den) ∧ KeyOk P kt kb ∧ (∀ e ∈ es, KeyOk P kt e.1) ∧ cl = es.length ∧ (∀ e ∈ es, e.1.den ≠ kb.den) ∧
          updK hp b ⟨.m mt (es ++ [(kb, vb)]) (cl + 1), true, [], 1⟩ fun hp => putK o.dst uv tm fun tm => K tm hp
      | _ => Bad o 53 (opEv o tm))
    | _ => Bad o 54 (opEv o tm))
  | _ => oAll T o tm hp K
section
variable {P : Program} {T : TypeId → Option TI} (hT : TOk P T)
theorem wp_v_sx {o : Oper} {a : Act} {w : World} {next : Act → World → Prop} {Q : Exit → Act → World → Prop} {v : Value} {w' : World}
    (hr : (execOp a.eval o).run P w = .ok (.value v) w') (hn : next (a.put o.dst v) w') : o.wp P a w next Q := by
  unfold Oper.wp
  rw [hr]
  exact hn
theorem wp_u_sx {o : Oper} {a : Act} {w : World} {next : Act → World → Prop} {Q : Exit → Act → World → Prop} {w' : World}
    (hr : (execOp a.eval o).run P w = .ok .skip w') (hn : next (a.put o.dst undef) w') : o.wp P a w next Q := by
  unfold Oper.wp
  rw [hr]
  exact hn
include hT
theorem oMap_ok : OOk P (oMap P T) := by
  intro o tm hp K h N w0 a w next Q hr hn
  unfold oMap at h
  split at h
  · rename_i t hop
    obtain ⟨ρ0, hh, htm, hd⟩ := hr
    rw [snocK_eq, lenK_eq, putK_eq] at h
    have hnone : nthO hp hp.length = none := nthO_none hp
    have hsn : ∀ (b : Blk), nthO (hp ++ [b]) = upF (nthO hp) hp.length b := fun b => nthO_snoc' _ _
    refine wp_v_sx (v := .map (some w.heap.size)) (w' := w.alloc (.map #[] 0)) ?_ (hn _ _ _ _ h (RelS.put (ρ1 := upR ρ0 hp.length (w.heap.size, 0)) htm hd ?_ (fun j hj => ?_) o.dst fun ρ hρ => ?_))
    · simp only [execOp, hop, Option.map_none, Sem.run_bind, run_makeMap, Result.andThen_ok, Sem.run_pure]
    · rw [hsn]; exact hh.newM hnone rfl
    · rw [hsn]; exact up_agr hnone j hj
    · have hgn : ρ hp.length = (w.heap.size, 0) := by
        rw [hρ _ (by rw [hsn]; unfold upF; rw [if_pos rfl]; rfl)]; unfold upR; rw [if_pos rfl]
      simp [SV.den, C.den, C.cells, hgn]
  · rename_i t m k hop
    split at h
    · rename_i b hm
      split at h
      · rename_i mt es cl hb
        obtain ⟨kt, et, kb, z, hu, hK, hk, ⟨kl, hkl⟩, hes, hz, h1, h2⟩ := h
        obtain ⟨ρ0, hh, htm, hd⟩ := hr
        have hev0 : a.eval = evr (evm tm) ρ0 := eval_ok (htm ρ0 (Agr.refl _ _))
        have em : a.eval m = .map (some (ρ0 b).1) := by rw [hev0]; show (evm tm m).den ρ0 = _; rw [hm]; rfl
        have ek : a.eval k = kb.den := by rw [hev0]; exact hk ρ0
        have hat := hh.maps b _ (es, cl) hb rfl
        have hall : ∀ e ∈ (entsV es).toList, ∃ l, keyOf P kt e.key = some l := fun x hx => by
          obtain ⟨e, he, hk1, -⟩ := entsV_mem hx
          rw [hk1]; exact hes e he
        rcases hK.find w hkl (entsV es).toList hall with ⟨f1, f2⟩ | ⟨j, e0, f1, f2, f3⟩
        · have h1 := h1 fun e he hne => by
            obtain ⟨x, hx, hk1, -⟩ := entsV_of he
            exact f2 x hx (hk1.trans hne)
          rw [putK_eq] at h1
          refine wp_v_sx (v := .tuple #[z.den, .bool false]) (w' := w) ?_ (hn _ _ _ _ h1 (RelS.put (ρ1 := ρ0) htm hd hh (fun j hj => ⟨hj, rfl⟩) o.dst fun ρ hρ => ?_))
          · have hl : (Instr.lookup t (a.eval m) (a.eval k) true).run P w = .ok (.tuple #[z.den, .bool false]) w := by
              rw [em, ek]
              simp [Instr.lookup, run_underlying hu, MapKept.run_getObj_map hat.2, hK.check w _ hkl, f1, hz w, Result.andThen]
            simp only [execOp, hop, Sem.run_bind, hl, Result.andThen_ok, Sem.run_pure]
          · simp only [SV.den, List.map_cons, List.map_nil, BV.t1_den]; rfl
        · obtain ⟨e, he, hk1, hv1⟩ := entsV_mem (List.mem_of_getElem? f2)
          have h2 := h2 e he (hk1.symm.trans f3)
          rw [putK_eq] at h2
          refine wp_v_sx (v := .tuple #[e0.val, .bool true]) (w' := w) ?_ (hn _ _ _ _ h2 (RelS.put (ρ1 := ρ0) htm hd hh (fun j hj => ⟨hj, rfl⟩) o.dst fun ρ hρ => ?_))
          · have hl : (Instr.lookup t (a.eval m) (a.eval k) true).run P w = .ok (.tuple #[e0.val, .bool true]) w := by
              rw [em, ek]
              simp [Instr.lookup, run_underlying hu, MapKept.run_getObj_map hat.2, hK.check w _ hkl, f1, Result.andThen]
            simp only [execOp, hop, Sem.run_bind, hl, Result.andThen_ok, Sem.run_pure]
          · rw [hv1]; simp only [SV.den, List.map_cons, List.map_nil, BV.t1_den]; rfl
      · cases h
    · cases h
  · rename_i t m k v hop
    split at h
    · rename_i b hm
      split at h
      · rename_i mt es cl hb
        obtain ⟨kt, et, kb, vb, hu, hK, hk, hv, ⟨kl, hkl⟩, hes, hcl, hne, h⟩ := h
        obtain ⟨ρ0, hh, htm, hd⟩ := hr
        have hev0 : a.eval = evr (evm tm) ρ0 := eval_ok (htm ρ0 (Agr.refl _ _))
        have em : a.eval m = .map (some (ρ0 b).1) := by rw [hev0]; show (evm tm m).den ρ0 = _; rw [hm]; rfl
        have ek : a.eval k = kb.den := by rw [hev0]; exact hk ρ0
        have ev : a.eval v = vb.den := by rw [hev0]; exact hv ρ0
        have hat := hh.maps b _ (es, cl) hb rfl
        have hall : ∀ e ∈ (entsV es).toList, ∃ l, keyOf P kt e.key = some l := fun x hx => by
          obtain ⟨e, he, hk1, -⟩ := entsV_mem hx
          rw [hk1]; exact hes e he
        simp only [updK_eq, putK_eq] at h
        rcases hK.find w hkl (entsV es).toList hall with ⟨f1, -⟩ | ⟨j, e0, -, f2, f3⟩
        · refine wp_u_sx (w' := ChangeMaps.setBlock w (ρ0 b).1 (.map (entsV (es ++ [(kb, vb)])) (cl + 1))) ?_ (hn _ _ _ _ h (RelS.put (ρ1 := ρ0) htm hd ?_ (fun j hj => ?_) o.dst fun ρ hρ => rfl))
          · have hl : (Instr.mapUpdate t (a.eval m) (a.eval k) (a.eval v)).run P w = .ok () (ChangeMaps.setBlock w (ρ0 b).1 (.map (entsV (es ++ [(kb, vb)])) (cl + 1))) := by
              rw [em, ek, ev, entsV_push, ← hcl]
              simp [Instr.mapUpdate, run_underlying hu, MapKept.run_getObj_map hat.2, hK.check w false hkl, f1, MapKept.run_setObj_map _ hat.2, Result.andThen, ChangeMaps.setBlock]
            simp only [execOp, hop, Sem.run_bind, hl, Result.andThen_ok, Sem.run_pure]
          · rw [nthO_set _ _ _ _ hb]
            exact hh.setM (c := ⟨.m mt (es ++ [(kb, vb)]) (cl + 1), true, [], 1⟩) (x := (es ++ [(kb, vb)], cl + 1)) hb rfl rfl
          · rw [nthO_set _ _ _ _ hb]; unfold upF; split
            · exact ⟨rfl, rfl⟩
            · exact ⟨hj, rfl⟩
        · obtain ⟨e, he, hk1, -⟩ := entsV_mem (List.mem_of_getElem? f2)
          exact absurd (hk1.symm.trans f3) (hne e he)
      · cases h
    · cases h
  · exact oAll_ok hT o tm hp K h hr hn
end
end Go.Proofs.YthmdmbpecgakkaaDoor

namespace Go.Proofs.YthmdmbpecgakkaaDoor
open Go.RowKit

def roK (hp : List Blk) : List Nat → (List Blk → Prop) → Prop
 | [], K => K []
 | b :: l, K => (match nthO hp b with
  | some ⟨ty, _, cs, _⟩ => roK hp l fun ros => K (⟨ty, true, cs, 0⟩ :: ros)
  | none => False)
theorem roK_get {hp : List Blk} : ∀ {l : List Nat} {K : List Blk → Prop}, roK hp l K → ∃ ros, K ros ∧ ros.length = l.length ∧ roAll ros ∧ ∀ (i b : Nat), l[i]? = some b → ∃ c d, nthO hp b = some c ∧ nthO ros i = some d ∧ d.cs = c.cs
 | [], K, h => ⟨[], h, rfl, trivial, fun i b h => by simp at h⟩
 | b :: l, K, h => by
  unfold roK at h
  split at h
  ·rename_i ty ro cs tl hb
   obtain ⟨ros, hK, hlen, hro, hbs⟩ := roK_get h
   refine ⟨_, hK, by simp [hlen], ⟨⟨rfl, rfl⟩, hro⟩, fun i b' hi => ?_⟩
   cases i with
   | zero => simp at hi; subst hi; exact ⟨_, _, hb, rfl, rfl⟩
   | succ i => exact hbs i b' (by simpa using hi)
  ·exact h.elim
def SameA (bs : List Nat) (args args' : List SV) : Prop := ∀ ρ ρ' : Rho, (∀ i b, nthO bs i = some b → ρ' i = ρ b) → args.map (SV.den ρ) = args'.map (SV.den ρ')
def hnewG (l : List (FuncId × NewC)) (H : FuncId → List SV → List Blk → (SV → List Blk → Prop) → Prop) (f : FuncId) (args : List SV) (hp : List Blk) (K : SV → List Blk → Prop) : Prop :=
 match lkC l f with
 | some c => ∃ fb bs args', SameA bs args args' ∧ (match nthO hp fb with
  | some ⟨.x fl, true, [], t⟩ => (t = 2 ∨ t = 3) ∧ roK hp bs fun ros => pureAll ros ∧ snocK ros ⟨.x fl, true, [], 3⟩ fun ros => c args' ros fun v news => lenK hp fun n => appB hp news fun hp' => snocK bs fb fun bs => K (v.mv bs n) hp'
  | _ => False)
 | none => H f args hp K
theorem hnewG_ok {P : Program} {l : List (FuncId × NewC)} (hl : AllX P l) {H : FuncId → List SV → List Blk → (SV → List Blk → Prop) → Prop} (hH : HOk P H) : HOk P (hnewG l H) := by
 intro f args hp K h
 unfold hnewG at h
 split at h
 ·rename_i c hc
  have hsp := hl _ (lkC_mem hc)
  obtain ⟨fb, bs0, l', hden1, h⟩ := h
  split at h
  ·rename_i fl t hfb
   obtain ⟨ht, h⟩ := h
   refine ⟨hsp.1, fun N w0 ρ0 w hh _ => ?_⟩
   obtain ⟨ros0, hK, hlen0, hro0, hbs0⟩ := roK_get h
   have hden0 : ∀ ρ ρ' : Rho, (∀ (i b : Nat), bs0[i]? = some b → ρ' (0 + i) = ρ b) → args.map (SV.den ρ) = l'.map (SV.den ρ') := fun ρ ρ' h => hden1 ρ ρ' fun i b hi => by
    rw [nthO_eq] at hi
    have := h i b hi
    rw [Nat.zero_add] at this
    exact this
   obtain ⟨hpure0, hK⟩ := hK
   rw [snocK_eq] at hK
   have hfo : ∃ o, (⟨.x fl, true, [], t⟩ : Blk).famOf = some (o, fl) := by rcases ht with rfl | rfl <;> exact ⟨_, rfl⟩
   obtain ⟨ros, hros⟩ : ∃ ros, ros = ros0 ++ [⟨.x fl, true, [], 3⟩] := ⟨_, rfl⟩
   obtain ⟨bs, hbsd⟩ : ∃ bs, bs = bs0 ++ [fb] := ⟨_, rfl⟩
   rw [← hros] at hK
   have hlen : ros.length = bs.length := by rw [hros, hbsd]; simp [hlen0]
   have hpure : pureAll ros := by rw [hros]; exact pureAll_snoc (fun _ _=>rfl) hpure0
   have hro : roAllX ros := by rw [hros]; exact roAllX_snoc ⟨rfl, rfl⟩ hro0
   have hbs : ∀ (i b : Nat), bs[i]? = some b → ∃ c d, nthO hp b = some c ∧ nthO ros i = some d ∧ d.cs = c.cs := fun i b hi => by
    rw [hbsd] at hi
    by_cases hlt : i < bs0.length
    ·rw [List.getElem?_append_left hlt] at hi
     obtain ⟨c', d', h1, h2, h3⟩ := hbs0 i b hi
     refine ⟨c', d', h1, ?_, h3⟩
     rw [hros, nthO_append, if_pos (by omega)]; exact h2
    ·rw [List.getElem?_append_right (by omega)] at hi
     have e : i - bs0.length = 0 := by
      have := (List.getElem?_eq_some_iff.1 hi).1
      simp at this; omega
     rw [e] at hi
     simp at hi
     subst hi
     refine ⟨_, ⟨.x fl, true, [], 3⟩, hfb, ?_, rfl⟩
     rw [hros, nthO_append, if_neg (by omega), show i - ros0.length = 0 by omega]; rfl
   have hden : ∀ ρ ρ' : Rho, (∀ (i b : Nat), bs[i]? = some b → ρ' (0 + i) = ρ b) → args.map (SV.den ρ) = l'.map (SV.den ρ') := fun ρ ρ' h => hden0 ρ ρ' fun i b hi => h i b (by rw [hbsd, List.getElem?_append_left (List.getElem?_eq_some_iff.1 hi).1]; exact hi)
   let ρ : Rho := fun i => ρ0 (bs[i]?.getD 0)
   have hρ : ∀ (i b : Nat), bs[i]? = some b → ρ i = ρ0 b := fun i b hi => by show ρ0 (bs[i]?.getD 0) = ρ0 b; rw [hi]; rfl
   have hargs : args.map (SV.den ρ0) = l'.map (SV.den ρ) := hden ρ0 ρ (fun i b hi => by rw [Nat.zero_add]; exact hρ i b hi)
   rw [hargs]
   have hfam0 : ∀ i b o l, nthO ros i = some b → b.famOf = some (o, l) → o = false ∧ l = fl := fun i b o l hi hm => by
    rw [hros, nthO_append] at hi
    split at hi
    ·rw [fam_tl (roAll_get2 hro0 hi).2] at hm; cases hm
    ·have e : i - ros0.length = 0 := by
      rw [nthO_eq] at hi
      have := (List.getElem?_eq_some_iff.1 hi).1
      simp at this; omega
     rw [e] at hi
     cases hi
     cases hm
     exact ⟨rfl, rfl⟩
   refine (hsp.2 l' ros _ hK hro hpure ρ w (fun i d hd => ?_) (fun i b o l e hi hm he => ?_) (fun i b o l hi hm => (hfam0 i b o l hi hm).1)).mono ?_
   ·have hi : i < ros.length := by rw [nthO_eq] at hd; exact (List.getElem?_eq_some_iff.1 hd).1
    obtain ⟨b, hb⟩ : ∃ b, bs[i]? = some b := ⟨_, List.getElem?_eq_getElem (by omega)⟩
    obtain ⟨c', d', h1, h2, h3⟩ := hbs i b hb
    rw [hd] at h2; cases h2
    have := (hh.holds ρ0 (Agr.refl _ _) b c' h1).1
    have hp2 : cellsL ρ d.cs = cellsL ρ0 d.cs := (pureAll_get hpure hd) ρ ρ0
    rw [hρ i b hb, hp2, h3]
    exact this
   ·obtain ⟨rfl, rfl⟩ := hfam0 i b o l hi hm
    obtain ⟨o', ho'⟩ := hfo
    have := (hh.fam fb _ o' _ e hfb ho' he).1
    exact ⟨this.pure, this.row, fun h => (by cases h), this.holds, fun _ => this.lt⟩
   ·rintro e w' ⟨v, news, σ, hK, hn, hc, hσ, he⟩
    rw [lenK_eq, appB_eq, snocK_eq, ← hbsd] at hK
    refine ⟨_, _, _, hK, hh.join hc hn, fun i hi => ?_, fun ρ1 hρ1 => ?_⟩
    ·have hil : i < hp.length := by
      obtain ⟨x, hx⟩ := Option.isSome_iff_exists.1 hi
      rw [nthO_eq] at hx; exact (List.getElem?_eq_some_iff.1 hx).1
     exact ⟨by rw [nthO_append, if_pos hil]; exact hi, if_pos hil⟩
    ·rw [mv_den]
     refine he _ (fun k hk => ?_)
     have hkl : k < (ros ++ news).length := by
      obtain ⟨x, hx⟩ := Option.isSome_iff_exists.1 hk
      rw [nthO_eq] at hx; exact (List.getElem?_eq_some_iff.1 hx).1
     show ρ1 (mvN bs hp.length k) = σ k
     unfold mvN
     by_cases hkr : k < ros.length
     ·have hkb : k < bs.length := by omega
      obtain ⟨b, hb⟩ : ∃ b, bs[k]? = some b := ⟨_, List.getElem?_eq_getElem hkb⟩
      rw [nthO_eq, hb]
      obtain ⟨c', d', h1, -⟩ := hbs k b hb
      have hbl : b < hp.length := by rw [nthO_eq] at h1; exact (List.getElem?_eq_some_iff.1 h1).1
      rw [hσ k hkr, hρ k b hb]
      have := hρ1 b (by rw [nthO_append, if_pos hbl, h1]; rfl)
      rw [this]; exact if_pos hbl
     ·rw [nthO_eq, List.getElem?_eq_none (by omega)]
      have hx : (nthO (hp ++ news) (hp.length + (k - bs.length))).isSome = true := by
       rw [nthO_append, if_neg (by omega)]
       rw [nthO_append, if_neg hkr] at hk
       rw [show hp.length + (k - bs.length) - hp.length = k - ros.length by omega]; exact hk
      have := hρ1 _ hx
      show ρ1 (hp.length + (k - bs.length)) = σ k
      rw [this]
      show (if hp.length + (k - bs.length) < hp.length then _ else σ (hp.length + (k - bs.length) - hp.length + ros.length)) = σ k
      rw [if_neg (by omega)]
      congr 1; omega
  ·exact h.elim
 ·exact hH f args hp K h
/-! calls that are walked apart; what is new forgotten behind them -/
inductive At (X : Prop) : Prop
 | mk (h : X)
theorem At.out {X : Prop} : At X → X
 | .mk h => h
def cutK (n : Nat) (K : SV → List Blk → Prop) (v : SV) (hp : List Blk) : Prop := K v hp ∨ entK n [v] hp fun tm hp => (match tm with | [v] => K v hp | _ => False)
def memF : List FuncId → FuncId → Bool
 | [], _ => false
 | g :: l, f => (match Nat.beq g f with | true => true | false => memF l f)
def hat (l : List FuncId) (H : FuncId → List SV → List Blk → (SV → List Blk → Prop) → Prop) (f : FuncId) (args : List SV) (hp : List Blk) (K : SV → List Blk → Prop) : Prop :=
 match memF l f with
 | true => At (H f args hp fun v hp' => cutK hp.length K v hp')
 | false => H f args hp K
theorem hat_ok {P : Program} {l : List FuncId} {H : FuncId → List SV → List Blk → (SV → List Blk → Prop) → Prop} (hH : HOk P H) : HOk P (hat l H) := fun f args hp K h => by
 unfold hat at h
 split at h
 ·have h := h.out
  refine ⟨(hH f args _ _ h).1, fun N w0 ρ0 w hh hargs => ?_⟩
  -- the start's blocks stay where they are
  have hh2 : HRel N ⟨w0.w, fun i => (nthO hp i).isSome = true, ρ0, 0⟩ (nthO hp) ρ0 w := ⟨hh.old, hh.own, hh.apart, hh.holds, hh.bel, hh.big, fun i hi => ⟨hi, rfl⟩, hh.maps, hh.mapA, hh.fam⟩
  refine ((hH f args _ _ h).2 N _ ρ0 w hh2 hargs).mono ?_
  rintro x w' ⟨v, hp2, ρ1, k1, k2, k3, k4⟩
  rcases k1 with k1 | ⟨sel, keep, pf, k1⟩
  ·exact ⟨v, hp2, ρ1, k1, ⟨k2.old, k2.own, k2.apart, k2.holds, k2.bel, k2.big, fun i hi => ⟨(k3 i (hh.ext i hi).1).1, (k3 i (hh.ext i hi).1).2.trans (hh.ext i hi).2⟩, k2.maps, k2.mapA, k2.fam⟩, k3, k4⟩
  ·have he0 := k4 ρ1 (Agr.refl _ _)
   have hrel : RelS N ⟨w0.w, fun i => (nthO hp i).isSome = true, ρ0, 0⟩ [v] hp2 { tmps := #[v.den ρ1], defers := [] } w' := ⟨ρ1, k2, fun ρ' hρ' => by
    have := k4 ρ' hρ'
    rw [he0] at this
    have : v.den ρ1 = v.den ρ' := by simpa using this
    simp [this], Marks.nil _ _ (Nat.zero_le _)⟩
   obtain ⟨tm2, hp3, ⟨tm3, hp4, e1, e2, hK⟩, hr2⟩ := endK_ok (n0 := hp.length) (fun i hi => nthO_lt hi) hrel (k1 _)
   obtain ⟨σ, hh3, ht3, -⟩ := hr2.same e1 e2
   split at hK
   ·rename_i v2
    refine ⟨v2, hp4, σ, hK, ⟨hh3.old, hh3.own, hh3.apart, hh3.holds, hh3.bel, hh3.big, fun i hi => ⟨(hh3.ext i (hh.ext i hi).1).1, (hh3.ext i (hh.ext i hi).1).2.trans (hh.ext i hi).2⟩, hh3.maps, hh3.mapA, hh3.fam⟩, fun i hi => hh3.ext i hi, fun ρ' hρ' => ?_⟩
    have := ht3 ρ' hρ'
    simp only [List.map_cons, List.map_nil, List.cons.injEq, and_true] at this
    rw [he0, this]
   ·exact hK.elim
 ·exact hH f args hp K h
end Go.Proofs.YthmdmbpecgakkaaDoor

namespace Go.Proofs.YthmdmbpecgakkaaDoor
open Go.RowKit

theorem run_clear_gen {P : Program} (w : World) (t e ty : TypeId) (z : Value) (L : List Value) (ht : P.underlying t = some (.slice e)) (hv : ∀ w, (zeroValue e).run P w = .ok z w) (b o n c : Nat) (hn : 0 < n) (hL : (Builtin.zeroCells z.cells n).toList = L) (h1 : ∀ v ∈ L, v.oneCell' = true)
    (hc : ∀ j, j < L.length → (w.cell? ⟨b, o + j, none⟩).isSome = true) (hf : ∀ j, j < L.length → w.frozen? ⟨b, o + j, none⟩ = false) :
    (Builtin.clear_ #[t] ty #[.slice (some ⟨b, o, none⟩) n c]).run P w = .ok (.tuple #[]) (w.setCells b o L) := by
  have hst := run_storeCells_cells (P := P) b o L 0 w (by simpa using hc) (by simpa using hf) h1
  simp only [Nat.add_zero] at hst
  obtain ⟨m, rfl⟩ : ∃ m, n = m + 1 := ⟨n - 1, by omega⟩
  simp [Builtin.clear_, run_underlying ht, hv, hL, hst]
def oClr (T : TypeId → Option TI) (O : Oper → List SV → List Blk → (List SV → List Blk → Prop) → Prop) (o : Oper) (tm : List SV) (hp : List Blk) (K : List SV → List Blk → Prop) : Prop :=
  match o.op with
  | .call c => (match c.callee, c.args.toList, c.argTypes.toList with
    | .builtin .clear, [s], [t] => (match T t, evm tm s with
      | some { sh := .slice _ esz ez, .. }, .c (.sli false b off n _ _) => (match nthO hp b with
        | some ⟨ty, false, cs, tl⟩ => allOne ez = true ∧ ∃ A m B, cs = A ++ (m ++ B) ∧ sizeC A = off ∧ sizeC m = n * esz ∧ updK hp b ⟨ty, false, A ++ (repC n ez ++ B), tl⟩ fun hp => putK o.dst (.tup []) tm fun tm => K tm hp
        | _ => Bad o 36 (opEv o tm))
      | _, _ => Bad o 37 (opEv o tm))
    | _, _, _ => O o tm hp K)
  | _ => O o tm hp K
section
variable {P : Program} {T : TypeId → Option TI} (hT : TOk P T)
include hT
theorem zero_cells {t e : TypeId} {esz : Nat} {ez : List C} {sz : Nat} {ag : Bool} {z : List C} {eq : Option (List K)} (h : T t = some ⟨sz, ag, z, .slice e esz ez, eq⟩) :
    ∃ i z0, P.underlying t = some (.slice e) ∧ P.info? e = some i ∧ i.zero = some z0 ∧ 0 < esz ∧ ∀ ρ, z0.cells = (cellsL ρ ez).toArray ∧ (cellsL ρ ez).length = esz := by
  obtain ⟨i, z0, hu, hi, hz, hzs, hsz, h0, hby⟩ := sli_ok hT h
  refine ⟨i, z0, hu, hi, hz, by omega, fun ρ => ?_⟩
  have hzc : z0.cells = (cellsL ρ ez).toArray := by
    obtain ⟨-, -, -, -, -, hzz⟩ := sh_ok hT h
    have := (hzz ρ).1
    rw [hi] at this
    simpa [hz] using this
  refine ⟨hzc, ?_⟩
  have : z0.cells.size = (cellsL ρ ez).length := by rw [hzc]; simp
  omega
theorem oClr_ok {O : Oper → List SV → List Blk → (List SV → List Blk → Prop) → Prop} (hO : OOk P O) : OOk P (oClr T O) := by
  intro o tm hp K h N w0 a w next Q hr hn
  unfold oClr at h
  split at h
  · rename_i c hop
    split at h
    · rename_i s t hce hargs htys
      split at h
      · rename_i sz ag z e esz ez eq b off n cap hl hTt hs
        split at h
        · rename_i ty cs tl hb
          obtain ⟨h1, A, m, B, rfl, rfl, hm, h⟩ := h
          obtain ⟨i, z0, hu, hi, hz, hpos, hzc⟩ := zero_cells hT hTt
          obtain ⟨ρ0, hh, htm, hd⟩ := hr
          have hev : ∀ ρ, Agr (nthO hp) ρ ρ0 → a.eval = evr (evm tm) ρ := fun ρ hρ => eval_ok (htm ρ hρ)
          have hev0 := hev ρ0 (Agr.refl _ _)
          rw [updK_eq, putK_eq] at h
          have hH := hh.holds ρ0 (Agr.refl _ _) b _ hb
          have h0 := (hH.2 rfl).1
          have hsv : a.eval s = .slice (some ⟨(ρ0 b).1, sizeC A, none⟩) n cap := by
            rw [hev0]; show (evm tm s).den ρ0 = _; rw [hs]; simp [SV.den, C.den, C.cells, nlA, h0]
          have hezl := (hzc ρ0).2
          have hlen : (cellsL ρ0 (repC n ez)).length = sizeC m := by rw [cellsL_repC_length, hezl, hm]
          have hrep : ∀ ρ, cellsL ρ (repC n ez) = cellsL ρ0 (repC n ez) := fun ρ => by
            have e : cellsL ρ ez = cellsL ρ0 ez := by
              have := (hzc ρ).1
              rw [(hzc ρ0).1] at this
              exact (congrArg Array.toList this).symm
            have : ∀ k, cellsL ρ (repC k ez) = cellsL ρ0 (repC k ez) := fun k => by
              induction k with
              | zero => rfl
              | succ k ih => rw [repC, cellsL_append, cellsL_append, e, ih]
            exact this n
          have hzl : (Builtin.zeroCells z0.cells n).toList = cellsL ρ0 (repC n ez) := by
            rw [(hzc ρ0).1]
            apply List.ext_getElem?
            intro j
            by_cases hj : j < n * (cellsL ρ0 ez).length
            · rw [cellsL_repC ρ0 ez n j hj]
              have hmod : j % (cellsL ρ0 ez).length < (cellsL ρ0 ez).length := Nat.mod_lt _ (by omega)
              simp only [Builtin.zeroCells, Array.toList_map, Array.toList_range, List.size_toArray, List.getElem?_map, List.getElem?_range hj, Option.map_some]
              rw [List.getElem?_eq_getElem hmod]
              simp [getElem!_pos, hmod]
            · rw [List.getElem?_eq_none (by simp [Builtin.zeroCells]; omega), List.getElem?_eq_none (by rw [cellsL_repC_length]; omega)]
          have hone : ∀ v ∈ cellsL ρ0 (repC n ez), v.oneCell' = true := by
            have h2 := allOne_of ρ0 h1
            have : ∀ k, ∀ v ∈ cellsL ρ0 (repC k ez), v.oneCell' = true := fun k => by
              induction k with
              | zero => intro v hv; simp [repC, cellsL] at hv
              | succ k ih =>
                intro v hv
                rw [repC, cellsL_append] at hv
                rcases List.mem_append.1 hv with hv | hv
                · exact h2 v hv
                · exact ih v hv
            exact this n
          have hrun : (Builtin.clear_ #[t] o.type #[.slice (some ⟨(ρ0 b).1, sizeC A, none⟩) n cap]).run P w = .ok (.tuple #[]) (w.setCells (ρ0 b).1 (sizeC A) (cellsL ρ0 (repC n ez))) := by
            rcases Nat.eq_zero_or_pos n with hm0 | hm0
            · subst hm0
              simp [Builtin.clear_, run_underlying hu, World.setCells, repC, cellsL]
            · obtain ⟨-, t0, ht0, hheap⟩ := hH.2 rfl
              have hcell : ∀ j, j < sizeC m → ∃ u, w.cell? ⟨(ρ0 b).1, sizeC A + j, none⟩ = some u := fun j hj => by
                rw [cell_of_row _ _ _ _ _ _ hheap]
                simp only [List.getElem?_toArray]
                have hlen : sizeC A + j < (cellsL ρ0 (A ++ (m ++ B)) ++ t0).length := by rw [List.length_append, ← sizeC_eq, sizeC_append, sizeC_append]; omega
                exact ⟨_, List.getElem?_eq_getElem hlen⟩
              refine run_clear_gen w t e o.type z0 _ hu (fun w => ?_) _ _ _ _ hm0 hzl hone (fun j hj => ?_) (fun j hj => frozen_of_row _ _ _ _ _ hheap)
              · simp [zeroValue, typeInfo, hi, hz]
              · obtain ⟨u, hu'⟩ := hcell j (by rw [← hlen]; exact hj); rw [hu']; rfl
          refine wp_clear_sx hop hce hargs htys (by rw [hsv]; exact hrun) (hn _ _ _ _ h (RelS.put (ρ1 := ρ0) htm hd ?_ (fun j hj => ?_) o.dst fun ρ hρ => rfl))
          · rw [nthO_set _ _ _ _ hb]
            exact hh.put (blk := ⟨ty, false, A ++ (m ++ B), tl⟩) hb rfl fun ρ hρ => by
              have hbb : ρ b = ρ0 b := hρ b (by rw [hb]; rfl)
              obtain ⟨t1, ht1, hk⟩ := own_splice (hh.holds ρ hρ b _ hb) hlen
              rw [hbb] at hk
              refine ⟨t1, ht1, ?_⟩
              rw [hk, cellsL_append, cellsL_append, hrep ρ]
          · rw [nthO_set _ _ _ _ hb]
            refine ⟨?_, rfl⟩
            unfold upF; split; rfl; exact hj
        · cases h
      · cases h
    · exact hO o tm hp K h hr hn
  · exact hO o tm hp K h hr hn
end
end Go.Proofs.YthmdmbpecgakkaaDoor
