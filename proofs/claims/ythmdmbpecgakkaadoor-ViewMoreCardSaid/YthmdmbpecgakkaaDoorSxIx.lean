/- The reckoner: places named by numbers of other kinds than int. -/
import Derived.Test.YthmdmbpecgakkaaDoorIta
namespace Go.Proofs.YthmdmbpecgakkaaDoor
open Go.RowKit

def oIx (T : TypeId → Option TI) (O : Oper → List SV → List Blk → (List SV → List Blk → Prop) → Prop) (o : Oper) (tm : List SV) (hp : List Blk) (K : List SV → List Blk → Prop) : Prop :=
  O o tm hp K ∨ match o.op with
  | .indexAddr t x i => (match T t, evm tm x with
    | some { sh := .array n esz _, .. }, .c (.ptr b off) => ∃ (k : IntKind) (j : Nat), evm tm i = .c (.val (.int k (j : Int))) ∧ j < n ∧ putK o.dst (.c (.ptr b (off + j * esz))) tm fun tm => K tm hp
    | _, _ => False)
  | _ => False
theorem oIx_ok {P : Program} {T : TypeId → Option TI} (hT : TOk P T) {O : Oper → List SV → List Blk → (List SV → List Blk → Prop) → Prop} (hO : OOk P O) : OOk P (oIx T O) := fun o tm hp K h N w0 a w next Q hr hn => by
  rcases h with h | h
  · exact hO o tm hp K h hr hn
  obtain ⟨ρ0, hh, ht, hd⟩ := hr
  have hev0 : a.eval = evr (evm tm) ρ0 := eval_ok (ht ρ0 (Agr.refl _ _))
  have same : ∀ (x : Operand) (b off : Nat), ((∃ nl len cap h, evm tm x = .c (.sli nl b off len cap h) ∧ nl = false) ∨ evm tm x = .c (.ptr b off)) → ∀ ρ, Agr (nthO hp) ρ ρ0 → ρ b = ρ0 b := fun x b off hx ρ hρ => by
    have h1 : (evm tm x).den ρ = (evm tm x).den ρ0 := by
      have h2 := congrFun (eval_ok (ht ρ hρ)) x
      have h3 := congrFun hev0 x
      exact h2.symm.trans h3
    rcases hx with ⟨nl, len, cap, hs, hx, hnl⟩ | hx
    · subst hnl
      rw [hx] at h1
      simp only [SV.den, C.den, C.cells, nlA, List.headD_cons, Value.slice.injEq, Option.some.injEq, Addr.mk.injEq, and_true] at h1
      exact Prod.ext h1.1 (by omega)
    · rw [hx] at h1
      simp only [SV.den, C.den, C.cells, adr, List.headD_cons, Value.pointer.injEq, Option.some.injEq, Addr.mk.injEq, and_true] at h1
      exact Prod.ext h1.1 (by omega)
  have fin : ∀ (b q : Nat), (∀ ρ, Agr (nthO hp) ρ ρ0 → ρ b = ρ0 b) → (execOp a.eval o).run P w = .ok (.value ((SV.c (.ptr b q)).den ρ0)) w → (putK o.dst (.c (.ptr b q)) tm fun tm => K tm hp) → o.wp P a w next Q := fun b q hb hrun hk => by
    unfold Oper.wp
    rw [hrun]
    rw [putK_eq] at hk
    refine hn _ _ _ _ hk (RelS.put ht hd hh (fun i hi => ⟨hi, rfl⟩) o.dst fun ρ hρ => ?_)
    simp only [SV.den, C.den, C.cells, adr, hb ρ hρ]
  split at h
  · rename_i t x i hop
    split at h
    · rename_i sz ag z n esz eg eq b off hTt hx
      obtain ⟨k, j, hi, hlt, hk⟩ := h
      refine fin b _ (same x b off (.inr hx)) ?_ hk
      obtain ⟨e, hu, he, hr, -⟩ := sh_ok hT hTt
      obtain ⟨ie, hie⟩ := info_of_rowO hr
      have hs := run_sizeOf w hie
      have hj : (0 : Int) ≤ (j : Int) ∧ (j : Int) < (n : Int) := ⟨by omega, by omega⟩
      have hpx : (SV.c (C.ptr b off)).den ρ0 = .pointer (some ⟨(ρ0 b).1, (ρ0 b).2 + off, none⟩) := rfl
      have hpi : (SV.c (C.val (.int k (j : Int)))).den ρ0 = .int k (j : Int) := rfl
      rw [hev0]
      simp only [execOp, hop, evr, hx, hi, hpx, hpi, Instr.indexAt, asIntOf, Sem.run_bind, Sem.run_pure, Result.andThen_ok, run_underlying hu w, Instr.sureAddr]
      rw [if_pos hj]
      simp only [Sem.run_bind, hs, Result.andThen_ok, Sem.run_pure, Addr.add_mid, Int.toNat_natCast, he]
      simp [SV.den, C.den, C.cells, adr, Nat.add_assoc]
    · exact h.elim
  · exact h.elim
end Go.Proofs.YthmdmbpecgakkaaDoor
