/- law 05: a convex polygon in plain words. -/
import Derived.Test.YtdjpbccaglkafaaDoorH5L
namespace Go.Proofs.YtdjpbccaglkafaaDoor
open Go.RowKit
set_option maxRecDepth 100000

def cornP (k : Nat) : PT := ⟨IntKind.i64.wrap (k : Int), IntKind.i64.wrap (IntKind.i64.wrap (k : Int) * IntKind.i64.wrap (k : Int)), 7, IR.wrap _, IR.wrap _, by decide⟩
def csP (n : Nat) : List PT := (List.range n).map cornP
def cmp1 (l : List PT) : List PT := cmpT l l.length
def trimP (l : List PT) : List PT := l.take (trimN l l.length)
def polyC (pl : Int) (hp : IR pl) (st : SH) (X : List PT) : SH := if X.length < 3 then st.fault pl hp 25 ir25 else fanT pl hp X st (X.length - 2)
theorem poly_c (st : SH) (p : PY) : polyT st p = polyC p.pl p.hp st (trimP (cmp1 p.cor)) := rfl
def triF (k : Nat) : TR := ⟨cornP 0, cornP (k + 1), cornP (k + 2)⟩
def trisF (n : Nat) : List TR := (List.range (n - 2)).map triF
theorem ir9 : IR 9 := by decide
def badF (n : Nat) : List FT := if n < 3 then [⟨9, 25, ir9, ir25⟩] else []
theorem cmp_pre (l m : List PT) : ∀ k, k ≤ l.length → cmpT (l ++ m) k = cmpT l k
  | 0, _ => rfl
  | k + 1, h => by
    have ih := cmp_pre l m k (by omega)
    unfold cmpT
    rw [dif_pos (by rw [List.length_append]; omega), dif_pos (by omega), ih, List.getElem_append_left (by omega), List.getElem_append_left (by omega)]
theorem cmp_snoc_ne {l : List PT} {p : PT} (h : l.getLast? ≠ some p) : cmp1 (l ++ [p]) = cmp1 l ++ [p] := by
  unfold cmp1
  rw [List.length_append]
  show cmpT (l ++ [p]) (l.length + 1) = _
  conv => lhs; unfold cmpT
  rw [dif_pos (by rw [List.length_append]; simp), if_pos ?_, cmp_pre l [p] l.length (Nat.le_refl _)]
  · simp
  · by_cases h0 : l.length = 0
    · exact .inl h0
    · right
      cases he : eqP ((l ++ [p])[l.length]'(by simp)) ((l ++ [p])[l.length - 1]'(by simp; omega)) with
      | false => rfl
      | true =>
        exfalso
        have e := eqP_iff.1 he
        rw [List.getElem_append_right (Nat.le_refl _), List.getElem_append_left (by omega)] at e
        apply h
        rw [List.getLast?_eq_getElem?, List.getElem?_eq_getElem (by omega)]
        simpa using e.symm
theorem cmp_snoc_eq {l : List PT} {p : PT} (h : l.getLast? = some p) : cmp1 (l ++ [p]) = cmp1 l := by
  have h0 : l.length ≠ 0 := fun e => by
    have : l = [] := List.length_eq_zero_iff.1 e
    rw [this] at h; cases h
  unfold cmp1
  rw [List.length_append]
  show cmpT (l ++ [p]) (l.length + 1) = _
  conv => lhs; unfold cmpT
  rw [dif_pos (by rw [List.length_append]; simp), if_neg ?_, cmp_pre l [p] l.length (Nat.le_refl _)]
  rintro (h1 | h1)
  · exact h0 h1
  · have e : eqP ((l ++ [p])[l.length]'(by simp)) ((l ++ [p])[l.length - 1]'(by simp; omega)) = true := eqP_iff.2 (by
      rw [List.getElem_append_right (Nat.le_refl _), List.getElem_append_left (by omega)]
      rw [List.getLast?_eq_getElem?, List.getElem?_eq_getElem (by omega)] at h
      simpa using h.symm)
    rw [e] at h1; cases h1
/-- the corners of the first k vertices, each as often as one likes -/
structure Good (k : Nat) (l : List PT) : Prop where
  c : cmp1 l = csP k
  t : l.getLast? = (csP k).getLast?
theorem csP_succ (k : Nat) : csP (k + 1) = csP k ++ [cornP k] := by unfold csP; rw [List.range_succ, List.map_append]; rfl
theorem corn_x {k : Nat} (h : k ≤ 100) : (cornP k).x = k := wrap_id (by unfold IR; omega)
theorem corn_ne {j k : Nat} (hj : j ≤ 100) (hk : k ≤ 100) (h : j ≠ k) : cornP j ≠ cornP k := fun e => by
  have e := congrArg PT.x e
  rw [corn_x hj, corn_x hk] at e
  omega
theorem Good.zero : Good 0 [] := ⟨rfl, rfl⟩
theorem Good.next {k : Nat} {l : List PT} (h : Good k l) (hk : k ≤ 100) : Good (k + 1) (l ++ [cornP k]) := by
  refine ⟨?_, by rw [csP_succ]; simp⟩
  rw [cmp_snoc_ne, h.c, csP_succ]
  rw [h.t]
  cases k with
  | zero => simp [csP]
  | succ k =>
    rw [csP_succ]
    simp only [List.getLast?_append, List.getLast?_singleton, Option.some_or, ne_eq, Option.some.injEq]
    exact corn_ne (by omega) hk (by omega)
theorem Good.again {k : Nat} {l : List PT} (h : Good (k + 1) l) : Good (k + 1) (l ++ [cornP k]) := by
  have ht : l.getLast? = some (cornP k) := by rw [h.t, csP_succ]; simp
  exact ⟨by rw [cmp_snoc_eq ht, h.c], by rw [csP_succ]; simp⟩
theorem fan_0 : polyC 9 ir9 ⟨[], []⟩ (trimP (csP 0)) = ⟨trisF 0, badF 0⟩ := by kernel_rfl
theorem fan_1 : polyC 9 ir9 ⟨[], []⟩ (trimP (csP 1)) = ⟨trisF 1, badF 1⟩ := by kernel_rfl
theorem fan_2 : polyC 9 ir9 ⟨[], []⟩ (trimP (csP 2)) = ⟨trisF 2, badF 2⟩ := by kernel_rfl
theorem fan_3 : polyC 9 ir9 ⟨[], []⟩ (trimP (csP 3)) = ⟨trisF 3, badF 3⟩ := by kernel_rfl
theorem fan_4 : polyC 9 ir9 ⟨[], []⟩ (trimP (csP 4)) = ⟨trisF 4, badF 4⟩ := by kernel_rfl
theorem fan_5 : polyC 9 ir9 ⟨[], []⟩ (trimP (csP 5)) = ⟨trisF 5, badF 5⟩ := by kernel_rfl
theorem fan_6 : polyC 9 ir9 ⟨[], []⟩ (trimP (csP 6)) = ⟨trisF 6, badF 6⟩ := by kernel_rfl
theorem fan_7 : polyC 9 ir9 ⟨[], []⟩ (trimP (csP 7)) = ⟨trisF 7, badF 7⟩ := by kernel_rfl
theorem fan_8 : polyC 9 ir9 ⟨[], []⟩ (trimP (csP 8)) = ⟨trisF 8, badF 8⟩ := by kernel_rfl
theorem fan_9 : polyC 9 ir9 ⟨[], []⟩ (trimP (csP 9)) = ⟨trisF 9, badF 9⟩ := by kernel_rfl
theorem fan_10 : polyC 9 ir9 ⟨[], []⟩ (trimP (csP 10)) = ⟨trisF 10, badF 10⟩ := by kernel_rfl
theorem fan_11 : polyC 9 ir9 ⟨[], []⟩ (trimP (csP 11)) = ⟨trisF 11, badF 11⟩ := by kernel_rfl
theorem fan_12 : polyC 9 ir9 ⟨[], []⟩ (trimP (csP 12)) = ⟨trisF 12, badF 12⟩ := by kernel_rfl
theorem fan_13 : polyC 9 ir9 ⟨[], []⟩ (trimP (csP 13)) = ⟨trisF 13, badF 13⟩ := by kernel_rfl
theorem fan_14 : polyC 9 ir9 ⟨[], []⟩ (trimP (csP 14)) = ⟨trisF 14, badF 14⟩ := by kernel_rfl
theorem fan_15 : polyC 9 ir9 ⟨[], []⟩ (trimP (csP 15)) = ⟨trisF 15, badF 15⟩ := by kernel_rfl
theorem fan_16 : polyC 9 ir9 ⟨[], []⟩ (trimP (csP 16)) = ⟨trisF 16, badF 16⟩ := by kernel_rfl
theorem fan_17 : polyC 9 ir9 ⟨[], []⟩ (trimP (csP 17)) = ⟨trisF 17, badF 17⟩ := by kernel_rfl
theorem fan_18 : polyC 9 ir9 ⟨[], []⟩ (trimP (csP 18)) = ⟨trisF 18, badF 18⟩ := by kernel_rfl
theorem fan_19 : polyC 9 ir9 ⟨[], []⟩ (trimP (csP 19)) = ⟨trisF 19, badF 19⟩ := by kernel_rfl
theorem fan_20 : polyC 9 ir9 ⟨[], []⟩ (trimP (csP 20)) = ⟨trisF 20, badF 20⟩ := by kernel_rfl
theorem fam_2 : polyC 9 ir9 ⟨[], []⟩ (trimP (csP 2 ++ [cornP 0])) = ⟨trisF 2, badF 2⟩ := by kernel_rfl
theorem fam_3 : polyC 9 ir9 ⟨[], []⟩ (trimP (csP 3 ++ [cornP 0])) = ⟨trisF 3, badF 3⟩ := by kernel_rfl
theorem fam_4 : polyC 9 ir9 ⟨[], []⟩ (trimP (csP 4 ++ [cornP 0])) = ⟨trisF 4, badF 4⟩ := by kernel_rfl
theorem fam_5 : polyC 9 ir9 ⟨[], []⟩ (trimP (csP 5 ++ [cornP 0])) = ⟨trisF 5, badF 5⟩ := by kernel_rfl
theorem fam_6 : polyC 9 ir9 ⟨[], []⟩ (trimP (csP 6 ++ [cornP 0])) = ⟨trisF 6, badF 6⟩ := by kernel_rfl
theorem fam_7 : polyC 9 ir9 ⟨[], []⟩ (trimP (csP 7 ++ [cornP 0])) = ⟨trisF 7, badF 7⟩ := by kernel_rfl
theorem fam_8 : polyC 9 ir9 ⟨[], []⟩ (trimP (csP 8 ++ [cornP 0])) = ⟨trisF 8, badF 8⟩ := by kernel_rfl
theorem fam_9 : polyC 9 ir9 ⟨[], []⟩ (trimP (csP 9 ++ [cornP 0])) = ⟨trisF 9, badF 9⟩ := by kernel_rfl
theorem fam_10 : polyC 9 ir9 ⟨[], []⟩ (trimP (csP 10 ++ [cornP 0])) = ⟨trisF 10, badF 10⟩ := by kernel_rfl
theorem fam_11 : polyC 9 ir9 ⟨[], []⟩ (trimP (csP 11 ++ [cornP 0])) = ⟨trisF 11, badF 11⟩ := by kernel_rfl
theorem fam_12 : polyC 9 ir9 ⟨[], []⟩ (trimP (csP 12 ++ [cornP 0])) = ⟨trisF 12, badF 12⟩ := by kernel_rfl
theorem fam_13 : polyC 9 ir9 ⟨[], []⟩ (trimP (csP 13 ++ [cornP 0])) = ⟨trisF 13, badF 13⟩ := by kernel_rfl
theorem fam_14 : polyC 9 ir9 ⟨[], []⟩ (trimP (csP 14 ++ [cornP 0])) = ⟨trisF 14, badF 14⟩ := by kernel_rfl
theorem fam_15 : polyC 9 ir9 ⟨[], []⟩ (trimP (csP 15 ++ [cornP 0])) = ⟨trisF 15, badF 15⟩ := by kernel_rfl
theorem fam_16 : polyC 9 ir9 ⟨[], []⟩ (trimP (csP 16 ++ [cornP 0])) = ⟨trisF 16, badF 16⟩ := by kernel_rfl
theorem fam_17 : polyC 9 ir9 ⟨[], []⟩ (trimP (csP 17 ++ [cornP 0])) = ⟨trisF 17, badF 17⟩ := by kernel_rfl
theorem fam_18 : polyC 9 ir9 ⟨[], []⟩ (trimP (csP 18 ++ [cornP 0])) = ⟨trisF 18, badF 18⟩ := by kernel_rfl
theorem fam_19 : polyC 9 ir9 ⟨[], []⟩ (trimP (csP 19 ++ [cornP 0])) = ⟨trisF 19, badF 19⟩ := by kernel_rfl
theorem fam_20 : polyC 9 ir9 ⟨[], []⟩ (trimP (csP 20 ++ [cornP 0])) = ⟨trisF 20, badF 20⟩ := by kernel_rfl
theorem fan_n {n : Nat} (h : n ≤ 20) : polyC 9 ir9 ⟨[], []⟩ (trimP (csP n)) = ⟨trisF n, badF n⟩ := by
  have hn : n = 0 ∨ n = 1 ∨ n = 2 ∨ n = 3 ∨ n = 4 ∨ n = 5 ∨ n = 6 ∨ n = 7 ∨ n = 8 ∨ n = 9 ∨ n = 10 ∨ n = 11 ∨ n = 12 ∨ n = 13 ∨ n = 14 ∨ n = 15 ∨ n = 16 ∨ n = 17 ∨ n = 18 ∨ n = 19 ∨ n = 20 := by omega
  rcases hn with rfl | rfl | rfl | rfl | rfl | rfl | rfl | rfl | rfl | rfl | rfl | rfl | rfl | rfl | rfl | rfl | rfl | rfl | rfl | rfl | rfl
  · exact fan_0
  · exact fan_1
  · exact fan_2
  · exact fan_3
  · exact fan_4
  · exact fan_5
  · exact fan_6
  · exact fan_7
  · exact fan_8
  · exact fan_9
  · exact fan_10
  · exact fan_11
  · exact fan_12
  · exact fan_13
  · exact fan_14
  · exact fan_15
  · exact fan_16
  · exact fan_17
  · exact fan_18
  · exact fan_19
  · exact fan_20
theorem fan_m {n : Nat} (h : n ≤ 20) (h2 : 2 ≤ n) : polyC 9 ir9 ⟨[], []⟩ (trimP (csP n ++ [cornP 0])) = ⟨trisF n, badF n⟩ := by
  have hn : n = 2 ∨ n = 3 ∨ n = 4 ∨ n = 5 ∨ n = 6 ∨ n = 7 ∨ n = 8 ∨ n = 9 ∨ n = 10 ∨ n = 11 ∨ n = 12 ∨ n = 13 ∨ n = 14 ∨ n = 15 ∨ n = 16 ∨ n = 17 ∨ n = 18 ∨ n = 19 ∨ n = 20 := by omega
  rcases hn with rfl | rfl | rfl | rfl | rfl | rfl | rfl | rfl | rfl | rfl | rfl | rfl | rfl | rfl | rfl | rfl | rfl | rfl | rfl
  · exact fam_2
  · exact fam_3
  · exact fam_4
  · exact fam_5
  · exact fam_6
  · exact fam_7
  · exact fam_8
  · exact fam_9
  · exact fam_10
  · exact fam_11
  · exact fam_12
  · exact fam_13
  · exact fam_14
  · exact fam_15
  · exact fam_16
  · exact fam_17
  · exact fam_18
  · exact fam_19
  · exact fam_20
/-- what Heal answers -/
theorem fans_heal {p : PY} {n : Nat} {l : List PT} (hn : n ≤ 20) (hl : Good n l) (h : p.cor = l ∨ (1 ≤ n ∧ p.cor = l ++ [cornP 0])) (hpl : p.pl = 9) : healT [p] = ⟨trisF n, badF n⟩ := by
  have key : ∀ (pl : Int) (hp : IR pl) (X : List PT), pl = 9 → polyC 9 ir9 ⟨[], []⟩ X = ⟨trisF n, badF n⟩ → polyC pl hp ⟨[], []⟩ X = ⟨trisF n, badF n⟩ := fun pl hp X e h => by subst e; exact h
  show polyT ⟨[], []⟩ p = _
  rw [poly_c]
  refine key _ _ _ hpl ?_
  rcases h with h | ⟨h1, h⟩
  · rw [h, hl.c]; exact fan_n hn
  · rw [h]
    by_cases h2 : n = 1
    · subst h2
      rw [cmp_snoc_eq (by rw [hl.t]; rfl), hl.c]; exact fan_n hn
    · rw [cmp_snoc_ne, hl.c]
      · exact fan_m hn (by omega)
      · rw [hl.t]
        obtain ⟨m, rfl⟩ : ∃ m, n = m + 1 := ⟨n - 1, by omega⟩
        rw [csP_succ]
        simp only [List.getLast?_append, List.getLast?_singleton, Option.some_or, ne_eq, Option.some.injEq]
        exact corn_ne (by omega) (by omega) (by omega)
end Go.Proofs.YtdjpbccaglkafaaDoor
