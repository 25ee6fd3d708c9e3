/- Plain mathematics: digits, bytes, integers. No program in sight. Words for memory: a slice that holds digits; a block of the call's own that holds digits. What stays behind a call. slices.Backward over words: the iterator's contract. strings.TrimLeft at the cutset that is the zero byte alone. nat.norm: the zeros at the end are left out. nat.wide: the canonical number with a sign and an absolute value. nat.add. Bits of words, in the walk's form. wide.abs: the words of a number. nat.cmp. nat.sub, where the first number is not less. nat.mul. Numbers as Go holds them: what comes in, what is handed back. wide.Mul, Neg, Add, Sub, From, Sign, Cmp. wide.Sub, From. wide.Sign, Cmp. -/
import Derived.Test.YthmdmbpecgakkaaDoorProg
import Derived.WalkKit
import Derived.WalkSpells
import Derived.WalkLawsBesides
import Derived.Lib.Hide
import Derived.Deep.RegionHeld3
import Derived.RangeFuncNested
import Derived.RangeFuncBound
import Derived.RangeFuncCalls
import Derived.RangeFuncLeaves
import Derived.Shelf.Abstract
import Derived.Shelf.RegionOpen
import Derived.OwnWalkIn
import Derived.TacticsInMore
import Derived.LoopNIn
import Derived.LoopIn
import Derived.Lib.IndexBytes
import Derived.Maps.AppendAt
import Derived.Deep.DeepCutAuto
namespace Go.Proofs.YthmdmbpecgakkaaDoor
/-- the value of little-endian digits to the base B -/
def val (B : Nat) : List Nat → Nat
  | [] => 0
  | d :: l => d + B * val B l

/-- the canonical digits of a number, the least significant one first, without zeros at the end (B at least 2) -/
def dig (B : Nat) (n : Nat) : List Nat :=
  if _h : n = 0 ∨ B < 2 then [] else n % B :: dig B (n / B)
termination_by n
decreasing_by exact Nat.div_lt_self (by omega) (by omega)

/-- the length without the zeros at the end -/
def tlen : List Nat → Nat
  | [] => 0
  | d :: l => if tlen l = 0 ∧ d = 0 then 0 else tlen l + 1

def Dl (B : Nat) (l : List Nat) : Prop := ∀ d ∈ l, d < B

theorem dig_zero (B : Nat) : dig B 0 = [] := by unfold dig; simp
theorem dig_pos {B n : Nat} (hB : 2 ≤ B) (hn : 0 < n) : dig B n = n % B :: dig B (n / B) := by
  rw [dig]; rw [dif_neg (by omega)]
theorem val_nil (B : Nat) : val B [] = 0 := rfl
theorem val_cons (B d : Nat) (l : List Nat) : val B (d :: l) = d + B * val B l := rfl

theorem val_dig {B : Nat} (hB : 2 ≤ B) (n : Nat) : val B (dig B n) = n := by
  induction n using Nat.strongRecOn with
  | _ n ih =>
    rcases Nat.eq_zero_or_pos n with h | h
    · subst h; rw [dig_zero]; rfl
    · rw [dig_pos hB h, val_cons, ih _ (Nat.div_lt_self h (by omega))]
      exact Nat.mod_add_div n B

theorem dig_Dl {B : Nat} (hB : 2 ≤ B) (n : Nat) : Dl B (dig B n) := by
  induction n using Nat.strongRecOn with
  | _ n ih =>
    rcases Nat.eq_zero_or_pos n with h | h
    · subst h; rw [dig_zero]; intro d hd; cases hd
    · rw [dig_pos hB h]
      intro d hd
      rcases List.mem_cons.1 hd with h1 | h1
      · subst h1; exact Nat.mod_lt _ (by omega)
      · exact ih _ (Nat.div_lt_self h (by omega)) d h1

theorem Dl.nil (B : Nat) : Dl B [] := fun d h => by cases h
theorem Dl.tail {B d : Nat} {l : List Nat} (h : Dl B (d :: l)) : Dl B l := fun x hx => h x (List.mem_cons_of_mem _ hx)
theorem Dl.head {B d : Nat} {l : List Nat} (h : Dl B (d :: l)) : d < B := h d (List.mem_cons_self ..)
theorem Dl.take {B : Nat} {l : List Nat} (h : Dl B l) (k : Nat) : Dl B (l.take k) := fun x hx => h x (List.mem_of_mem_take hx)
theorem Dl.drop {B : Nat} {l : List Nat} (h : Dl B l) (k : Nat) : Dl B (l.drop k) := fun x hx => h x (List.mem_of_mem_drop hx)
theorem Dl.append {B : Nat} {l m : List Nat} (h : Dl B l) (h' : Dl B m) : Dl B (l ++ m) := fun x hx => (List.mem_append.1 hx).elim (h x) (h' x)
theorem Dl.one {B d : Nat} (h : d < B) : Dl B [d] := fun x hx => by simp at hx; omega
theorem Dl.get {B : Nat} {l : List Nat} (h : Dl B l) (i : Nat) (hi : i < l.length) : l[i] < B := h _ (List.getElem_mem hi)
theorem Dl.getD {B : Nat} {l : List Nat} (h : Dl B l) (hB : 0 < B) (i : Nat) : l.getD i 0 < B := by
  by_cases hi : i < l.length
  · rw [List.getD_eq_getElem?_getD, List.getElem?_eq_getElem hi]; exact h.get i hi
  · rw [List.getD_eq_getElem?_getD, List.getElem?_eq_none (by omega)]; simpa using hB
theorem Dl.set {B : Nat} {l : List Nat} (h : Dl B l) (i : Nat) {v : Nat} (hv : v < B) : Dl B (l.set i v) := fun x hx => by
  rcases List.mem_or_eq_of_mem_set hx with h1 | h1
  · exact h x h1
  · omega
theorem Dl.replicate {B : Nat} (hB : 0 < B) (n : Nat) : Dl B (List.replicate n 0) := fun x hx => by
  rw [List.mem_replicate] at hx; omega

theorem val_append (B : Nat) (l m : List Nat) : val B (l ++ m) = val B l + B ^ l.length * val B m := by
  induction l with
  | nil => simp [val]
  | cons d l ih => simp only [List.cons_append, val_cons, ih, List.length_cons, Nat.pow_succ, Nat.mul_add]; rw [Nat.mul_comm (B ^ l.length) B, Nat.mul_assoc]; omega

theorem val_lt {B : Nat} {l : List Nat} (h : Dl B l) : val B l < B ^ l.length := by
  induction l with
  | nil => simp [val]
  | cons d l ih =>
    have h1 := ih h.tail
    have h2 := h.head
    simp only [val_cons, List.length_cons, Nat.pow_succ]
    calc d + B * val B l < B + B * val B l := by omega
      _ = B * (val B l + 1) := by rw [Nat.mul_add]; omega
      _ ≤ B * B ^ l.length := Nat.mul_le_mul_left _ h1
      _ = B ^ l.length * B := Nat.mul_comm _ _

theorem val_replicate (B n : Nat) : val B (List.replicate n 0) = 0 := by
  induction n with
  | zero => rfl
  | succ n ih => rw [List.replicate_succ, val_cons, ih]; simp

theorem val_take_succ (B : Nat) (l : List Nat) (k : Nat) (hk : k < l.length) : val B (l.take (k + 1)) = val B (l.take k) + B ^ k * l[k] := by
  rw [List.take_succ_eq_append_getElem hk, val_append, val_cons, val_nil, List.length_take]
  rw [Nat.min_eq_left (by omega)]; simp

theorem val_split (B : Nat) (l : List Nat) (k : Nat) : val B l = val B (l.take k) + B ^ (min k l.length) * val B (l.drop k) := by
  conv => lhs; rw [← List.take_append_drop k l]
  rw [val_append, List.length_take]

theorem val_drop (B : Nat) (l : List Nat) (k : Nat) (hk : k < l.length) : val B (l.drop k) = l[k] + B * val B (l.drop (k + 1)) := by
  rw [List.drop_eq_getElem_cons hk, val_cons]

theorem val_set (B : Nat) (l : List Nat) (i v : Nat) (hi : i < l.length) : val B (l.set i v) + B ^ i * l[i] = val B l + B ^ i * v := by
  induction l generalizing i with
  | nil => simp at hi
  | cons d l ih =>
    cases i with
    | zero => simp only [List.set_cons_zero, val_cons, List.getElem_cons_zero, Nat.pow_zero, Nat.one_mul]; omega
    | succ i =>
      simp only [List.length_cons] at hi
      have := ih i (by omega)
      simp only [List.set_cons_succ, val_cons, List.getElem_cons_succ, Nat.pow_succ]
      have e1 : B ^ i * B * l[i] = B * (B ^ i * l[i]) := by rw [Nat.mul_comm (B ^ i) B, Nat.mul_assoc]
      have e2 : B ^ i * B * v = B * (B ^ i * v) := by rw [Nat.mul_comm (B ^ i) B, Nat.mul_assoc]
      rw [e1, e2]
      have := congrArg (B * ·) this
      simp only [Nat.mul_add] at this
      omega

theorem tlen_le (l : List Nat) : tlen l ≤ l.length := by
  induction l with
  | nil => simp [tlen]
  | cons d l ih => simp only [tlen, List.length_cons]; split <;> omega

theorem take_tlen {B : Nat} (hB : 2 ≤ B) {l : List Nat} (h : Dl B l) : l.take (tlen l) = dig B (val B l) := by
  induction l with
  | nil => simp [tlen, val_nil, dig_zero]
  | cons d l ih =>
    have ih := ih h.tail
    have hd := h.head
    simp only [tlen]
    split
    · rename_i hz
      obtain ⟨h0, rfl⟩ := hz
      rw [h0] at ih
      have : val B l = 0 := by
        have := val_dig hB (val B l)
        rw [← ih] at this
        simpa [val] using this.symm
      simp [val_cons, this, dig_zero]
    · rename_i hz
      rw [List.take_succ_cons]
      have hpos : 0 < val B (d :: l) := by
        rw [val_cons]
        rcases Nat.eq_zero_or_pos d with h0 | h0
        · have h1 : tlen l ≠ 0 := fun h1 => hz ⟨h1, h0⟩
          have : 0 < val B l := by
            rcases Nat.eq_zero_or_pos (val B l) with h2 | h2
            · rw [h2, dig_zero] at ih
              have h3 := congrArg List.length ih
              have := tlen_le l
              simp at h3
              rcases h3 with h3 | h3
              · omega
              · subst h3; simp [tlen] at h1
            · exact h2
          have := Nat.mul_le_mul hB (show 1 ≤ val B l from this)
          omega
        · omega
      rw [dig_pos hB hpos, val_cons, Nat.add_mul_mod_self_left, Nat.mod_eq_of_lt hd, Nat.add_mul_div_left _ _ (by omega), Nat.div_eq_of_lt hd, Nat.zero_add, ih]

theorem tlen_eq {l : List Nat} {k : Nat} (hk : k ≤ l.length) (h0 : ∀ j, k ≤ j → l.getD j 0 = 0) (h1 : k = 0 ∨ l.getD (k - 1) 0 ≠ 0) : tlen l = k := by
  induction l generalizing k with
  | nil => simp at hk; simp [tlen, hk]
  | cons d l ih =>
    simp only [tlen]
    cases k with
    | zero =>
      have hd : d = 0 := by simpa using h0 0 (Nat.le_refl _)
      have := ih (k := 0) (by omega) (fun j _ => by simpa using h0 (j + 1) (by omega)) (Or.inl rfl)
      rw [if_pos ⟨this, hd⟩]
    | succ k =>
      simp only [List.length_cons] at hk
      have hz : ∀ j, k ≤ j → l.getD j 0 = 0 := fun j hj => by simpa using h0 (j + 1) (by omega)
      rcases Nat.eq_zero_or_pos k with rfl | hp
      · have := ih (k := 0) (by omega) hz (Or.inl rfl)
        have hd : d ≠ 0 := by simpa using h1
        rw [if_neg (by omega), this]
      · have := ih (k := k) (by omega) hz (Or.inr (by
          rcases h1 with h1 | h1
          · omega
          · obtain ⟨m, rfl⟩ : ∃ m, k = m + 1 := ⟨k - 1, by omega⟩
            simpa using h1))
        rw [if_neg (by omega), this]

theorem dig_unique {B : Nat} (hB : 2 ≤ B) {l : List Nat} (h : Dl B l) (hl : l = [] ∨ l.getD (l.length - 1) 0 ≠ 0) : dig B (val B l) = l := by
  rw [← take_tlen hB h, tlen_eq (k := l.length) (Nat.le_refl _) (fun j hj => by rw [List.getD_eq_getElem?_getD, List.getElem?_eq_none hj]; rfl) (by
    rcases hl with rfl | hl
    · simp
    · exact Or.inr hl), List.take_length]

theorem dig_last {B : Nat} (hB : 2 ≤ B) (n : Nat) (hn : 0 < n) : (dig B n).getD ((dig B n).length - 1) 0 ≠ 0 := by
  induction n using Nat.strongRecOn with
  | _ n ih =>
    rw [dig_pos hB hn]
    rcases Nat.eq_zero_or_pos (n / B) with h | h
    · rw [h, dig_zero]
      have := Nat.div_eq_zero_iff.1 h
      simp
      have := Nat.mod_eq_of_lt (show n < B by omega)
      omega
    · have h1 := ih _ (Nat.div_lt_self hn (by omega)) h
      have h2 : 0 < (dig B (n / B)).length := by rw [dig_pos hB h]; simp
      obtain ⟨m, hm⟩ : ∃ m, (dig B (n / B)).length = m + 1 := ⟨(dig B (n / B)).length - 1, by omega⟩
      rw [hm] at h1
      simp only [List.length_cons, hm]
      simpa using h1

theorem dig_length_le {B : Nat} (hB : 2 ≤ B) {n k : Nat} (h : n < B ^ k) : (dig B n).length ≤ k := by
  induction k generalizing n with
  | zero => have : n = 0 := by simpa using h
            subst this; simp [dig_zero]
  | succ k ih =>
    rcases Nat.eq_zero_or_pos n with rfl | hn
    · simp [dig_zero]
    · rw [dig_pos hB hn, List.length_cons]
      have := ih (n := n / B) (by rw [Nat.div_lt_iff_lt_mul (by omega), ← Nat.pow_succ]; exact h)
      omega

theorem lt_of_dig_length {B : Nat} (hB : 2 ≤ B) (n : Nat) : n < B ^ (dig B n).length := by
  have := val_lt (dig_Dl hB n)
  rwa [val_dig hB] at this

theorem le_of_dig_length {B : Nat} (hB : 2 ≤ B) {n : Nat} (hn : 0 < n) : B ^ ((dig B n).length - 1) ≤ n := by
  rcases Nat.lt_or_ge n (B ^ ((dig B n).length - 1)) with h | h
  · have h1 := dig_length_le hB h
    have h2 : 0 < (dig B n).length := by rw [dig_pos hB hn]; simp
    omega
  · exact h

theorem dig_eq_nil {B : Nat} (hB : 2 ≤ B) {n : Nat} : dig B n = [] ↔ n = 0 := by
  constructor
  · intro h
    have := val_dig hB n
    rw [h] at this
    exact this.symm
  · rintro rfl; exact dig_zero B
theorem dig_len_zero {B : Nat} (hB : 2 ≤ B) {n : Nat} : (dig B n).length = 0 ↔ n = 0 := by
  rw [List.length_eq_zero_iff]; exact dig_eq_nil hB

theorem dig_len_mono {B : Nat} (hB : 2 ≤ B) {m n : Nat} (h : m ≤ n) : (dig B m).length ≤ (dig B n).length :=
  dig_length_le hB (Nat.lt_of_le_of_lt h (lt_of_dig_length hB n))
/-- comparing: fewer digits, a smaller number -/
theorem lt_of_len_lt {B : Nat} (hB : 2 ≤ B) {m n : Nat} (h : (dig B m).length < (dig B n).length) : m < n := by
  have h1 := lt_of_dig_length hB m
  have hn : 0 < n := by
    rcases Nat.eq_zero_or_pos n with rfl | h0
    · rw [dig_zero] at h; simp at h
    · exact h0
  have h2 := le_of_dig_length hB hn
  have := Nat.pow_le_pow_right (show 0 < B by omega) (show (dig B m).length ≤ (dig B n).length - 1 by omega)
  omega

theorem val_lt_of_digit {B : Nat} {l m : List Nat} (hl : Dl B l) (hlen : l.length = m.length) {i : Nat} (hi : i < l.length) (hs : l.drop (i + 1) = m.drop (i + 1)) (hd : l[i] < m[i]'(by omega)) : val B l < val B m := by
  rw [val_split B l i, val_split B m i, val_drop B l i hi, val_drop B m i (by omega), hs, Nat.min_eq_left (by omega), Nat.min_eq_left (by omega)]
  have h1 := val_lt (hl.take i)
  rw [List.length_take, Nat.min_eq_left (by omega)] at h1
  have h2 : B ^ i * (l[i] + B * val B (m.drop (i + 1))) + B ^ i ≤ B ^ i * (m[i]'(by omega) + B * val B (m.drop (i + 1))) := by
    rw [← Nat.mul_succ]
    exact Nat.mul_le_mul_left _ (by omega)
  omega
theorem val_take_succ' (B : Nat) (l : List Nat) (k : Nat) : val B (l.take (k + 1)) = val B (l.take k) + B ^ k * (l[k]?.getD 0) := by
  by_cases hk : k < l.length
  · rw [val_take_succ B l k hk, List.getElem?_eq_getElem hk]; rfl
  · rw [List.take_of_length_le (by omega), List.take_of_length_le (by omega), List.getElem?_eq_none (by omega)]; simp

theorem take_set_succ (l : List Nat) (k v : Nat) (hk : k < l.length) : (l.set k v).take (k + 1) = l.take k ++ [v] := by
  rw [List.take_succ_eq_append_getElem (by simpa using hk), List.take_set_of_le (Nat.le_refl k)]; simp

theorem val_take_set (B : Nat) (l : List Nat) (k v : Nat) (hk : k < l.length) : val B ((l.set k v).take (k + 1)) = val B (l.take k) + B ^ k * v := by
  rw [take_set_succ l k v hk, val_append, List.length_take, Nat.min_eq_left (by omega)]; simp [val]

/-- one step of an addition -/
theorem add_step {B : Nat} {a b l : List Nat} {k c x y : Nat} (hk : k < l.length)
    (hx : a[k]?.getD 0 = x) (hy : b[k]?.getD 0 = y) (h : val B (l.take k) + B ^ k * c = val B (a.take k) + val B (b.take k)) :
    val B ((l.set k ((x + c + y) % B)).take (k + 1)) + B ^ (k + 1) * ((x + c + y) / B) = val B (a.take (k + 1)) + val B (b.take (k + 1)) := by
  rw [val_take_set B l k _ hk, val_take_succ', val_take_succ', hx, hy, Nat.pow_succ, Nat.mul_assoc]
  have : B ^ k * ((x + c + y) % B) + B ^ k * (B * ((x + c + y) / B)) = B ^ k * x + B ^ k * c + B ^ k * y := by
    rw [← Nat.mul_add, Nat.mod_add_div, Nat.mul_add, Nat.mul_add]
  omega

/-- one step of a subtraction: the new digit and the new borrow -/
theorem sub_step {B : Nat} {a b l : List Nat} {k c x y d c' : Nat} (hk : k < l.length)
    (hx : a[k]?.getD 0 = x) (hy : b[k]?.getD 0 = y) (hd : d + c + y = x + B * c') (h' : val B (l.take k) + val B (b.take k) = val B (a.take k) + B ^ k * c) :
    val B ((l.set k d).take (k + 1)) + val B (b.take (k + 1)) = val B (a.take (k + 1)) + B ^ (k + 1) * c' := by
  rw [val_take_set B l k _ hk, val_take_succ', val_take_succ', hx, hy, Nat.pow_succ, Nat.mul_assoc]
  have := congrArg (B ^ k * ·) hd
  simp only [Nat.mul_add] at this
  omega

theorem getD_get {l : List Nat} {i : Nat} (h : i < l.length) : l[i]?.getD 0 = l[i] := by rw [List.getElem?_eq_getElem h]; rfl
theorem val_setD (B : Nat) (l : List Nat) (i v : Nat) (hi : i < l.length) : val B (l.set i v) + B ^ i * l[i]?.getD 0 = val B l + B ^ i * v := by
  rw [getD_get hi]; exact val_set B l i v hi
/-- the two halves of a word that is shifted to the left -/
theorem shl_word {x n u : Nat} (hx : x < 4294967296) (hn : n < 32) (hu : u < 2 ^ n) :
    x * 2 ^ n < 18446744073709551616 ∧ u ||| (x * 2 ^ n % 4294967296) = u + x * 2 ^ n % 4294967296 ∧ u + x * 2 ^ n % 4294967296 < 4294967296 ∧ x * 2 ^ n / 4294967296 < 2 ^ n := by
  have hB : 4294967296 = 2 ^ n * 2 ^ (32 - n) := by
    rw [← Nat.pow_add, show n + (32 - n) = 32 from by omega]
  have hm : x * 2 ^ n % 4294967296 = 2 ^ n * (x % 2 ^ (32 - n)) := by
    rw [Nat.mul_comm]; conv => lhs; rw [hB]
    exact Nat.mul_mod_mul_left _ _ _
  have hq : x % 2 ^ (32 - n) < 2 ^ (32 - n) := Nat.mod_lt _ (Nat.pow_pos (by omega))
  have hle : 2 ^ n * (x % 2 ^ (32 - n) + 1) ≤ 4294967296 := by
    conv => rhs; rw [hB]
    exact Nat.mul_le_mul_left _ hq
  have hP : 2 ^ n ≤ 2 ^ 31 := Nat.pow_le_pow_right (by omega) (by omega)
  refine ⟨?_, ?_, ?_, ?_⟩
  · have := Nat.mul_le_mul (show x ≤ 4294967295 by omega) hP
    omega
  · rw [hm, Nat.or_comm, Nat.mul_comm, ← Nat.shiftLeft_eq, ← Nat.shiftLeft_add_eq_or_of_lt hu]; omega
  · rw [hm]; rw [Nat.mul_add] at hle; omega
  · rw [Nat.div_lt_iff_lt_mul (by omega), Nat.mul_comm (2 ^ n)]
    exact Nat.mul_lt_mul_of_pos_right hx (Nat.pow_pos (by omega))

/-- one step of a shift to the left -/
theorem shl_step {B : Nat} {a l : List Nat} {k n : Nat} (hk : k + 1 < l.length) (hz : l[k + 1]?.getD 0 = 0) (h : val B l = val B (a.take k) * 2 ^ n) :
    val B ((l.set k (l[k]?.getD 0 + (a[k]?.getD 0) * 2 ^ n % B)).set (k + 1) ((a[k]?.getD 0) * 2 ^ n / B)) = val B (a.take (k + 1)) * 2 ^ n := by
  have h1 := val_setD B l k (l[k]?.getD 0 + (a[k]?.getD 0) * 2 ^ n % B) (by omega)
  have h2 := val_setD B (l.set k (l[k]?.getD 0 + (a[k]?.getD 0) * 2 ^ n % B)) (k + 1) ((a[k]?.getD 0) * 2 ^ n / B) (by rw [List.length_set]; exact hk)
  rw [List.getElem?_set_ne (by omega), hz, Nat.mul_zero, Nat.add_zero] at h2
  rw [h2, val_take_succ', Nat.add_mul, ← h, Nat.mul_assoc]
  rw [Nat.mul_add] at h1
  have h3 : B ^ k * (a[k]?.getD 0 * 2 ^ n % B) + B ^ (k + 1) * (a[k]?.getD 0 * 2 ^ n / B) = B ^ k * (a[k]?.getD 0 * 2 ^ n) := by
    rw [Nat.pow_succ, Nat.mul_assoc, ← Nat.mul_add, Nat.mod_add_div]
  omega

/-- the two halves of a word that is shifted to the right -/
theorem shr_word {x n u : Nat} (hx : x < 4294967296) (hn : n < 32) (hu : u < 2 ^ (32 - n)) :
    x * 2 ^ (32 - n) < 18446744073709551616 ∧ x / 2 ^ n < 2 ^ (32 - n) ∧ u ||| (x * 2 ^ (32 - n) % 4294967296) = u + 2 ^ (32 - n) * (x % 2 ^ n) ∧ u + 2 ^ (32 - n) * (x % 2 ^ n) < 4294967296 := by
  have hB : 4294967296 = 2 ^ (32 - n) * 2 ^ n := by
    rw [← Nat.pow_add, show 32 - n + n = 32 from by omega]
  have hm : x * 2 ^ (32 - n) % 4294967296 = 2 ^ (32 - n) * (x % 2 ^ n) := by
    rw [Nat.mul_comm]; conv => lhs; rw [hB]
    exact Nat.mul_mod_mul_left _ _ _
  have hq : x % 2 ^ n < 2 ^ n := Nat.mod_lt _ (Nat.pow_pos (by omega))
  have hle : 2 ^ (32 - n) * (x % 2 ^ n + 1) ≤ 4294967296 := by
    conv => rhs; rw [hB]
    exact Nat.mul_le_mul_left _ hq
  have hP : 2 ^ (32 - n) ≤ 2 ^ 32 := Nat.pow_le_pow_right (by omega) (by omega)
  refine ⟨?_, ?_, ?_, ?_⟩
  · have := Nat.mul_le_mul (show x ≤ 4294967295 by omega) hP
    omega
  · rw [Nat.div_lt_iff_lt_mul (Nat.pow_pos (by omega)), ← hB]; exact hx
  · rw [hm, Nat.or_comm, Nat.mul_comm, ← Nat.shiftLeft_eq, ← Nat.shiftLeft_add_eq_or_of_lt hu]; omega
  · rw [Nat.mul_add] at hle; omega

/-- one step of a shift to the right, behind the first one -/
theorem shr_step {a l : List Nat} {k n : Nat} (hn : n < 32) (hk0 : 0 < k) (hk : k < l.length) (hz : l[k]?.getD 0 = 0) (h : val 4294967296 l = val 4294967296 (a.take k) / 2 ^ n) :
    val 4294967296 ((l.set k (a[k]?.getD 0 / 2 ^ n)).set (k - 1) (l[k - 1]?.getD 0 + 2 ^ (32 - n) * (a[k]?.getD 0 % 2 ^ n))) = val 4294967296 (a.take (k + 1)) / 2 ^ n := by
  have h1 := val_setD 4294967296 l k (a[k]?.getD 0 / 2 ^ n) hk
  have h2 := val_setD 4294967296 (l.set k (a[k]?.getD 0 / 2 ^ n)) (k - 1) (l[k - 1]?.getD 0 + 2 ^ (32 - n) * (a[k]?.getD 0 % 2 ^ n)) (by rw [List.length_set]; omega)
  rw [hz, Nat.mul_zero, Nat.add_zero] at h1
  rw [List.getElem?_set_ne (by omega), Nat.mul_add] at h2
  rw [val_take_succ']
  generalize a[k]?.getD 0 = x at *
  have hB : 4294967296 = 2 ^ n * 2 ^ (32 - n) := by
    rw [← Nat.pow_add, show n + (32 - n) = 32 from by omega]
  have hk1 : 4294967296 ^ k = 4294967296 ^ (k - 1) * 4294967296 := by
    rw [← Nat.pow_succ, show (k - 1).succ = k from by omega]
  have e : 4294967296 ^ k * x = 2 ^ n * (2 ^ (32 - n) * (4294967296 ^ (k - 1) * x)) := by
    rw [hk1]
    generalize 4294967296 ^ (k - 1) = t
    rw [hB]
    generalize 2 ^ n = P
    generalize 2 ^ (32 - n) = Q
    grind
  have e2 : 2 ^ (32 - n) * (4294967296 ^ (k - 1) * x) = 4294967296 ^ k * (x / 2 ^ n) + 4294967296 ^ (k - 1) * (2 ^ (32 - n) * (x % 2 ^ n)) := by
    have hx := Nat.div_add_mod x (2 ^ n)
    rw [hk1]
    generalize 4294967296 ^ (k - 1) = t
    rw [hB]
    generalize x / 2 ^ n = d at *
    generalize x % 2 ^ n = m at *
    generalize 2 ^ n = P at *
    generalize 2 ^ (32 - n) = Q
    subst hx
    grind
  rw [e, Nat.add_mul_div_left _ _ (Nat.pow_pos (by omega)), ← h, e2]
  omega

/-- one step of a division by a word, from the most significant word on -/
theorem small_step {B d : Nat} {a l : List Nat} {k r : Nat} (hk : 0 < k) (hka : k ≤ a.length) (hkl : k ≤ l.length) (h : val B (a.drop k) = d * val B (l.drop k) + r) :
    val B (a.drop (k - 1)) = d * val B ((l.set (k - 1) ((r * B + a[k - 1]?.getD 0) / d)).drop (k - 1)) + (r * B + a[k - 1]?.getD 0) % d := by
  rw [val_drop B a (k - 1) (by omega), val_drop B _ (k - 1) (by rw [List.length_set]; omega), show k - 1 + 1 = k from by omega, List.getElem_set_self, List.drop_set, if_pos (by omega), h, getD_get (show k - 1 < a.length by omega), Nat.mul_add d]
  have h1 := Nat.div_add_mod (r * B + a[k - 1]) d
  have h2 : B * (d * val B (l.drop k) + r) = d * (B * val B (l.drop k)) + r * B := by grind
  omega
/-- one step of the inner loop of a multiplication -/
theorem mul_step {B : Nat} {b l : List Nat} {i k c x R : Nat} (hj : i + k < l.length)
    (h : val B l + B ^ (i + k) * c = R + x * val B (b.take k) * B ^ i) :
    val B (l.set (i + k) ((l[i + k]?.getD 0 + x * b[k]?.getD 0 + c) % B)) + B ^ (i + (k + 1)) * ((l[i + k]?.getD 0 + x * b[k]?.getD 0 + c) / B) = R + x * val B (b.take (k + 1)) * B ^ i := by
  have h1 := val_setD B l (i + k) ((l[i + k]?.getD 0 + x * b[k]?.getD 0 + c) % B) hj
  rw [val_take_succ']
  generalize l[i + k]?.getD 0 = u at *
  generalize b[k]?.getD 0 = y at *
  generalize hs : u + x * y + c = s at *
  have h2 : B ^ (i + k) * (s % B) + B ^ (i + (k + 1)) * (s / B) = B ^ (i + k) * s := by
    rw [show i + (k + 1) = i + k + 1 from rfl, Nat.pow_succ, Nat.mul_assoc, ← Nat.mul_add, Nat.mod_add_div]
  have h3 : B ^ (i + k) * s = B ^ (i + k) * u + B ^ (i + k) * (x * y) + B ^ (i + k) * c := by rw [← hs, Nat.mul_add, Nat.mul_add]
  have h4 : x * (val B (b.take k) + B ^ k * y) * B ^ i = x * val B (b.take k) * B ^ i + B ^ (i + k) * (x * y) := by
    rw [Nat.pow_add]; grind
  omega
/-- the end of the inner loop -/
theorem mul_row {B : Nat} {a b l : List Nat} {i c : Nat} (hj : i + b.length < l.length) (hz : l[i + b.length]?.getD 0 = 0)
    (h : val B l + B ^ (i + b.length) * c = val B (a.take i) * val B b + (a[i]?.getD 0) * val B (b.take b.length) * B ^ i) :
    val B (l.set (i + b.length) c) = val B (a.take (i + 1)) * val B b := by
  have h1 := val_setD B l (i + b.length) c hj
  rw [hz, Nat.mul_zero, Nat.add_zero] at h1
  rw [h1, h, List.take_length, val_take_succ']
  grind
theorem val_lt_of_getD {B : Nat} {l m : List Nat} (hl : Dl B l) (hlen : l.length = m.length) {k : Nat} (hk : 0 < k) (hkl : k ≤ l.length) (hs : l.drop k = m.drop k)
    (hd : l[k - 1]?.getD 0 < m[k - 1]?.getD 0) : val B l < val B m := by
  rw [List.getElem?_eq_getElem (by omega), List.getElem?_eq_getElem (by omega)] at hd
  exact val_lt_of_digit hl hlen (i := k - 1) (by omega) (by rw [show k - 1 + 1 = k from by omega]; exact hs) hd
theorem drop_pred {l m : List Nat} (hlen : l.length = m.length) {k : Nat} (hk : 0 < k) (hkl : k ≤ l.length) (hs : l.drop k = m.drop k)
    (hd : l[k - 1]?.getD 0 = m[k - 1]?.getD 0) : l.drop (k - 1) = m.drop (k - 1) := by
  rw [List.getElem?_eq_getElem (by omega), List.getElem?_eq_getElem (by omega)] at hd
  simp only [Option.getD_some] at hd
  rw [List.drop_eq_getElem_cons (by omega), List.drop_eq_getElem_cons (l := m) (by omega), show k - 1 + 1 = k from by omega, hs, hd]

theorem isqrt_step {x r q s : Nat} (hr : 0 < r) (hq : q = x / r) (hs : s = (r + q) / 2) : x < (s + 1) * (s + 1) := by
  have h1 : x < (q + 1) * r := by rw [hq, Nat.mul_comm]; exact Nat.lt_mul_div_succ x hr
  have h2 : r + q ≤ 2 * s + 1 := by omega
  have h3 : 4 * ((q + 1) * r) ≤ (q + 1 + r) * (q + 1 + r) := by
    generalize q + 1 = t
    rcases Nat.le_total t r with h | h
    · obtain ⟨d, rfl⟩ := Nat.le.dest h
      have e : (t + (t + d)) * (t + (t + d)) = 4 * (t * (t + d)) + d * d := by grind
      omega
    · obtain ⟨d, rfl⟩ := Nat.le.dest h
      have e : (r + d + r) * (r + d + r) = 4 * ((r + d) * r) + d * d := by grind
      omega
  have h4 : (q + 1 + r) * (q + 1 + r) ≤ (2 * s + 2) * (2 * s + 2) := Nat.mul_le_mul (by omega) (by omega)
  have h5 : (2 * s + 2) * (2 * s + 2) = 4 * ((s + 1) * (s + 1)) := by
    have : 2 * s + 2 = 2 * (s + 1) := by omega
    rw [this, Nat.mul_mul_mul_comm]
  omega

theorem knuth_up {U V U3 V2 X g ul vl : Nat} (hV : V = V2 * X + vl) (hvl : vl < X) (hU : U = U3 * X + ul) (hg : g * V2 ≤ U3) (hgX : g * X ≤ V) (hV0 : 0 < V) : g * V < U + V := by
  have h1 : g * V = g * V2 * X + g * vl := by rw [hV, Nat.mul_add, Nat.mul_assoc]
  have h2 : g * V2 * X ≤ U3 * X := Nat.mul_le_mul_right _ hg
  rcases Nat.eq_zero_or_pos g with h0 | h0
  · subst h0; simp; omega
  · have : g * vl < g * X := Nat.mul_lt_mul_of_pos_left hvl h0
    omega
theorem knuth_start {U V two top Y g ul vl : Nat} (hV : V = top * Y + vl) (hU : U = two * Y + ul) (hul : ul < Y) (hg : g = two / top) (ht : 0 < top) : U < (g + 1) * V := by
  have h1 : two < (g + 1) * top := by rw [hg, Nat.mul_comm]; exact Nat.lt_mul_div_succ two ht
  have h2 : (two + 1) * Y ≤ (g + 1) * top * Y := Nat.mul_le_mul_right _ h1
  have h3 : (g + 1) * V = (g + 1) * top * Y + (g + 1) * vl := by rw [hV, Nat.mul_add, Nat.mul_assoc]
  have h4 : (two + 1) * Y = two * Y + Y := by rw [Nat.add_mul]; omega
  omega
theorem knuth_round {U V U3 V2 X g ul vl : Nat} (hV : V = V2 * X + vl) (hU : U = U3 * X + ul) (hul : ul < X) (hg : U3 < g * V2) : U < g * V := by
  have h2 : (U3 + 1) * X ≤ g * V2 * X := Nat.mul_le_mul_right _ hg
  have h3 : g * V = g * V2 * X + g * vl := by rw [hV, Nat.mul_add, Nat.mul_assoc]
  have h4 : (U3 + 1) * X = U3 * X + X := by rw [Nat.add_mul]; omega
  omega
/-- the number that bytes denote, the most significant one first -/
def mval (l : List UInt8) : Nat := val 256 (l.reverse.map UInt8.toNat)
/-- the canonical bytes of a number -/
def mag (n : Nat) : List UInt8 := ((dig 256 n).map UInt8.ofNat).reverse
theorem bytes_Dl (l : List UInt8) : Dl 256 (l.map UInt8.toNat) := fun d hd => by
  obtain ⟨u, _, rfl⟩ := List.mem_map.1 hd
  exact UInt8.toNat_lt u
theorem map_toNat_ofNat {l : List Nat} (h : Dl 256 l) : (l.map UInt8.ofNat).map UInt8.toNat = l := by
  rw [List.map_map]
  conv => rhs; rw [← List.map_id l]
  apply List.map_congr_left
  intro d hd
  have := h d hd
  simp only [Function.comp, id]
  rw [UInt8.toNat_ofNat']
  exact Nat.mod_eq_of_lt this
theorem mval_mag (n : Nat) : mval (mag n) = n := by
  unfold mval mag
  rw [List.reverse_reverse, map_toNat_ofNat (dig_Dl (by omega) n), val_dig (by omega)]
theorem mval_nil : mval [] = 0 := rfl
theorem mag_zero : mag 0 = [] := by unfold mag; rw [dig_zero]; rfl
theorem mval_snoc (l : List UInt8) (c : UInt8) : mval (l ++ [c]) = 256 * mval l + c.toNat := by
  unfold mval; rw [List.reverse_append]; simp [val]; omega
theorem mval_append (l m : List UInt8) : mval (l ++ m) = 256 ^ m.length * mval l + mval m := by
  unfold mval; rw [List.reverse_append, List.map_append, val_append]; simp; omega
theorem mval_lt (l : List UInt8) : mval l < 256 ^ l.length := by
  have := val_lt (bytes_Dl l.reverse)
  simpa [mval] using this
theorem mval_zero_cons (l : List UInt8) : mval (0 :: l) = mval l := by
  have := mval_append [0] l
  simp only [List.singleton_append] at this
  rw [this]; simp [mval, val]
/-- bytes that do not begin with 0 are canonical -/
theorem mag_unique {l : List UInt8} (h : l.head? ≠ some 0) : mag (mval l) = l := by
  unfold mag mval
  rw [dig_unique (by omega) (bytes_Dl _)]
  · rw [List.map_map]
    have : l.reverse.map (UInt8.ofNat ∘ UInt8.toNat) = l.reverse := by
      conv => rhs; rw [← List.map_id l.reverse]
      exact List.map_congr_left fun u _ => by simp
    rw [this, List.reverse_reverse]
  · cases l with
    | nil => left; rfl
    | cons c l =>
      right
      simp at h
      rw [List.reverse_cons, List.map_append, List.getD_eq_getElem?_getD, List.getElem?_append_right (by simp)]
      simp
      intro hc
      apply h
      exact UInt8.toNat_inj.1 hc
theorem mag_head (n : Nat) : (mag n).head? ≠ some 0 := by
  rcases Nat.eq_zero_or_pos n with rfl | hn
  · rw [mag_zero]; simp
  · have h := dig_last (B := 256) (by omega) n hn
    unfold mag
    rw [List.head?_reverse, List.getLast?_map, List.getLast?_eq_getElem?]
    rw [List.getD_eq_getElem?_getD] at h
    have hl : 0 < (dig 256 n).length := by rw [dig_pos (by omega) hn]; simp
    have hd := dig_Dl (B := 256) (by omega) n
    generalize dig 256 n = l at h hl hd
    rw [List.getElem?_eq_getElem (by omega)] at h ⊢
    have := hd.get (l.length - 1) (by omega)
    simp at h ⊢
    intro hc
    apply h
    have := congrArg UInt8.toNat hc
    rw [UInt8.toNat_ofNat'] at this
    simp at this
    omega
theorem mag_inj {m n : Nat} (h : mag m = mag n) : m = n := by rw [← mval_mag m, h, mval_mag]
theorem mag_eq_nil {n : Nat} : mag n = [] ↔ n = 0 := ⟨fun h => by have := mval_mag n; rw [h] at this; exact this.symm, fun h => by rw [h, mag_zero]⟩
/-- without the zeros in front -/
def lstrip (l : List UInt8) : List UInt8 := l.dropWhile (· == 0)
theorem mval_lstrip (l : List UInt8) : mval (lstrip l) = mval l := by
  induction l with
  | nil => rfl
  | cons c l ih =>
    unfold lstrip at ih ⊢
    rw [List.dropWhile_cons]
    split
    · rename_i h
      have : c = 0 := by simpa using h
      rw [ih, this, mval_zero_cons]
    · rfl
theorem lstrip_eq (l : List UInt8) : lstrip l = mag (mval l) := by
  rw [← mval_lstrip, mag_unique]
  unfold lstrip
  intro h
  have := List.head?_dropWhile_not (p := (· == (0 : UInt8))) l
  rw [h] at this
  simp at this
theorem mag_length_le {n k : Nat} (h : n < 256 ^ k) : (mag n).length ≤ k := by
  unfold mag; rw [List.length_reverse, List.length_map]; exact dig_length_le (by omega) h

/-! ### integers -/
/-- the integer that a sign and bytes denote -/
def ival (neg : Bool) (l : List UInt8) : Int := if neg then -(mval l : Int) else mval l
theorem ival_natAbs (neg : Bool) (l : List UInt8) : (ival neg l).natAbs = mval l := by
  unfold ival; split <;> simp

/-- small: fewer than k binary digits -/
def Sm (k : Nat) (z : Int) : Prop := z.natAbs < 2 ^ k
theorem Sm.mono {j k : Nat} {z : Int} (h : Sm j z) (hjk : j ≤ k) : Sm k z := Nat.lt_of_lt_of_le h (Nat.pow_le_pow_right (by omega) hjk)
theorem Sm.neg {k : Nat} {z : Int} (h : Sm k z) : Sm k (-z) := by unfold Sm at *; rwa [Int.natAbs_neg]
theorem Sm.mul {j k : Nat} {y z : Int} (h : Sm j y) (h' : Sm k z) : Sm (j + k) (y * z) := by
  unfold Sm at *
  rw [Int.natAbs_mul, Nat.pow_add]
  exact Nat.mul_lt_mul'' h h'
theorem Sm.add {k : Nat} {y z : Int} (h : Sm k y) (h' : Sm k z) : Sm (k + 1) (y + z) := by
  unfold Sm at *
  rw [Nat.pow_succ]
  omega
theorem Sm.sub {k : Nat} {y z : Int} (h : Sm k y) (h' : Sm k z) : Sm (k + 1) (y - z) := by
  unfold Sm at *
  rw [Nat.pow_succ]
  omega
theorem Sm.of_le {k : Nat} {y z : Int} (h : Sm k y) (h' : z.natAbs ≤ y.natAbs) : Sm k z := Nat.lt_of_le_of_lt h' h
theorem Sm.int {n : Int} (h1 : -9223372036854775808 ≤ n) (h2 : n ≤ 9223372036854775807) : Sm 64 n := by
  unfold Sm; have : (2:Nat)^64 = 18446744073709551616 := by decide
  omega
theorem Sm.ofBytes {neg : Bool} {l : List UInt8} {k : Nat} (h : l.length ≤ k) : Sm (8 * k) (ival neg l) := by
  unfold Sm
  rw [ival_natAbs, Nat.pow_mul]
  exact Nat.lt_of_lt_of_le (mval_lt l) (Nat.pow_le_pow_right (by omega) h)
theorem digit_at {B : Nat} (hB : 0 < B) {l : List Nat} (h : Dl B l) (j : Nat) : l[j]?.getD 0 = val B l / B ^ j % B := by
  induction l generalizing j with
  | nil => simp [val]
  | cons d l ih =>
    cases j with
    | zero => simp [val_cons, Nat.mod_eq_of_lt h.head]
    | succ j =>
      have := ih h.tail j
      simp only [List.getElem?_cons_succ, this, val_cons]
      rw [Nat.pow_succ, Nat.mul_comm (B ^ j) B, ← Nat.div_div_eq_div_mul, Nat.add_mul_div_left _ _ hB, Nat.div_eq_of_lt h.head, Nat.zero_add]

/-- a digit of a multiple of a power -/
theorem digit_mul {l : List Nat} (h : Dl 4294967296 l) {k Y : Nat} (hv : val 4294967296 l = 256 ^ (k + 1) * Y) :
    ∃ t, l[k / 4]?.getD 0 = 2 ^ (8 * (k % 4) + 8) * t := by
  rw [digit_at (by omega) h, hv]
  have hk : 256 ^ (k + 1) = 4294967296 ^ (k / 4) * 2 ^ (8 * (k % 4) + 8) := by
    have e1 : (256 : Nat) = 2 ^ 8 := by decide
    have e2 : (4294967296 : Nat) = 2 ^ 32 := by decide
    rw [e1, e2, ← Nat.pow_mul, ← Nat.pow_mul, ← Nat.pow_add]
    congr 1
    omega
  have hB : 4294967296 = 2 ^ (8 * (k % 4) + 8) * 2 ^ (24 - 8 * (k % 4)) := by
    rw [← Nat.pow_add]
    have : 8 * (k % 4) + 8 + (24 - 8 * (k % 4)) = 32 := by omega
    rw [this]
  rw [hk, Nat.mul_assoc, Nat.mul_div_cancel_left _ (Nat.pow_pos (by omega))]
  refine ⟨Y % 2 ^ (24 - 8 * (k % 4)), ?_⟩
  conv => lhs; rw [hB]
  exact Nat.mul_mod_mul_left _ _ _

theorem or_add {x t s b : Nat} (hx : x = 2 ^ (s + 8) * t) (hb : b < 256) : x ||| (b * 2 ^ s) = x + b * 2 ^ s := by
  have h : b * 2 ^ s < 2 ^ (s + 8) := by
    rw [Nat.add_comm, Nat.pow_add]; exact Nat.mul_lt_mul_of_pos_right hb (Nat.pow_pos (by omega))
  have e : x = t <<< (s + 8) := by rw [Nat.shiftLeft_eq, hx, Nat.mul_comm]
  rw [e, Nat.shiftLeft_add_eq_or_of_lt h]

/-- one byte more, laid into the words: 'n' bytes in all, 'i' are in -/
theorem abs_step {l : List Nat} {m : List UInt8} {i : Nat} (hl : Dl 4294967296 l) (hi : i < m.length) (hlen : (m.length - 1 - i) / 4 < l.length)
    (h : val 4294967296 l = 256 ^ (m.length - i) * mval (m.take i)) :
    let k := m.length - 1 - i
    let v := (l[k / 4]?.getD 0) ||| (m[i].toNat * 2 ^ (8 * (k % 4)))
    v < 4294967296 ∧ val 4294967296 (l.set (k / 4) v) = 256 ^ (m.length - (i + 1)) * mval (m.take (i + 1)) := by
  intro k v
  have hk : m.length - i = k + 1 := by omega
  have hk' : m.length - (i + 1) = k := by omega
  rw [hk] at h
  obtain ⟨t, ht⟩ := digit_mul hl h
  have hb : m[i].toNat < 256 := UInt8.toNat_lt _
  have hv : v = l[k / 4]?.getD 0 + m[i].toNat * 2 ^ (8 * (k % 4)) := or_add ht hb
  have hlt : v < 4294967296 := by
    rw [hv]
    have h1 := hl.getD (by omega) (k / 4)
    rw [List.getD_eq_getElem?_getD] at h1
    rw [ht] at h1 ⊢
    have hB : 4294967296 = 2 ^ (8 * (k % 4) + 8) * 2 ^ (24 - 8 * (k % 4)) := by
      rw [← Nat.pow_add]
      have : 8 * (k % 4) + 8 + (24 - 8 * (k % 4)) = 32 := by omega
      rw [this]
    have h2 : t < 2 ^ (24 - 8 * (k % 4)) := by
      rcases Nat.lt_or_ge t (2 ^ (24 - 8 * (k % 4))) with h2 | h2
      · exact h2
      · have := Nat.mul_le_mul_left (2 ^ (8 * (k % 4) + 8)) h2
        omega
    have h3 : 2 ^ (8 * (k % 4) + 8) * (t + 1) ≤ 4294967296 := by
      conv => rhs; rw [hB]
      exact Nat.mul_le_mul_left _ h2
    have h4 : m[i].toNat * 2 ^ (8 * (k % 4)) < 2 ^ (8 * (k % 4) + 8) := by
      rw [Nat.add_comm, Nat.pow_add]; exact Nat.mul_lt_mul_of_pos_right hb (Nat.pow_pos (by omega))
    rw [Nat.mul_add] at h3
    omega
  refine ⟨hlt, ?_⟩
  have h1 := val_set 4294967296 l (k / 4) v hlen
  have h2 : l[k / 4]?.getD 0 = l[k / 4] := by rw [List.getElem?_eq_getElem hlen]; rfl
  rw [hk', List.take_succ_eq_append_getElem hi, mval_snoc]
  rw [h2] at hv
  have e3 : 4294967296 ^ (k / 4) * v = 4294967296 ^ (k / 4) * l[k / 4] + 4294967296 ^ (k / 4) * (m[i].toNat * 2 ^ (8 * (k % 4))) := by rw [hv, Nat.mul_add]
  have e4 : 4294967296 ^ (k / 4) * (m[i].toNat * 2 ^ (8 * (k % 4))) = 256 ^ k * m[i].toNat := by
    have e1 : (256 : Nat) = 2 ^ 8 := by decide
    have e2 : (4294967296 : Nat) = 2 ^ 32 := by decide
    rw [e1, e2, ← Nat.pow_mul, ← Nat.pow_mul, Nat.mul_comm m[i].toNat, ← Nat.mul_assoc, ← Nat.pow_add]
    have : 32 * (k / 4) + 8 * (k % 4) = 8 * k := by omega
    rw [this]
  have e5 : 256 ^ (k + 1) * mval (m.take i) = 256 ^ k * (256 * mval (m.take i)) := by rw [Nat.pow_succ, Nat.mul_assoc]
  rw [Nat.mul_add]
  omega
theorem abs_step' {l : List Nat} {m : List UInt8} {i n : Nat} {b : UInt8} (hl : Dl 4294967296 l) (hn : m.length = n) (hi : m[i]? = some b) (hlen : (n - 1 - i) / 4 < l.length)
    (h : val 4294967296 l = 256 ^ (n - i) * mval (m.take i)) :
    (l[(n - 1 - i) / 4]?.getD 0) ||| (b.toNat * 2 ^ (8 * ((n - 1 - i) % 4))) < 4294967296 ∧
      val 4294967296 (l.set ((n - 1 - i) / 4) ((l[(n - 1 - i) / 4]?.getD 0) ||| (b.toNat * 2 ^ (8 * ((n - 1 - i) % 4))))) = 256 ^ (n - (i + 1)) * mval (m.take (i + 1)) := by
  subst hn
  obtain ⟨hi', rfl⟩ := List.getElem?_eq_some_iff.1 hi
  exact abs_step hl hi' hlen h
/-- the four bytes of a word -/
def b4 (x : Nat) : List UInt8 := [UInt8.ofNat (x / 16777216), UInt8.ofNat (x / 65536), UInt8.ofNat (x / 256), UInt8.ofNat x]
theorem b4_length (x : Nat) : (b4 x).length = 4 := rfl
theorem b4_val {x : Nat} (hx : x < 4294967296) : mval (b4 x) = x := by
  simp [mval, b4, val]
  omega
theorem mval_words (l : List Nat) (h : Dl 4294967296 l) : mval (l.reverse.flatMap b4) = val 4294967296 l := by
  induction l with
  | nil => rfl
  | cons d l ih =>
    rw [List.reverse_cons, List.flatMap_append, mval_append, ih h.tail]
    simp only [List.flatMap_cons, List.flatMap_nil, List.append_nil, b4_length, b4_val h.head, val_cons]
    omega
theorem mval_drop (m : List UInt8) (k : Nat) (hk : k < m.length) : mval (m.drop k) = 256 ^ (m.length - k - 1) * m[k].toNat + mval (m.drop (k + 1)) := by
  rw [List.drop_eq_getElem_cons hk]
  have h := mval_append [m[k]] (m.drop (k + 1))
  simp only [List.singleton_append, List.length_drop] at h
  rw [h, show m.length - (k + 1) = m.length - k - 1 from by omega]
  simp [mval, val]
theorem val_snoc (B : Nat) (l : List Nat) (d : Nat) : val B (l ++ [d]) = val B l + B ^ l.length * d := by rw [val_append]; simp [val]
theorem pow_256_65536 (j : Nat) : 256 ^ (2 * j) = 65536 ^ j := by rw [Nat.pow_mul]
/-- two bytes more, the less significant ones first -/
theorem digits_two {m : List UInt8} {l : List Nat} {n j : Nat} {x y : UInt8} (hn : m.length = n) (hl : l.length = j) (hj : 2 * j + 2 ≤ n) (hx : m[n - 2 * j - 1]? = some x) (hy : m[n - 2 * j - 2]? = some y)
    (h : val 65536 l = mval (m.drop (n - 2 * j))) : val 65536 (l ++ [x.toNat + 256 * y.toNat]) = mval (m.drop (n - 2 * (j + 1))) := by
  subst hn
  obtain ⟨h1, rfl⟩ := List.getElem?_eq_some_iff.1 hx
  obtain ⟨h2, rfl⟩ := List.getElem?_eq_some_iff.1 hy
  rw [val_snoc, h, hl]
  have e1 := mval_drop m (m.length - 2 * j - 1) (by omega)
  have e2 := mval_drop m (m.length - 2 * j - 2) (by omega)
  rw [show m.length - 2 * j - 1 + 1 = m.length - 2 * j from by omega, show m.length - (m.length - 2 * j - 1) - 1 = 2 * j from by omega, pow_256_65536] at e1
  rw [show m.length - 2 * j - 2 + 1 = m.length - 2 * j - 1 from by omega, show m.length - (m.length - 2 * j - 2) - 1 = 2 * j + 1 from by omega, Nat.pow_succ, pow_256_65536] at e2
  rw [show m.length - 2 * (j + 1) = m.length - 2 * j - 2 from by omega, e2, e1, Nat.mul_add]
  have : 65536 ^ j * (256 * m[m.length - 2 * j - 2].toNat) = 65536 ^ j * 256 * m[m.length - 2 * j - 2].toNat := by rw [Nat.mul_assoc]
  omega
theorem digits_one {m : List UInt8} {l : List Nat} {n j : Nat} {x : UInt8} (hn : m.length = n) (hl : l.length = j) (hj : 2 * j + 1 = n) (hx : m[0]? = some x)
    (h : val 65536 l = mval (m.drop (n - 2 * j))) : val 65536 (l ++ [x.toNat]) = mval (m.drop (n - 2 * (j + 1))) := by
  subst hn
  obtain ⟨h1, rfl⟩ := List.getElem?_eq_some_iff.1 hx
  rw [val_snoc, h, hl]
  have e1 := mval_drop m 0 (by omega)
  rw [show m.length - 0 - 1 = 2 * j from by omega, pow_256_65536] at e1
  rw [show m.length - 2 * (j + 1) = 0 from by omega, show m.length - 2 * j = 0 + 1 from by omega, e1]
  omega
end Go.Proofs.YthmdmbpecgakkaaDoor

namespace Go.Proofs.YthmdmbpecgakkaaDoor
open Go.RowKit

def WB : Nat := 4294967296
theorem WB_eq : WB = 4294967296 := rfl
theorem WB_two : 2 ≤ WB := by rw [WB_eq]; omega
theorem WB_pos : 0 < WB := by rw [WB_eq]; omega

def Wd (q : IntKind) (w : World) (B : Nat) (A : Option Addr) (l : List Nat) : Prop :=
 0 < l.length → ∃ ad, A = some ad ∧ ad.block < B ∧ ∀ i, i < l.length → w.cell? (ad.add i) = some (.int q ((l[i]?.getD 0 : Nat) : Int))

def Ow (q : IntKind) (w : World) (g : Nat) (t : TypeId) (l : List Nat) : Prop :=
 w.heap[g]? = some (.cells (l.map fun d : Nat => Value.int q (d : Int)).toArray t (0, 0))

theorem addr_block (a : Addr) (n : Nat) : (a.add n).block = a.block := by unfold Addr.add; split <;> rfl
theorem addr_add (a : Addr) (i j : Nat) : (a.add i).add j = a.add (i + j) := by
 unfold Addr.add
 by_cases hi : i = 0 <;> by_cases hj : j = 0 <;> simp [hi, hj, Nat.add_assoc]

section
variable {q : IntKind} {w w' : World} {B B' g : Nat} {A : Option Addr} {l : List Nat} {t : TypeId}
theorem Wd.nil (q : IntKind) (w : World) (B : Nat) (A : Option Addr) : Wd q w B A [] := fun h => by simp at h
theorem Wd.get {k : Nat} (h : Wd q w B A l) (hk : k < l.length) : ∃ ad, A = some ad ∧ w.cell? (ad.add k) = some (.int q ((l[k]?.getD 0 : Nat) : Int)) := by
 obtain ⟨ad, e, _, hc⟩ := h (by omega)
 exact ⟨ad, e, hc k hk⟩
theorem Wd.keep (h : Wd q w B A l) (hB : B ≤ B') (hk : ∀ p : Addr, p.block < B → w'.cell? p = w.cell? p) : Wd q w' B' A l := fun hn => by
 obtain ⟨ad, e, hb, hc⟩ := h hn
 exact ⟨ad, e, by omega, fun i hi => (hk _ (by rw [addr_block]; exact hb)).trans (hc i hi)⟩
theorem Wd.more (h : Wd q w B A l) (hB : B ≤ B') : Wd q w B' A l := h.keep hB fun _ _=>rfl
theorem Wd.below (h : Wd q w B A l) (hb : Below B w w') : Wd q w' B A l := h.keep (Nat.le_refl _) fun _ hp => hb.cell hp
theorem Wd.take (h : Wd q w B A l) (k : Nat) : Wd q w B A (l.take k) := fun hn => by
 rw [List.length_take] at hn
 obtain ⟨ad, e, hb, hc⟩ := h (by omega)
 refine ⟨ad, e, hb, fun i hi => ?_⟩
 rw [List.length_take] at hi
 rw [hc i (by omega), List.getElem?_take, if_pos (by omega)]

theorem Ow.lt (h : Ow q w g t l) : g < w.heap.size := by
 rcases Nat.lt_or_ge g w.heap.size with hlt | hge
 ·exact hlt
 ·unfold Ow at h; rw [Array.getElem?_eq_none hge] at h; cases h
theorem Ow.cell (h : Ow q w g t l) (i : Nat) (hi : i < l.length) : w.cell? ⟨g, i, none⟩ = some (.int q ((l[i]?.getD 0 : Nat) : Int)) := by
 rw [cell_of_row w g i _ t (0, 0) h]
 simp [List.getElem?_eq_getElem hi]
theorem Ow.free (h : Ow q w g t l) (i : Nat) : w.frozen? ⟨g, i, none⟩ = false := frozen_of_row w g i _ t h
theorem Ow.drew (h : Ow q w g t l) : Ow q w.drew g t l := h
theorem Ow.alloc (h : Ow q w g t l) (o : Obj) : Ow q (w.alloc o) g t l := (Below.heap_alloc w o g h.lt).trans h
theorem Ow.set (h : Ow q w g t l) (i v : Nat) : Ow q (w.setCell ⟨g, i, none⟩ (.int q (v : Int))) g t (l.set i v) := by
 unfold Ow at h ⊢
 rw [heap_setCell_same w g i _ t _ h]
 simp [List.map_set]
theorem Ow.far (h : Ow q w g t l) {p : Addr} (hp : g ≠ p.block) (u : Value) : Ow q (w.setCell p u) g t l := (Below.heap_setCell w p u g hp).trans h
theorem Ow.below (h : Ow q w g t l) (hb : Below B w w') (hg : g < B) : Ow q w' g t l := (hb.block g hg).trans h
theorem Ow.wd (h : Ow q w g t l) (hB : g < B) : Wd q w B (some ⟨g, 0, none⟩) l := fun _ => by
 refine ⟨_, rfl, hB, fun i hi => ?_⟩
 have : (Addr.add ⟨g, 0, none⟩ i) = ⟨g, i, none⟩ := by unfold Addr.add; split <;> simp_all
 rw [this, h.cell i hi]
theorem Ow.new (w : World) (q : IntKind) (t : TypeId) (n : Nat) : Ow q (w.alloc (.cells (madeCells #[.int q 0] n) t)) w.heap.size t (List.replicate n 0) := by
 unfold Ow
 rw [heap_alloc_new]
 have : madeCells #[.int q 0] n = (List.map (fun d : Nat => Value.int q (d : Int)) (List.replicate n 0)).toArray := by
  apply Array.ext'
  rw [toList_madeCells_one]
  simp
 rw [this]
end

theorem run_make_dig {P : Program} {q : IntKind} (t e : TypeId) (ht : P.underlying t = some (.slice e)) (hi : (P.info? e).map (fun i => (i.zero, i.size, i.bytes)) = some (some (.int q 0), 1, 8))
  (z : Int) (n : Nat) (hz : z = n) (hn : n ≤ 1099511627776) (w : World) :
  (Instr.makeSlice t (.int .i64 z) (.int .i64 z)).run P w = .ok (.slice (some ⟨w.heap.size, 0, none⟩) n n) (w.alloc (.cells (madeCells #[.int q 0] n) e)) := by
 obtain ⟨i0, hi0, h1, h2, h3⟩ := info_parts hi
 subst hz
 have hr := run_make (P := P) w t e i0 (.int q 0) ht hi0 h1 .i64 .i64 n n (by omega) (Int.le_refl _) (by rw [h3]; omega) (by omega)
 simp only [Int.toNat_natCast] at hr
 rw [hr, h2, Nat.mul_one]
 rfl

theorem and_mask (z : Int) (n : Nat) (hz : z = n) (hn : n < 18446744073709551616) : bits .and .u64 z 4294967295 = ((n % WB : Nat) : Int) := by
 subst hz
 rw [show (4294967295 : Int) = ((4294967295 : Nat) : Int) from rfl, u64_and_nat n _ hn (by omega), nat_mask32, WB_eq]
theorem div_word (z : Int) (n : Nat) (hz : z = n) : z / 4294967296 = ((n / WB : Nat) : Int) := by subst hz; rw [WB_eq]; omega

theorem run_make_cap {P : Program} {q : IntKind} (t e : TypeId) (ht : P.underlying t = some (.slice e)) (by_ : Nat) (hb : by_ ≤ 8) (hi : (P.info? e).map (fun i => (i.zero, i.size, i.bytes)) = some (some (.int q 0), 1, by_))
  (z : Int) (n : Nat) (hz : z = n) (hn : n ≤ 1099511627776) (w : World) :
  (Instr.makeSlice t (.int .i64 0) (.int .i64 z)).run P w = .ok (.slice (some ⟨w.heap.size, 0, none⟩) 0 n) (w.alloc (.cells (madeCells #[.int q 0] n) e)) := by
 obtain ⟨i0, hi0, h1, h2, h3⟩ := info_parts hi
 subst hz
 have hm : (by_ : Int) * n ≤ 8 * n := Int.mul_le_mul_of_nonneg_right (by omega) (by omega)
 have hr := run_make (P := P) w t e i0 (.int q 0) ht hi0 h1 .i64 .i64 0 n (by omega) (by omega) (by rw [h3]; omega) (by omega)
 simp only [Int.toNat_natCast] at hr
 rw [hr, h2, Nat.mul_one]
 rfl

theorem cell_lit_new (w : World) (cs : Array Value) (t : TypeId) : ∀ (j : Nat) u, cs.toList[j]? = some u → (w.alloc (.cells cs t)).cell? ((⟨w.heap.size, 0, none⟩ : Addr).add j) = some u := by
 intro j u hj
 have : (Addr.add ⟨w.heap.size, 0, none⟩ j) = ⟨w.heap.size, j, none⟩ := by unfold Addr.add; split <;> simp_all
 rw [this, World.cell?_alloc_at _ _ _ _ rfl]
 simpa using hj

theorem bel {W w1 : World} (hb : Below W.heap.size W w1) : (∀ b o, b < W.heap.size → w1.cell? ⟨b, o, none⟩ = W.cell? ⟨b, o, none⟩) ∧ (∀ b o, b < W.heap.size → w1.frozen? ⟨b, o, none⟩ = W.frozen? ⟨b, o, none⟩) :=
 ⟨fun b o h => hb.cell (p := ⟨b, o, none⟩) h, fun b o h => hb.frozen (p := ⟨b, o, none⟩) h⟩
theorem ret_eq {a b : Value} (h : a = b) : Ending.returned a = .returned b := by rw [h]
end Go.Proofs.YthmdmbpecgakkaaDoor

namespace Go.Proofs.YthmdmbpecgakkaaDoor
open Go.RowKit

theorem keepCell {W w1 : World} {p : Addr} {v : Value} (hb : Below W.heap.size W w1) (h : W.cell? p = some v) : w1.cell? p = some v :=
 (hb.cell (World.block_lt_of_cell? W p h)).trans h
theorem keepFree {W w1 : World} {p : Addr} {v : Value} (hb : Below W.heap.size W w1) (h : W.cell? p = some v) (hf : W.frozen? p = false) : w1.frozen? p = false :=
 (hb.frozen (World.block_lt_of_cell? W p h)).trans hf
theorem keepWd {q : IntKind} {W w1 : World} {A : Option Addr} {l : List Nat} (hb : Below W.heap.size W w1) (h : Wd q W W.heap.size A l) : Wd q w1 w1.heap.size A l := (h.below hb).more hb.size
theorem keepBel {N : Nat} {w W w1 : World} (hb : Below W.heap.size W w1) (h : Below N w W) (hN : N ≤ W.heap.size) : Below N w w1 := h.trans (hb.mono hN)

theorem keepSet {W : World} {p q : Addr} {u v : Value} (h : W.cell? p = some v) (hne : q.block ≠ p.block) : (W.setCell q u).cell? p = some v := by
 rw [World.cell?_setCell_far _ _ _ _ hne]; exact h

theorem keepBlk {W w1 : World} {g : Nat} {o : Obj} (hb : Below W.heap.size W w1) (h : W.heap[g]? = some o) : w1.heap[g]? = some o :=
 (hb.block g (Array.getElem?_eq_some_iff.1 h).1).trans h
theorem two_new (w : World) (o0 o1 : Obj) (W : World) (hW : W = (w.alloc o0).alloc o1) :
  W.heap[w.heap.size]? = some o0 ∧ W.heap[w.heap.size + 1]? = some o1 ∧ Below w.heap.size w W ∧ W.heap.size = w.heap.size + 2 := by
 have h0 := heap_alloc_new w o0
 have h1 := heap_alloc_new (w.alloc o0) o1
 simp only [World.size_alloc] at h1
 subst hW
 refine ⟨?_, h1, ((Below.refl _ w).alloc (Nat.le_refl _) _).alloc (by simp) _, by simp⟩
 rw [Below.heap_alloc _ _ _ (by simp)]; exact h0
end Go.Proofs.YthmdmbpecgakkaaDoor

namespace Go.Proofs.YthmdmbpecgakkaaDoor
open Go.RowKit Go.Shelf
attribute [local go_sem] Oper.semAt_some

def upto {α : Type} (f : Nat → α) (k : Nat) : List α := (List.range k).map f
theorem upto_succ {α : Type} (f : Nat → α) (k : Nat) : upto f (k + 1) = upto f k ++ [f k] := by simp [upto, List.range_succ]
theorem upto_length {α : Type} (f : Nat → α) (k : Nat) : (upto f k).length = k := by simp [upto]

def backAt (l : List Nat) (j : Nat) : Nat × Nat := (l.length - 1 - j, l[l.length - 1 - j]?.getD 0)

def KpB (n₀ Bs : Nat) (W W' : World) : Prop := Below n₀ W W' ∧ W'.heap[Bs]? = W.heap[Bs]?
theorem KpB.refl (n₀ Bs : Nat) (W : World) : KpB n₀ Bs W W := ⟨Below.refl _ _, rfl⟩
theorem KpB.trans {n₀ Bs : Nat} {A B C : World} (h : KpB n₀ Bs A B) (k : KpB n₀ Bs B C) : KpB n₀ Bs A C := ⟨h.1.trans k.1, k.2.trans h.2⟩
theorem KpB.box {n₀ Bs : Nat} {W W' : World} (h : KpB n₀ Bs W W') (i : Nat) : W'.cell? ⟨Bs, i, none⟩ = W.cell? ⟨Bs, i, none⟩ := World.cell?_of_block (w := W) h.2
theorem kpB_put {n₀ Bs : Nat} {w : World} (hn : n₀ ≤ w.heap.size) (hb : Bs < w.heap.size) (W : World) (l : Nat) (o o' : Obj) (hl : w.heap.size ≤ l) (h : W.heap[l]? = some o) (hc : o.isCells = false) (hw : o.isWalk = false) : KpB n₀ Bs W (W.putObj l o') :=
 ⟨belowK_b hn W l o o' hl h hc hw, World.putObj_heap_other (by omega)⟩

set_option maxRecDepth 100000 in
set_option maxHeartbeats 2000000 in
theorem back1_in (F : Fence) (n : Nat) (h8 : F.fn 71) (hro : F.round = none) (hn : 1 ≤ n) (l Bs n₀ len cap : Nat) (A : Option Addr) (zs : List Nat) (hlen : zs.length = len) (hreach : len ≤ 1000000000)
  (J Jx : List (Nat × Nat) → World → Prop)
  (hY : ∀ pre x W, J pre W → pre.length < len → YieldAt F (n - 1) Tryd.prog l #[.int .i64 (x.1 : Int), .int .u64 (x.2 : Int)] W fun e W' =>
   (e = .returned (.bool true) ∧ J (pre ++ [x]) W' ∧ KpB n₀ Bs W W') ∨ (e = .returned (.bool false) ∧ Jx (pre ++ [x]) W'))
  (W : World) (hBs : W.cell? ⟨Bs, 0, none⟩ = some (.slice A len cap)) (hc : Wd .u64 W n₀ A zs) (h0 : J [] W) :
  CallsIn F n Tryd.prog 71 #[.func (.yield l) #[] #[], .pointer (some ⟨Bs, 0, none⟩)] W fun e W' => (∃ v, e = .returned v) ∧
   ((∃ ys, ys = upto (backAt zs) len ∧ J ys W') ∨ (∃ pre, (∃ k, k ≤ len ∧ pre = upto (backAt zs) k) ∧ Jx pre W')) := by
 have HC := Lib.hid hc
 have HLEN := Lib.hid hlen
 clear hc hlen
 refine callsIn_of_wp Tryd.func71 rfl h8 ?_ hro
 simp only [Tryd.ntmps71, List.size_toArray, List.length_cons, List.length_nil, Nat.reduceAdd, Nat.reduceSub, Array.replicate_succ, Array.replicate_zero, List.push_toArray, List.append_toArray, List.nil_append, List.cons_append]
 gi_wp2
 gi_loopw [3] (fun i wr => ∃ k : Nat, k ≤ len ∧ i = .int .i64 ((len : Int) - 1 - k) ∧ J (upto (backAt zs) k) wr ∧ KpB n₀ Bs W wr)
  (fun i _ => (intOf i + 1).toNat)
 case atStart => exact ⟨0, Nat.zero_le _, by go_num, h0, KpB.refl _ _ _⟩
 case round =>
  obtain ⟨k, hk, rfl, hJs, hnx⟩ := hrel
  have hbs := (hnx.box 0).trans hBs
  by_cases hlt : k < len
  ·have HE : Hid (backAt zs k = (len - 1 - k, zs[len - 1 - k]?.getD 0)) := by unfold backAt; rw [HLEN.out]; rfl
   have hidx : ((len : Int) - 1 - (k : Int)) = ((len - 1 - k : Nat) : Int) := by omega
   obtain ⟨ad, rfl, hcx⟩ := (HC.out.below hnx.1).get (k := len - 1 - k) (by have := HLEN.out; omega)
   obtain ⟨fn, tmps, assign, body, hy, hR⟩ := hY _ (len - 1 - k, zs[len - 1 - k]?.getD 0) wr hJs (by rw [upto_length]; exact hlt)
   dsimp only at hy
   rw [← hidx] at hy
   clear hidx
   gi_wp2
   refine hR.mono ?_
   rintro e W3 (⟨rfl, hJ3, hk3⟩ | ⟨rfl, hJx3⟩)
   ·gi_wp2
    go_roundw
    case rel => exact ⟨k + 1, by omega, by go_num, by rw [upto_succ, HE.out]; exact hJ3, hnx.trans hk3⟩
    case measure => simp [intOf]; omega
   ·gi_wp2
    refine bodyPost_ret (results_none rfl _ _ _) rfl ?_
    exact ⟨⟨_, rfl⟩, .inr ⟨_, ⟨k + 1, by omega, by rw [upto_succ, HE.out]⟩, hJx3⟩⟩
  ·obtain rfl : k = len := by omega
   gi_wp2
   go_end0
   exact ⟨⟨_, rfl⟩, .inl ⟨_, rfl, hJs⟩⟩

set_option maxHeartbeats 1000000 in
theorem back_in (F : Fence) (n : Nat) (h6 : F.fn 66) (hro : F.round = none) (a : Option Addr) (len cap : Nat) (w : World) :
  CallsIn F n Tryd.prog 66 #[.slice a len cap] w fun e w' => e = .returned (.func (.func 71) #[] #[.pointer (some ⟨w.heap.size, 0, none⟩)]) ∧ w' = w.alloc (.cells #[.slice a len cap] 92) := by
 refine callsIn_of_wp Tryd.func66 rfl h6 ?_ hro
 simp only [Tryd.ntmps66, List.size_toArray, List.length_cons, List.length_nil, Nat.reduceAdd, Nat.reduceSub, Array.replicate_succ, Array.replicate_zero, List.push_toArray, List.append_toArray, List.nil_append, List.cons_append]
 gi_wp2
 go_ret
 exact ⟨rfl, rfl⟩

theorem back_stops (F : Fence) (n : Nat) (h8 : F.fn 71) (hro : F.round = none) (hn : 1 ≤ n) (Bs n₀ len cap : Nat) (A : Option Addr) (zs : List Nat) (hlen : zs.length = len) (hreach : len ≤ 1000000000)
  (w : World) (hBs : Bs < w.heap.size) (hn₀ : n₀ ≤ w.heap.size) (hc : w.cell? ⟨Bs, 0, none⟩ = some (.slice A len cap)) (hI : Wd .u64 w n₀ A zs) :
  SeqStopsK F n Tryd.prog 71 #[.pointer (some ⟨Bs, 0, none⟩)] (fun x : Nat × Nat => #[Value.int .i64 (x.1 : Int), Value.int .u64 (x.2 : Int)]) (KpB n₀ Bs) (fun ys => ys = upto (backAt zs) len)
   (fun pre => ∃ k, k ≤ len ∧ pre = upto (backAt zs) k) len w := fun l J Jx W hW _ _ hY h0 => by
 have hb := hW.mono hn₀
 exact back1_in F n h8 hro hn l Bs n₀ len cap A zs hlen hreach J Jx hY W ((hW.cell (p := ⟨Bs, 0, none⟩) hBs).trans hc) (hI.below hb) h0
theorem back_list (zs : List Nat) (k : Nat) (hk : zs.length = k) : (upto (backAt zs) k).map (·.2) = zs.reverse := by
 subst hk
 apply List.ext_getElem
 ·simp [upto]
 ·intro i h1 h2
  simp [upto] at h1
  simp [upto, backAt, List.getElem_reverse]
  rw [List.getElem?_eq_getElem (by omega)]; rfl
theorem back_words {β : Type} (g : UInt8 → β) (zs : List Nat) (k : Nat) (hk : zs.length = k) : (upto (backAt zs) k).flatMap (fun x => (b4 x.2).map g) = (zs.reverse.flatMap b4).map g := by
 rw [← back_list zs k hk, List.map_flatMap, List.flatMap_map]
end Go.Proofs.YthmdmbpecgakkaaDoor

namespace Go.Proofs.YthmdmbpecgakkaaDoor
open Go.RowKit

theorem lstrip_cons_zero {l : List UInt8} {c : UInt8} (h : c = 0) : lstrip (c :: l) = lstrip l := by subst h; rfl
theorem lstrip_cons_ne {l : List UInt8} {c : UInt8} (h : c ≠ 0) : lstrip (c :: l) = c :: l := by
 unfold lstrip; rw [List.dropWhile_cons, if_neg (by simpa using h)]

theorem bytes_head (t : ByteArray) (h : 0 < t.size) : t.data.toList = t[0] :: (t.extract 1 t.size).data.toList := by
 rw [Lib.extract_to_end]
 have hl : 0 < t.data.toList.length := by rw [Array.length_toList]; exact h
 conv => lhs; rw [← List.drop_zero (l := t.data.toList), List.drop_eq_getElem_cons hl]
 rfl

set_option maxRecDepth 100000 in
set_option maxHeartbeats 1000000 in
theorem trimByte_any (s : ByteArray) (w : World) (hs : s.size ≤ 1000000000000) :
  Calls Tryd.prog 72 #[.string s, .int .u8 0] w fun e w' => e = .returned (.string ⟨(lstrip s.data.toList).toArray⟩) ∧ w = w' := by
 go_enter Tryd.func72, Tryd.ntmps72
 go_wp2
 go_loop [0] (fun v => ∃ t : ByteArray, v = .string t ∧ t.size ≤ s.size ∧ Hid (lstrip t.data.toList = lstrip s.data.toList)) (fun v => match v with | .string t => t.size | _ => 0)
 case atStart => exact ⟨s, rfl, Nat.le_refl _, rfl⟩
 case round =>
  obtain ⟨t, rfl, hts, HT⟩ := hrel
  by_cases h0 : 0 < t.size
  ·have hd := bytes_head t h0
   have HD := Lib.hid hd
   clear hd
   by_cases hc : ((t[0].toNat : Nat) : Int) = 0
   ·go_wp2
    go_round
    case rel =>
     refine ⟨_, rfl, by rw [ByteArray.size_extract]; omega, ?_⟩
     have h := HT.out
     rw [HD.out, lstrip_cons_zero (UInt8.toNat_inj.1 (by simpa using hc))] at h
     exact h
    case measure => show (t.extract 1 t.size).size < t.size; rw [ByteArray.size_extract]; omega
   ·go_wp2
    go_ret
    refine ⟨ret_eq ?_, rfl⟩
    rw [← HT.out, HD.out, lstrip_cons_ne (fun h => hc (by rw [h]; rfl)), ← HD.out]
    rfl
  ·go_wp2
   go_ret
   refine ⟨ret_eq ?_, rfl⟩
   have ht : t.data.toList = [] := List.eq_nil_of_length_eq_zero (by rw [Array.length_toList]; show t.size = 0; omega)
   rw [← HT.out, ht]
   show Value.string t = _
   congr 1
   apply ByteArray.ext
   apply Array.ext'
   rw [ht]; rfl

set_option maxRecDepth 100000 in
set_option maxHeartbeats 1000000 in
theorem trimLeft_any (s : ByteArray) (w : World) (hs : s.size ≤ 1000000000000) :
  Calls Tryd.prog 67 #[.string s, .string ⟨#[0]⟩] w fun e w' => e = .returned (.string ⟨(lstrip s.data.toList).toArray⟩) ∧ w = w' := by
 by_cases h0 : s.data.toList = []
 ·have h1 : s.toList.isEmpty = true := by rw [ByteArray.toList_eq, h0]; rfl
  go_enter Tryd.func67, Tryd.ntmps67
  go_wp2
  go_ret
  refine ⟨ret_eq ?_, rfl⟩
  show Value.string s = _
  congr 1
  apply ByteArray.ext
  apply Array.ext'
  rw [h0]; rfl
 ·have h1 : s.toList.isEmpty = false := by rw [ByteArray.toList_eq]; simpa using h0
  go_enter Tryd.func67, Tryd.ntmps67
  go_wp2_with (go_at_call 72; refine (trimByte_any s _ hs).mono ?_; rintro e w' ⟨rfl, rfl⟩)
  go_ret
  exact ⟨rfl, rfl⟩
end Go.Proofs.YthmdmbpecgakkaaDoor

namespace Go.Proofs.YthmdmbpecgakkaaDoor
open Go.RowKit
set_option maxHeartbeats 400000 in
theorem norm_any (l : List Nat) (A : Option Addr) (n c B : Nat) (w : World) (hn : l.length = n) (hnc : n ≤ c) (hc : c ≤ 9223372036854775807) (h : Wd .u64 w B A l) :
  Calls Tryd.prog 65 #[.slice A n c] w fun e w' => e = .returned (.slice A (tlen l) c) ∧ w = w' := by
 have H := Lib.hid h
 clear h
 go_enter Tryd.func65, Tryd.ntmps65
 go_wp2
 go_loop [0] (fun a => ∃ k : Nat, k ≤ n ∧ a = .slice A k c ∧ ∀ j, k ≤ j → l[j]?.getD 0 = 0) (fun a => match a with | .slice _ k _ => k | _ => 0)
 case atStart => exact ⟨n, Nat.le_refl _, rfl, fun j hj => by rw [List.getElem?_eq_none (by omega)]; rfl⟩
 case round =>
  obtain ⟨k, hk, rfl, hz⟩ := hrel
  have HZ := Lib.hid hz
  clear hz
  by_cases hk0 : k = 0
  ·subst hk0
   go_wp2
   go_ret
   exact ⟨by rw [tlen_eq (k := 0) (by omega) (fun j hj => by rw [List.getD_eq_getElem?_getD]; exact HZ.out j hj) (Or.inl rfl)]; rfl, rfl⟩
  ·obtain ⟨ad, rfl, hcell⟩ := H.out.get (k := k - 1) (by omega)
   by_cases hx : l[k - 1]?.getD 0 = 0
   ·go_wp2
    go_round
    case rel => exact ⟨k - 1, by omega, rfl, fun j hj => by
     by_cases e : j = k - 1
     ·rw [e]; exact hx
     ·exact HZ.out j (by omega)⟩
    case measure => show k - 1 < k; omega
   ·go_wp2
    go_ret
    exact ⟨by rw [tlen_eq (k := k) (by omega) (fun j hj => by rw [List.getD_eq_getElem?_getD]; exact HZ.out j hj) (Or.inr (by rw [List.getD_eq_getElem?_getD]; exact hx))]; rfl, rfl⟩
end Go.Proofs.YthmdmbpecgakkaaDoor

namespace Go.Proofs.YthmdmbpecgakkaaDoor
open Go.RowKit Go.Shelf
attribute [local go_sem] Oper.semAt_some

def wv (neg : Bool) (n : Nat) : Value := .agg #[.bool neg, .string ⟨(mag n).toArray⟩]

theorem b4_vals (x : Nat) : (b4 x).map (fun b => Value.int .u8 (b.toNat : Int)) = [.int .u8 (IntKind.u8.wrap ((x : Int) / 16777216)), .int .u8 (IntKind.u8.wrap ((x : Int) / 65536)), .int .u8 (IntKind.u8.wrap ((x : Int) / 256)), .int .u8 (IntKind.u8.wrap (x : Int))] := by
 simp only [b4, List.map_cons, List.map_nil, IntKind.wrap_u8, UInt8.toNat_ofNat']
 simp

theorem run_string_own {P : Program} (w : World) (src dst e : TypeId) (base n : Nat) (v : Value) (l : List UInt8) (hs : P.underlying src = some (.slice e)) (he : P.underlying e = some (.int .u8)) (hd : P.underlying dst = some .string)
  (h : w.ownsRow base e 1 v n (l.map fun b => Value.int .u8 (b.toNat : Int))) : (convert src dst v).run P w = .ok (.string ⟨l.toArray⟩) w := by
 have hlen := h.1
 rw [List.length_map] at hlen
 rcases h.2 with ⟨rfl, h0⟩ | ⟨g, cap, cur, rfl, _, hg, hnc, hcm, hcs, htake⟩
 ·have : l = [] := List.eq_nil_of_length_eq_zero (by omega)
  subst this
  rw [run_convert_bytes_string w src dst e none 0 0 hs he hd]
  simp [Conv.bytesToString]
  rfl
 ·have hn : n = l.length := by omega
  subst hn
  exact run_convert_bytes_back w src dst e ⟨g, 0, none⟩ cap l hs he hd (fun j hj => by
   have e1 : (Addr.add ⟨g, 0, none⟩ j) = ⟨g, j, none⟩ := by unfold Addr.add; split <;> simp_all
   rw [e1, h.cellAt j (by omega)]
   simp [hj])

theorem info_u8 : (Tryd.prog.info? 5).map (fun i => (i.zero, i.size, i.bytes)) = some (some (.int .u8 0), 1, 1) := by kernel_rfl

theorem res_box {W : World} {g D : Nat} {t : TypeId} {a b : Value} {o : Obj} (x y : Value) (h : W.heap[g]? = some (.cells #[a, b] t (0, 0))) (hD : D ≠ g) :
  (((W.setCell ⟨g, 0, none⟩ x).setCell ⟨g, 1, none⟩ y).putObj D o).heap[g]? = some (.cells #[x, y] t (0, 0)) := by
 rw [World.putObj_heap_other (by omega)]
 have h1 := heap_setCell_same W g 0 _ t x h
 have h2 := heap_setCell_same _ g 1 _ t y h1
 simpa using h2
theorem mag_isEmpty (n : Nat) : (!(mag n).isEmpty) = decide (n ≠ 0) := by
 rcases Nat.eq_zero_or_pos n with h | h
 ·subst h; rw [mag_zero]; rfl
 ·have : mag n ≠ [] := fun e => by rw [mag_eq_nil] at e; omega
  have h2 : (mag n).isEmpty = false := by simpa using this
  rw [h2]
  simp; omega

set_option maxRecDepth 100000 in
set_option maxHeartbeats 2000000 in
theorem wide_in (n : Nat) (hn : 5 ≤ n) (la : List Nat) (A : Option Addr) (na ca : Nat) (neg : Bool) (w : World) (da : Dl WB la) (ha : Wd .u64 w w.heap.size A la) (hna : la.length = na) (hsa : na ≤ 1000000000) (hca : na ≤ ca) (hca2 : ca ≤ 9223372036854775807) :
  CallsIn Fence.wide n Tryd.prog 43 #[.slice A na ca, .bool neg] w fun e w' => e = .returned (wv (neg && decide (val WB la ≠ 0)) (val WB la)) ∧ Below w.heap.size w w' := by
 have h1 : 1 ≤ n := by omega
 obtain ⟨i0, hi, hz0, hz1, hz2⟩ := info_parts info_u8
 have HA := Lib.hid ha
 have HNA := Lib.hid hna
 have htk := take_tlen WB_two da
 have htl := tlen_le la
 have HTK := Lib.hid htk
 have hlk : tlen la ≤ na := by omega
 clear ha hna htk htl
 refine callsIn_of_wp_marks Tryd.func43 rfl trivial ?_ rfl
 simp only [Tryd.ntmps43, List.size_toArray, List.length_cons, List.length_nil, Nat.reduceAdd, Nat.reduceSub, Array.replicate_succ, Array.replicate_zero, List.push_toArray, List.append_toArray, List.nil_append, List.cons_append]
 have hmk := run_make_cap (P := Tryd.prog) 115 5 Tryd.underlying115 1 (by omega) info_u8 (4 * (tlen la : Int)) (4 * tlen la) (by omega) (by omega)
 gi_wp2_with (first
  | (refine ⟨trivial, ?_⟩; gi_at_call 65; refine (callsIn_wide.2 (norm_any la A na ca w.heap.size _ HNA.out hca (by omega) (HA.out.keep (Nat.le_refl _) (fun p hp => World.cell?_alloc_lt _ _ _ (by omega))))).mono ?_; rintro e w' ⟨rfl, rfl⟩)
  | (refine ⟨trivial, ?_⟩; gi_at_call 66; refine (back_in Fence.wide _ trivial rfl A (tlen la) ca _).mono ?_; rintro e w' ⟨rfl, rfl⟩))

 clear hmk
 obtain ⟨zs, hzs⟩ : ∃ zs, zs = la.take (tlen la) := ⟨_, rfl⟩
 have hzl : zs.length = tlen la := by rw [hzs, List.length_take]; have := HNA.out; omega
 have hzd : zs = dig WB (val WB la) := by rw [hzs]; exact HTK.out
 have hwd0 : Wd .u64 w w.heap.size A zs := by rw [hzs]; exact HA.out.take _
 have hdz : Dl WB zs := by rw [hzs]; exact da.take _
 have HZL := Lib.hid hzl
 have HZD := Lib.hid hzd
 have HWD0 := Lib.hid hwd0
 have HDZ := Lib.hid hdz
 clear hzs hzl hzd hwd0 hdz HTK HA HNA
 obtain ⟨k, hk⟩ : ∃ k, tlen la = k := ⟨_, rfl⟩
 rw [hk] at HZL hlk ⊢
 clear hk
 obtain ⟨w1, hw1⟩ : ∃ w1, w1 = w.alloc (Obj.cells #[.bool false, .string ⟨#[]⟩] 48) := ⟨_, rfl⟩
 rw [← hw1]
 obtain ⟨w4, hw4⟩ : ∃ w4, w4 = ((w1.alloc (Obj.cells (madeCells #[Value.int .u8 0] (4 * k)) 5)).alloc (Obj.cells #[Value.slice (some ⟨w.heap.size + 1, 0, none⟩) 0 (4 * k)] 115)).alloc (Obj.cells #[Value.slice A k ca] 92) := ⟨_, rfl⟩
 have hs1 : w1.heap.size = w.heap.size + 1 := by rw [hw1]; simp
 have hs4 : w4.heap.size = w.heap.size + 4 := by rw [hw4]; simp [hs1]
 have hb4 : Below w1.heap.size w1 w4 := by rw [hw4]; exact (((Below.refl _ _).alloc (Nat.le_refl _) _).alloc (by simp) _).alloc (by simp; omega) _
 have hb14 : Below w.heap.size w w4 := ((Below.refl _ w).alloc (Nat.le_refl _) (Obj.cells #[.bool false, .string ⟨#[]⟩] 48)).trans (by rw [← hw1]; exact hb4.mono (by omega))
 have bB : Boxed w4 (w.heap.size + 2) 115 (.slice (some ⟨w.heap.size + 1, 0, none⟩) 0 (4 * k)) := by
  have h := (Boxed.new (w1.alloc (Obj.cells (madeCells #[Value.int .u8 0] (4 * k)) 5)) 115 (.slice (some ⟨w.heap.size + 1, 0, none⟩) 0 (4 * k))).alloc (Obj.cells #[Value.slice A k ca] 92)
  rw [← hw4] at h
  simpa [hs1] using h
 have bS : Boxed w4 (w.heap.size + 3) 92 (.slice A k ca) := by
  have h := Boxed.new ((w1.alloc (Obj.cells (madeCells #[Value.int .u8 0] (4 * k)) 5)).alloc (Obj.cells #[Value.slice (some ⟨w.heap.size + 1, 0, none⟩) 0 (4 * k)] 115)) 92 (.slice A k ca)
  rw [← hw4] at h
  simpa [hs1] using h
 have hrow0 : w4.ownsRow (w.heap.size + 1) 5 1 (.slice (some ⟨w.heap.size + 1, 0, none⟩) 0 (4 * k)) 0 [] := by
  have h0 : w1.heap.size = w.heap.size + 1 := hs1
  have hm : (w1.alloc (Obj.cells (madeCells #[Value.int .u8 0] (4 * k)) 5)).heap[w.heap.size + 1]? = some (.cells (madeCells #[Value.int .u8 0] (4 * k)) 5 (0, 0)) := by
   rw [← hs1]; exact heap_alloc_new w1 _
  have hm4 : w4.heap[w.heap.size + 1]? = some (.cells (madeCells #[Value.int .u8 0] (4 * k)) 5 (0, 0)) := by
   rw [hw4, Below.heap_alloc _ _ _ (by simp; omega), Below.heap_alloc _ _ _ (by simp; omega)]; exact hm
  exact ⟨rfl, .inr ⟨w.heap.size + 1, 4 * k, _, rfl, Nat.le_refl _, hm4, Nat.zero_le _, by unfold maxLen; omega, by simp [madeCells], rfl⟩⟩
 have hres : w4.heap[w.heap.size]? = some (.cells #[.bool false, .string ⟨#[]⟩] 48 (0, 0)) := by
  rw [hb4.block w.heap.size (by omega), hw1]; exact heap_alloc_new w _
 have hwd4 : Wd .u64 w4 w.heap.size A zs := HWD0.out.below hb14
 rw [← hw4]
 have HW1 := Lib.hid hw1; have HW4 := Lib.hid hw4; have HS1 := Lib.hid hs1; have HS4 := Lib.hid hs4
 clear hw1 hw4 hs1
 have HB4 := Lib.hid hb4; have HB14 := Lib.hid hb14; have BB := Lib.hid bB; have BS := Lib.hid bS; have HR0 := Lib.hid hrow0; have HRES := Lib.hid hres; have HWD4 := Lib.hid hwd4
 clear hb4 hb14 bB bS hrow0 hres hwd4
 refine wpIn_rangeFunc_ownG rfl h1 (gf := 71) (lb := #[.pointer (some ⟨w.heap.size + 3, 0, none⟩)]) rfl trivial (enters_of Tryd.func71 (by kernel_rfl) rfl)
  (back_stops Fence.wide (n - 1) trivial rfl (by omega) (w.heap.size + 3) w.heap.size k ca A zs HZL.out (by omega) w4 (by omega) (by omega) BS.out.cell HWD4.out) KpB.trans (kpB_put (by omega) (by omega)) (Below.refl _ _) (fun _=>rfl)
  (fun pre W => (∃ v, Boxed W (w.heap.size + 2) 115 v ∧ W.ownsRow (w.heap.size + 1) 5 1 v (4 * pre.length) (pre.flatMap fun x => (b4 x.2).map fun b => Value.int .u8 (b.toNat : Int)) ∧ True) ∧ Boxed W (w.heap.size + 3) 92 (.slice A k ca) ∧ Below (w.heap.size + 1) w4 W)
  (fun _ _ _ => False)
  (OwnFrom.and (Own.from (holdsRow_own (w.heap.size + 1) (w.heap.size + 2) 115 5 1 (fun pre : List (Nat × Nat) => 4 * pre.length) (fun pre => pre.flatMap fun x => (b4 x.2).map fun b => Value.int .u8 (b.toNat : Int)) (fun _ _ => True)) _) (OwnFrom.and (Own.from (boxed_own _ _ _) _) (ownFrom_below (by omega) (by omega))))
  (fun _ _ _ _ _ hs _ _ => hs)
  ⟨⟨_, BB.out, HR0.out, trivial⟩, BS.out, Below.refl _ _⟩
  (fun x => { tmps := #[.slice A k ca, .bool neg, undef, undef, .pointer (some ⟨w.heap.size, 0, none⟩), .pointer (some ⟨w.heap.size + 1 + 1, 0, none⟩), undef, .int .u64 x.2, undef, .slice A na ca, .slice A k ca, .slice A k ca, .int .i64 k, .int .i64 (4 * (k : Int)), .slice (some ⟨w.heap.size + 1, 0, none⟩) 0 (4 * k), .slice A k ca, .func (.func 71) #[] #[.pointer (some ⟨w.heap.size + 1 + 1 + 1, 0, none⟩)], .int .i64 x.1, .int .u64 x.2, undef, undef, undef, undef, undef, undef, undef, undef, undef, undef, undef, undef, undef, undef, undef, undef, undef, undef, undef, undef, undef, undef, undef, undef], defers := [] }) ?assign ?body ?done ?stop
 case assign =>
  intro l x W K hK
  gi_wp2
  exact hK
 case body =>
  rintro l pre x W ⟨⟨v, hv, hrow, _⟩, hbs, hB⟩ hlt
  have hc := hv.cell
  gi_wp2_with (gi_at_builtin; refine wpListIn_append_own _ rfl _ _ 115 rfl (w.heap.size + 1) 5 i0 (.int .u8 0) 1 1 Tryd.underlying115 hi hz0 hz1 hz2 rfl (by decide) _ _ _ rfl (hrow.alloc _) ⟨W.heap.size, 0, none⟩ 4 4 [.int .u8 (IntKind.u8.wrap ((x.2 : Int) / 16777216)), .int .u8 (IntKind.u8.wrap ((x.2 : Int) / 65536)), .int .u8 (IntKind.u8.wrap ((x.2 : Int) / 256)), .int .u8 (IntKind.u8.wrap (x.2 : Int))] rfl rfl (cell_lit_new _ #[_, _, _, _] _) (by simp [Value.oneCell']) (by unfold maxLen; omega) (by omega) (by have := hB.size; simp; omega) ?_; intro v' w1 hown' hgrow _; obtain ⟨g', cap', rfl⟩ := ownsRow_succ hown'; obtain ⟨hv1, hv2, hr2, hk2, hb2⟩ := hv.appended (by decide) hrow (by have := hB.size; omega) (by omega) hown' hgrow; have hc1 := hv1.cell; have hf1 := hv1.frozen)
  have hbs2 : Boxed (w1.setCell ⟨w.heap.size + 2, 0, none⟩ (.slice (some ⟨g', 0, none⟩) (4 * pre.length + 4) cap')) (w.heap.size + 3) 92 (.slice A k ca) := ((hbs.alloc _).kept hgrow (hbs.not_row (by decide) hrow)).other (by omega) _
  refine ⟨hk2.from _, ⟨hb2.mono (by omega), hbs2.trans (Eq.symm hbs)⟩, ⟨_, hv2, ?_, trivial⟩, hbs2, hB.trans hb2⟩
  have e1 : 4 * (pre ++ [x]).length = 4 * pre.length + 4 := by rw [List.length_append]; simp; omega
  rw [e1, List.flatMap_append, List.flatMap_cons, List.flatMap_nil, List.append_nil, b4_vals]
  exact hr2
 case done =>
  rintro D ys W hD rfl ⟨⟨v, hv, hrow, _⟩, hbs, hB⟩ hK
  have hc := hv.cell
  have hys : (upto (backAt zs) k).flatMap (fun x => (b4 x.2).map fun b => Value.int .u8 (b.toNat : Int)) = (zs.reverse.flatMap b4).map fun b => Value.int .u8 (b.toNat : Int) := by
   exact back_words _ zs k HZL.out
  rw [hys] at hrow
  have hconv := run_string_own (P := Tryd.prog) W 115 9 5 (w.heap.size + 1) _ v (zs.reverse.flatMap b4) Tryd.underlying115 Tryd.underlying5 Tryd.underlying9 hrow
  have hval : mag (mval (zs.reverse.flatMap b4)) = mag (val WB la) := by
   have hd := HDZ.out
   rw [WB_eq] at hd
   rw [mval_words zs hd, HZD.out, WB_eq, val_dig (by omega)]
  have htrim : ∀ W : World, Calls Tryd.prog 67 #[.string ⟨(zs.reverse.flatMap b4).toArray⟩, .string ⟨#[0]⟩] W fun e w' => e = .returned (.string ⟨(mag (val WB la)).toArray⟩) ∧ W = w' := fun W => by
   have h := trimLeft_any ⟨(zs.reverse.flatMap b4).toArray⟩ W (by
    show (zs.reverse.flatMap b4).toArray.size ≤ _
    have hl : ∀ l : List Nat, (l.flatMap b4).length = 4 * l.length := fun l => by
     induction l with
     | nil => rfl
     | cons d l ih => rw [List.flatMap_cons, List.length_append, ih, b4_length, List.length_cons]; omega
    rw [List.size_toArray, hl, List.length_reverse, HZL.out]; omega)
   rw [lstrip_eq, hval] at h
   exact h
  have HTRIM := Lib.hid htrim
  clear hys hval htrim
  have hcr0 : W.cell? ⟨w.heap.size, 0, none⟩ = some (.bool false) := by rw [hB.cell (p := ⟨w.heap.size, 0, none⟩) (by simp), cell_of_row _ _ _ _ _ _ HRES.out]; rfl
  have hcr1 : W.cell? ⟨w.heap.size, 1, none⟩ = some (.string ⟨#[]⟩) := by rw [hB.cell (p := ⟨w.heap.size, 1, none⟩) (by simp), cell_of_row _ _ _ _ _ _ HRES.out]; rfl
  have hfr0 : W.frozen? ⟨w.heap.size, 0, none⟩ = false := by rw [hB.frozen (p := ⟨w.heap.size, 0, none⟩) (by simp)]; exact frozen_of_row _ _ _ _ _ HRES.out
  have hfr1 : W.frozen? ⟨w.heap.size, 1, none⟩ = false := by rw [hB.frozen (p := ⟨w.heap.size, 1, none⟩) (by simp)]; exact frozen_of_row _ _ _ _ _ HRES.out
  have HRB := Lib.hid ((hB.block w.heap.size (by omega)).trans HRES.out)
  have HDW : Hid (D ≠ w.heap.size) := by show D ≠ w.heap.size; omega
  have HEND : Hid (∀ x y : Value, Below w.heap.size w (((W.setCell ⟨w.heap.size, 0, none⟩ x).setCell ⟨w.heap.size, 1, none⟩ y).putObj D (.deferred none))) := fun x y => by
   have h1 := HB14.out.trans (hB.mono (by omega))
   have h2 := (h1.setCell (p := ⟨w.heap.size, 0, none⟩) (Nat.le_refl _) x).setCell (p := ⟨w.heap.size, 1, none⟩) (Nat.le_refl _) y
   have hK1 := ((KeepsOthers.setCell W ⟨w.heap.size, 0, none⟩ x).trans (KeepsOthers.setCell _ ⟨w.heap.size, 1, none⟩ y)).same D _ hK rfl
   exact h2.trans (belowK_b (w := w4) (by omega) _ D _ _ (by omega) hK1 rfl rfl)
  clear hB hrow
  cases neg
  ·gi_wp2_with (refine ⟨trivial, ?_⟩; gi_at_call 67; refine (callsIn_wide.2 (HTRIM.out _)).mono ?_; rintro e w' ⟨rfl, rfl⟩)
   have hK1 := ((KeepsOthers.setCell W ⟨w.heap.size, 0, none⟩ (.bool false)).trans (KeepsOthers.setCell _ ⟨w.heap.size, 1, none⟩ (.string ⟨(mag (val WB la)).toArray⟩))).same D _ hK rfl
   refine ⟨by simp, .inl ⟨_, _, rfl, run_takeDeferred hK1, ?_⟩⟩
   exact ⟨wv false (val WB la), results_cell_row rfl _ _ w.heap.size 48 _ (0, 0) _ rfl (res_box _ _ HRB.out HDW.out) Tryd.underlying48 rfl (by kernel_rfl), rfl, HEND.out _ _⟩
  ·gi_wp2_with (refine ⟨trivial, ?_⟩; gi_at_call 67; refine (callsIn_wide.2 (HTRIM.out _)).mono ?_; rintro e w' ⟨rfl, rfl⟩)
   have hK1 := ((KeepsOthers.setCell W ⟨w.heap.size, 0, none⟩ (.bool !(mag (val WB la)).isEmpty)).trans (KeepsOthers.setCell _ ⟨w.heap.size, 1, none⟩ (.string ⟨(mag (val WB la)).toArray⟩))).same D _ hK rfl
   refine ⟨by simp, .inl ⟨_, _, rfl, run_takeDeferred hK1, ?_⟩⟩
   exact ⟨wv (!(mag (val WB la)).isEmpty) (val WB la), results_cell_row rfl _ _ w.heap.size 48 _ (0, 0) _ rfl (res_box _ _ HRB.out HDW.out) Tryd.underlying48 rfl (by kernel_rfl), by rw [mag_isEmpty, Bool.true_and], HEND.out _ _⟩
 case stop =>
  rintro D c pre W _ _ h _
  exact h.elim

theorem wide_any (m : Nat) (A : Option Addr) (na ca : Nat) (neg : Bool) (w : World) (ha : Wd .u64 w w.heap.size A (dig WB m)) (hna : (dig WB m).length = na) (hsa : na ≤ 1000000000) (hca : na ≤ ca) (hca2 : ca ≤ 9223372036854775807) :
  Calls Tryd.prog 43 #[.slice A na ca, .bool neg] w fun e w' => e = .returned (wv (neg && decide (m ≠ 0)) m) ∧ Below w.heap.size w w' := by
 have h := callsIn_wide.1 (wide_in 5 (Nat.le_refl _) (dig WB m) A na ca neg w (dig_Dl WB_two m) ha hna hsa hca hca2)
 rwa [val_dig WB_two] at h

theorem wide_lst (la : List Nat) (A : Option Addr) (na ca : Nat) (neg : Bool) (w : World) (da : Dl WB la) (ha : Wd .u64 w w.heap.size A la) (hna : la.length = na) (hsa : na ≤ 1000000000) (hca : na ≤ ca) (hca2 : ca ≤ 9223372036854775807) :
  Calls Tryd.prog 43 #[.slice A na ca, .bool neg] w fun e w' => e = .returned (wv (neg && decide (val WB la ≠ 0)) (val WB la)) ∧ Below w.heap.size w w' :=
 callsIn_wide.1 (wide_in 5 (Nat.le_refl _) la A na ca neg w da ha hna hsa hca hca2)
end Go.Proofs.YthmdmbpecgakkaaDoor

namespace Go.Proofs.YthmdmbpecgakkaaDoor
open Go.RowKit
theorem info_u64 : (Tryd.prog.info? 96).map (fun i => (i.zero, i.size, i.bytes)) = some (some (.int .u64 0), 1, 8) := by kernel_rfl

def GivesNat (n : Nat) (w : World) (e : Ending) (w' : World) : Prop :=
 ∃ A k c, e = .returned (.slice A k c) ∧ (dig WB n).length = k ∧ k ≤ c ∧ c ≤ 1099511627776 ∧ Wd .u64 w' w'.heap.size A (dig WB n) ∧ Below w.heap.size w w'

theorem gives_norm {w w' : World} {l : List Nat} {A : Option Addr} {c : Nat} (hb : Below w.heap.size w w') (hwd : Wd .u64 w' w'.heap.size A l) (hd : Dl WB l) (hn : l.length ≤ c) (hc : c ≤ 1099511627776) :
  GivesNat (val WB l) w (.returned (.slice A (tlen l) c)) w' := by
 have ht := take_tlen WB_two hd
 have hl := tlen_le l
 refine ⟨A, tlen l, c, rfl, ?_, by omega, hc, ?_, hb⟩
 ·rw [← ht, List.length_take]; omega
 ·rw [← ht]; exact hwd.take _

set_option maxRecDepth 100000 in
set_option maxHeartbeats 1000000 in
theorem add_any (la lb : List Nat) (Aa Ab : Option Addr) (na nb ca cb : Nat) (w : World) (da : Dl WB la) (db : Dl WB lb)
  (ha : Wd .u64 w w.heap.size Aa la) (hb : Wd .u64 w w.heap.size Ab lb) (hna : la.length = na) (hnb : lb.length = nb) (hsa : na ≤ 1000000000) (hsb : nb ≤ 1000000000) :
  Calls Tryd.prog 49 #[.slice Aa na ca, .slice Ab nb cb] w (GivesNat (val WB la + val WB lb) w) := by
 have HA := Lib.hid ha
 have HB := Lib.hid hb
 have HNA := Lib.hid hna
 have HNB := Lib.hid hnb
 clear ha hb hna hnb
 go_enter Tryd.func49, Tryd.ntmps49
 go_upto_if 13 with fail
 go_cut [0,1] (fun a b wc => ∃ lx ly Ax Ay nx ny cx cy, a = .slice Ax nx cx ∧ b = .slice Ay ny cy ∧ wc = w ∧ Wd .u64 w w.heap.size Ax lx ∧ Wd .u64 w w.heap.size Ay ly ∧ Hid (lx.length = nx) ∧ Hid (ly.length = ny) ∧ Dl WB lx ∧ Dl WB ly ∧ nx ≤ 1000000000 ∧ ny ≤ nx ∧ Hid (val WB lx + val WB ly = val WB la + val WB lb))
 case first =>
  go_wp2
  ·go_meet
   case rel => exact ⟨lb, la, Ab, Aa, nb, na, cb, ca, rfl,rfl,rfl, HB.out, HA.out, HNB.out, HNA.out, db, da, hsb, by omega, Nat.add_comm _ _⟩
  ·go_meet
   case rel => exact ⟨la, lb, Aa, Ab, na, nb, ca, cb, rfl,rfl,rfl, HA.out, HB.out, HNA.out, HNB.out, da, db, hsa, by omega, rfl⟩
 case rest =>
  obtain ⟨lx, ly, Ax, Ay, nx, ny, cx, cy, rfl,rfl,rfl, hx, hy, Hnx, Hny, dx, dy, hnx, hyx, Hval⟩ := hcut
  have HX := Lib.hid hx
  have HY := Lib.hid hy
  clear hx hy
  have hmk := run_make_dig (P := Tryd.prog) 92 96 Tryd.underlying92 info_u64 ((nx : Int) + 1) (nx + 1) (by omega) (by omega)
  go_wp2
  clear hmk
  go_loopw [6,22] (fun cr i wr => ∃ (k c : Nat) (lo : List Nat), k ≤ nx ∧ c ≤ 1 ∧ i = .int .i64 k ∧ cr = .int .u64 c ∧ Ow .u64 wr wc.heap.size 96 lo ∧ Hid (lo.length = nx + 1) ∧ Dl WB lo ∧
    Hid (val WB (lo.take k) + WB ^ k * c = val WB (lx.take k) + val WB (ly.take k)) ∧ Below wc.heap.size wc wr) (fun _ i _ => nx - (intOf i).toNat)
  case atStart => exact ⟨0, 0, List.replicate (nx + 1) 0, Nat.zero_le _, by omega, rfl,rfl,Ow.new _ _ _ _, List.length_replicate, Dl.replicate WB_pos _, by simp [Hid, val], (Below.refl _ _).alloc (Nat.le_refl _) _⟩
  case round =>
   obtain ⟨k, c, lo, hk, hc, rfl,rfl,how, Hlen, dlo, Hv, hbel⟩ := hrel
   have HOW := Lib.hid how
   have HBEL := Lib.hid hbel
   clear how hbel
   by_cases hlt : k < nx
   ·obtain ⟨ax, rfl, hcx⟩ := (HX.out.below HBEL.out).get (k := k) (by have := Hnx.out; omega)
    have hbx := dx.getD WB_pos k
    rw [List.getD_eq_getElem?_getD, WB_eq] at hbx
    have hfo := HOW.out.free k
    have hco := HOW.out.cell k (by have := Hlen.out; omega)
    by_cases hlty : k < ny
    ·obtain ⟨ay, rfl, hcy⟩ := (HY.out.below HBEL.out).get (k := k) (by have := Hny.out; omega)
     have hby := dy.getD WB_pos k
     rw [List.getD_eq_getElem?_getD, WB_eq] at hby
     go_wp2
     go_roundw
     case rel =>
      have e1 := and_mask ((lx[k]?.getD 0 : Nat) + (c : Nat) + (ly[k]?.getD 0 : Nat) : Int) (lx[k]?.getD 0 + c + ly[k]?.getD 0) (by omega) (by omega)
      have e2 := div_word ((lx[k]?.getD 0 : Nat) + (c : Nat) + (ly[k]?.getD 0 : Nat) : Int) (lx[k]?.getD 0 + c + ly[k]?.getD 0) (by omega)
      have hl := Hlen.out
      refine ⟨k + 1, _, lo.set k ((lx[k]?.getD 0 + c + ly[k]?.getD 0) % WB), by omega, ?_, by go_num, by rw [e2], by rw [e1]; exact HOW.out.set _ _, by rw [List.length_set]; exact hl, dlo.set _ (Nat.mod_lt _ WB_pos), add_step (by omega) rfl rfl Hv.out, HBEL.out.setCell (Nat.le_refl _) _⟩
      rw [WB_eq]; omega
     case measure => simp [intOf]; omega
    ·have hy0 : ly[k]?.getD 0 = 0 := by rw [List.getElem?_eq_none (by have := Hny.out; omega)]; rfl
     have HY0 := Lib.hid hy0
     clear hy0
     go_wp2
     go_roundw
     case rel =>
      have e1 := and_mask ((lx[k]?.getD 0 : Nat) + (c : Nat) : Int) (lx[k]?.getD 0 + c + 0) (by omega) (by omega)
      have e2 := div_word ((lx[k]?.getD 0 : Nat) + (c : Nat) : Int) (lx[k]?.getD 0 + c + 0) (by omega)
      have hl := Hlen.out
      refine ⟨k + 1, _, lo.set k ((lx[k]?.getD 0 + c + 0) % WB), by omega, ?_, by go_num, by rw [e2], by rw [e1]; exact HOW.out.set _ _, by rw [List.length_set]; exact hl, dlo.set _ (Nat.mod_lt _ WB_pos), add_step (by omega) rfl HY0.out Hv.out, HBEL.out.setCell (Nat.le_refl _) _⟩
      rw [WB_eq]; omega
     case measure => simp [intOf]; omega
   ·obtain rfl : k = nx := by omega
    have hfo := HOW.out.free k
    have hco := HOW.out.cell k (by have := Hlen.out; omega)
    have hset := HOW.out.set k c
    have hbs := HBEL.out.setCell (p := ⟨wc.heap.size, k, none⟩) (Nat.le_refl _) (.int .u64 c)
    have hls : (lo.set k c).length = k + 1 := by rw [List.length_set]; exact Hlen.out
    have hwd := hset.wd (B := wr.heap.size) HOW.out.lt
    have hval : val WB (lo.set k c) = val WB la + val WB lb := by
     have h1 := val_take_set WB lo k c (by have := Hlen.out; omega)
     rw [List.take_of_length_le (by rw [hls]; exact Nat.le_refl _)] at h1
     have h2 := Hv.out
     rw [List.take_of_length_le (l := lx) (by have := Hnx.out; omega), List.take_of_length_le (l := ly) (by have := Hny.out; omega)] at h2
     have h3 := Hval.out
     omega
    have hdl := dlo.set k (v := c) (by rw [WB_eq]; omega)
    have HS := Lib.hid hset; have HBS := Lib.hid hbs; have HLS := Lib.hid hls; have HWD := Lib.hid hwd; have HVAL := Lib.hid hval
    clear hset hbs hls hwd hval
    go_wp2_with (go_at_call 65; refine (norm_any (lo.set k c) _ _ _ wr.heap.size _ HLS.out (by omega) (by omega) HWD.out).mono ?_; rintro e w' ⟨rfl, rfl⟩)
    go_ret
    rw [← HVAL.out]
    exact gives_norm HBS.out (HWD.out.more (Nat.le_of_eq (by simp))) hdl (by have := HLS.out; omega) (by omega)
end Go.Proofs.YthmdmbpecgakkaaDoor

namespace Go.Proofs.YthmdmbpecgakkaaDoor
open Go.RowKit

theorem shl_form {x n : Nat} (h : x * 2 ^ n < 18446744073709551616) : IntKind.u64.wrap ((x : Int) * 2 ^ n) = ((x * 2 ^ n : Nat) : Int) := by
 have e : (x : Int) * 2 ^ n = ((x * 2 ^ n : Nat) : Int) := by rw [Int.natCast_mul, Int.natCast_pow]; rfl
 rw [e, IntKind.wrap_u64]
 omega
theorem shl_form_and {x n : Nat} (h : x * 2 ^ n < 18446744073709551616) : bits .and .u64 (IntKind.u64.wrap ((x : Int) * 2 ^ n)) 4294967295 = ((x * 2 ^ n % WB : Nat) : Int) := by
 rw [shl_form h]; exact and_mask _ _ rfl h
theorem or_nat {a b : Nat} (ha : a < 4294967296) (hb : b < 4294967296) : bits .or .u64 (a : Int) (b : Int) = ((a ||| b : Nat) : Int) := u64_or_nat a b (by omega) (by omega)

end Go.Proofs.YthmdmbpecgakkaaDoor

namespace Go.Proofs.YthmdmbpecgakkaaDoor
open Go.RowKit

theorem byte_shl_lt {b e : Nat} (hb : b < 256) (he : e ≤ 24) : b * 2 ^ e < 4294967296 := by
 have h1 : b * 2 ^ e ≤ 255 * 2 ^ 24 := Nat.mul_le_mul (by omega) (Nat.pow_le_pow_right (by omega) he)
 omega
theorem byte_shl {b e : Nat} (hb : b < 256) (he : e ≤ 24) : IntKind.u64.wrap (IntKind.u64.wrap (b : Int) * 2 ^ e) = ((b * 2 ^ e : Nat) : Int) := by
 have h := byte_shl_lt hb he
 have e0 : IntKind.u64.wrap (b : Int) = (b : Int) := by rw [IntKind.wrap_u64]; omega
 rw [e0]
 exact shl_form (by omega)

set_option maxRecDepth 100000 in
set_option maxHeartbeats 1000000 in
theorem abs_any (neg : Bool) (s : ByteArray) (w : World) (hs : s.size ≤ 1000000000) :
  Calls Tryd.prog 41 #[.agg #[.bool neg, .string s]] w (GivesNat (mval s.data.toList) w) := by
 have hmk := run_make_dig (P := Tryd.prog) 92 96 Tryd.underlying92 info_u64 (((s.size : Int) + 4 - 1) / 4) ((s.size + 3) / 4) (by omega) (by omega)
 go_enter Tryd.func41, Tryd.ntmps41
 go_wp2
 clear hmk
 go_loopw [16] (fun i wr => ∃ (k : Nat) (lo : List Nat), k ≤ s.size ∧ i = .int .i64 (k : Int) ∧ wr.cell? ⟨w.heap.size, 1, none⟩ = some (.string s) ∧ Ow .u64 wr (w.heap.size + 1) 96 lo ∧ Hid (lo.length = (s.size + 3) / 4) ∧ Dl WB lo ∧
   Hid (val WB lo = 256 ^ (s.size - k) * mval (s.data.toList.take k)) ∧ Below w.heap.size w wr) (fun i _ => s.size - (intOf i).toNat)
 case atStart => exact ⟨0, List.replicate _ 0, Nat.zero_le _, rfl, by simp [go_sem], by have h := Ow.new (w.alloc (.cells #[.bool neg, .string s] 48)) .u64 96 ((s.size + 3) / 4); simpa using h, List.length_replicate, Dl.replicate WB_pos _, by simp [Hid, val, val_replicate, mval], ((Below.refl _ _).alloc (Nat.le_refl _) _).alloc (by simp) _⟩
 case round =>
  obtain ⟨k, lo, hk, rfl, hstr, how, Hlen, dlo, Hv, hbel⟩ := hrel
  have HOW := Lib.hid how
  have HBEL := Lib.hid hbel
  clear how hbel
  by_cases hlt : k < s.size
  ·have hfo := HOW.out.free ((s.size - 1 - k) / 4)
   have hco := HOW.out.cell ((s.size - 1 - k) / 4) (by have := Hlen.out; omega)
   go_wp2
   go_region
   go_wp2
   go_roundw
   case rel =>
    have hl := Hlen.out
    have hb : s[k].toNat < 256 := UInt8.toNat_lt _
    have hg : s.data.toList[k]? = some s[k] := by rw [Array.getElem?_toList, Array.getElem?_eq_getElem (by exact hlt)]; rfl
    have hv := Hv.out
    rw [WB_eq] at hv
    have dlo4 : Dl 4294967296 lo := by rw [← WB_eq]; exact dlo
    obtain ⟨h1, h2⟩ := abs_step' dlo4 (by simp only [Array.length_toList]; rfl) hg (by omega) hv
    have e1 : bits .or .u64 ((lo[(s.size - 1 - k) / 4]?.getD 0 : Nat) : Int) (IntKind.u64.wrap (IntKind.u64.wrap (s[k].toNat : Int) * 2 ^ (8 * ((s.size - 1 - k) % 4)))) = ((lo[(s.size - 1 - k) / 4]?.getD 0 ||| s[k].toNat * 2 ^ (8 * ((s.size - 1 - k) % 4)) : Nat) : Int) := by
     have hd := dlo4.getD (by omega) ((s.size - 1 - k) / 4)
     rw [List.getD_eq_getElem?_getD] at hd
     rw [byte_shl hb (by omega)]
     exact or_nat hd (byte_shl_lt hb (by omega))
    rw [e1]
    exact ⟨k + 1, _, by omega, by go_num, by rw [World.cell?_drew, World.cell?_setCell_other _ _ _ _ (by simp)]; exact hstr, (HOW.out.set _ _).drew, by rw [List.length_set]; exact hl, dlo.set _ (by rw [WB_eq]; exact h1), by rw [Hid, WB_eq]; exact h2, (HBEL.out.setCell (Nat.le_succ _) _).drew⟩
   case measure => simp [intOf]; omega
  ·obtain rfl : k = s.size := by omega
   go_wp2_with (go_at_call 65; refine (norm_any lo _ _ _ wr.heap.size _ Hlen.out (by omega) (by omega) (HOW.out.wd HOW.out.lt)).mono ?_; rintro e w' ⟨rfl, rfl⟩)
   go_ret
   have hv : val WB lo = mval s.data.toList := by
    have h := Hv.out
    rw [Nat.sub_self, Nat.pow_zero, Nat.one_mul, List.take_of_length_le (by simp)] at h
    exact h
   rw [← hv]
   exact gives_norm HBEL.out (HOW.out.wd HOW.out.lt) dlo (by have := Hlen.out; omega) (by omega)
end Go.Proofs.YthmdmbpecgakkaaDoor

namespace Go.Proofs.YthmdmbpecgakkaaDoor
open Go.RowKit

def cmpN (m n : Nat) : Int := if m < n then -1 else if n < m then 1 else 0

theorem cmpN_self (m : Nat) : cmpN m m = 0 := by unfold cmpN; rw [if_neg (by omega), if_neg (by omega)]
theorem cmpN_lt {m n : Nat} (h : m < n) : cmpN m n = -1 := by unfold cmpN; rw [if_pos h]
theorem cmpN_gt {m n : Nat} (h : n < m) : cmpN m n = 1 := by unfold cmpN; rw [if_neg (by omega), if_pos h]

set_option maxRecDepth 100000 in
set_option maxHeartbeats 1000000 in
theorem cmp_any (m n : Nat) (Aa Ab : Option Addr) (na nb ca cb : Nat) (w : World)
  (ha : Wd .u64 w w.heap.size Aa (dig WB m)) (hb : Wd .u64 w w.heap.size Ab (dig WB n)) (hna : (dig WB m).length = na) (hnb : (dig WB n).length = nb) (hsa : na ≤ 1000000000) (hsb : nb ≤ 1000000000) :
  Calls Tryd.prog 50 #[.slice Aa na ca, .slice Ab nb cb] w fun e w' => e = .returned (.int .i64 (cmpN m n)) ∧ Below w.heap.size w w' := by
 by_cases h1 : na < nb
 ·have hlt : m < n := lt_of_len_lt WB_two (by omega)
  clear ha hb hna hnb
  go_enter Tryd.func50, Tryd.ntmps50
  go_wp2
  go_ret
  exact ⟨ret_eq (by rw [cmpN_lt hlt]; rfl), Below.refl _ _⟩
 ·by_cases h2 : nb < na
  ·have hlt : n < m := lt_of_len_lt WB_two (by omega)
   clear ha hb hna hnb
   go_enter Tryd.func50, Tryd.ntmps50
   go_wp2
   go_ret
   exact ⟨ret_eq (by rw [cmpN_gt hlt]; rfl), Below.refl _ _⟩
  ·obtain rfl : na = nb := by omega
   have HX := Lib.hid ha
   have HY := Lib.hid hb
   have Hnx := Lib.hid hna
   have Hny := Lib.hid hnb
   have dx := dig_Dl WB_two m
   have dy := dig_Dl WB_two n
   have HM := Lib.hid (val_dig WB_two m)
   have HN := Lib.hid (val_dig WB_two n)
   clear ha hb hna hnb
   generalize dig WB m = la at *
   generalize dig WB n = lb at *
   go_enter Tryd.func50, Tryd.ntmps50
   go_wp2
   go_loopw [5] (fun i wr => ∃ (k : Nat), k ≤ na ∧ i = .int .i64 ((k : Int) - 1) ∧ Hid (la.drop k = lb.drop k) ∧ Below w.heap.size w wr) (fun i _ => (intOf i + 1).toNat)
   case atStart => exact ⟨na, Nat.le_refl _, rfl, by rw [Hid, List.drop_of_length_le (by have := Hnx.out; omega), List.drop_of_length_le (by have := Hny.out; omega)], Below.refl _ _⟩
   case round =>
    obtain ⟨k, hk, rfl, Hd, hbel⟩ := hrel
    have HBEL := Lib.hid hbel
    clear hbel
    rcases Nat.eq_zero_or_pos k with h0 | h0
    ·subst h0
     go_wp2
     go_ret
     have e := Hd.out
     rw [List.drop_zero, List.drop_zero] at e
     have hmn : m = n := by rw [← HM.out, ← HN.out, e]
     exact ⟨ret_eq (by rw [hmn, cmpN_self]; rfl), HBEL.out⟩
    ·obtain ⟨ax, rfl, hcx⟩ := (HX.out.below HBEL.out).get (k := k - 1) (by have := Hnx.out; omega)
     obtain ⟨ay, rfl, hcy⟩ := (HY.out.below HBEL.out).get (k := k - 1) (by have := Hny.out; omega)
     have HLEN := Lib.hid (Hnx.out.trans Hny.out.symm)
     have HKL : Hid (k ≤ la.length) := by have := Hnx.out; show k ≤ la.length; omega
     have HKM : Hid (k ≤ lb.length) := by have := Hny.out; show k ≤ lb.length; omega
     by_cases hxy : la[k - 1]?.getD 0 < lb[k - 1]?.getD 0
     ·have hlt : m < n := by
       rw [← HM.out, ← HN.out]
       exact val_lt_of_getD dx HLEN.out h0 HKL.out Hd.out hxy
      go_wp2
      go_region
      go_wp2
      go_ret
      exact ⟨ret_eq (by rw [cmpN_lt hlt]; rfl), HBEL.out.drew⟩
     ·by_cases hyx : lb[k - 1]?.getD 0 < la[k - 1]?.getD 0
      ·have hlt : n < m := by
        rw [← HM.out, ← HN.out]
        exact val_lt_of_getD dy HLEN.out.symm h0 HKM.out Hd.out.symm hyx
       go_wp2
       go_region
       go_wp2
       go_region
       go_wp2
       go_ret
       exact ⟨ret_eq (by rw [cmpN_gt hlt]; rfl), HBEL.out.drew.drew⟩
      ·have hd := drop_pred HLEN.out h0 HKL.out Hd.out (by omega)
       have HD := Lib.hid hd
       clear hd
       go_wp2
       go_region
       go_wp2
       go_region
       go_wp2
       go_roundw
       case rel => exact ⟨k - 1, by omega, by go_num, HD.out, HBEL.out.drew.drew⟩
       case measure => simp [intOf]; omega
end Go.Proofs.YthmdmbpecgakkaaDoor

namespace Go.Proofs.YthmdmbpecgakkaaDoor
open Go.RowKit

theorem sub_word {x c y : Nat} (hx : x < 4294967296) (hc : c ≤ 1) (hy : y < 4294967296) : ∃ s : Nat, IntKind.u64.wrap (IntKind.u64.wrap ((x : Int) - c) - y) = (s : Int) ∧ s < 18446744073709551616 ∧
  s / 9223372036854775808 ≤ 1 ∧ s % WB + c + y = x + WB * (s / 9223372036854775808) := by
 rw [IntKind.wrap_u64, IntKind.wrap_u64, WB_eq]
 refine ⟨((((x : Int) - c) % 18446744073709551616 - y) % 18446744073709551616).toNat, ?_, ?_, ?_, ?_⟩ <;> omega

set_option maxRecDepth 100000 in
set_option maxHeartbeats 1000000 in
theorem sub_any (la lb : List Nat) (Aa Ab : Option Addr) (na nb ca cb : Nat) (w : World) (da : Dl WB la) (db : Dl WB lb)
  (ha : Wd .u64 w w.heap.size Aa la) (hb : Wd .u64 w w.heap.size Ab lb) (hna : la.length = na) (hnb : lb.length = nb) (hsa : na ≤ 1000000000) (hsb : nb ≤ na) (hle : val WB lb ≤ val WB la) :
  Calls Tryd.prog 51 #[.slice Aa na ca, .slice Ab nb cb] w (GivesNat (val WB la - val WB lb) w) := by
 have HX := Lib.hid ha
 have HY := Lib.hid hb
 have Hnx := Lib.hid hna
 have Hny := Lib.hid hnb
 have Hle := Lib.hid hle
 clear ha hb hna hnb hle
 have hmk := run_make_dig (P := Tryd.prog) 92 96 Tryd.underlying92 info_u64 (na : Int) na (by omega) (by omega)
 go_enter Tryd.func51, Tryd.ntmps51
 go_wp2
 clear hmk
 go_loopw [6,14] (fun cr i wr => ∃ (k c : Nat) (lo : List Nat), k ≤ na ∧ c ≤ 1 ∧ i = .int .i64 k ∧ cr = .int .u64 c ∧ Ow .u64 wr w.heap.size 96 lo ∧ Hid (lo.length = na) ∧ Dl WB lo ∧
   Hid (val WB (lo.take k) + val WB (lb.take k) = val WB (la.take k) + WB ^ k * c) ∧ Below w.heap.size w wr) (fun _ i _ => na - (intOf i).toNat)
 case atStart => exact ⟨0, 0, List.replicate na 0, Nat.zero_le _, by omega, rfl,rfl,Ow.new _ _ _ _, List.length_replicate, Dl.replicate WB_pos _, by simp [Hid, val], (Below.refl _ _).alloc (Nat.le_refl _) _⟩
 case round =>
  obtain ⟨k, c, lo, hk, hc, rfl,rfl,how, Hlen, dlo, Hv, hbel⟩ := hrel
  have HOW := Lib.hid how
  have HBEL := Lib.hid hbel
  clear how hbel
  by_cases hlt : k < na
  ·obtain ⟨ax, rfl, hcx⟩ := (HX.out.below HBEL.out).get (k := k) (by have := Hnx.out; omega)
   have hbx := da.getD WB_pos k
   rw [List.getD_eq_getElem?_getD, WB_eq] at hbx
   have hfo := HOW.out.free k
   have hco := HOW.out.cell k (by have := Hlen.out; omega)
   by_cases hlty : k < nb
   ·obtain ⟨ay, rfl, hcy⟩ := (HY.out.below HBEL.out).get (k := k) (by have := Hny.out; omega)
    have hby := db.getD WB_pos k
    rw [List.getD_eq_getElem?_getD, WB_eq] at hby
    obtain ⟨s, es, hs, hs1, hs2⟩ := sub_word hbx hc hby
    have ES := Lib.hid es
    clear es
    go_wp2
    go_roundw
    case rel =>
     have e1 := and_mask _ s ES.out hs
     have hl := Hlen.out
     exact ⟨k + 1, _, lo.set k (s % WB), by omega, hs1, by go_num, by rw [ES.out]; go_num, by rw [e1]; exact HOW.out.set _ _, by rw [List.length_set]; exact hl, dlo.set _ (Nat.mod_lt _ WB_pos), sub_step (by omega) rfl rfl hs2 Hv.out, HBEL.out.setCell (Nat.le_refl _) _⟩
    case measure => simp [intOf]; omega
   ·have hy0 : lb[k]?.getD 0 = 0 := by rw [List.getElem?_eq_none (by have := Hny.out; omega)]; rfl
    have HY0 := Lib.hid hy0
    clear hy0
    obtain ⟨s, es, hs, hs1, hs2⟩ := sub_word hbx hc (y := 0) (by omega)
    have es' : IntKind.u64.wrap (((la[k]?.getD 0 : Nat) : Int) - c) = (s : Int) := by
     rw [← es]; simp only [IntKind.wrap_u64]; omega
    have ES := Lib.hid es'
    clear es es'
    go_wp2
    go_roundw
    case rel =>
     have e1 := and_mask _ s ES.out hs
     have hl := Hlen.out
     exact ⟨k + 1, _, lo.set k (s % WB), by omega, hs1, by go_num, by rw [ES.out]; go_num, by rw [e1]; exact HOW.out.set _ _, by rw [List.length_set]; exact hl, dlo.set _ (Nat.mod_lt _ WB_pos), sub_step (by omega) rfl HY0.out hs2 Hv.out, HBEL.out.setCell (Nat.le_refl _) _⟩
    case measure => simp [intOf]; omega
  ·obtain rfl : k = na := by omega
   have hval : val WB lo = val WB la - val WB lb := by
    have h2 := Hv.out
    rw [List.take_of_length_le (l := la) (by have := Hnx.out; omega), List.take_of_length_le (l := lb) (by have := Hny.out; omega), List.take_of_length_le (l := lo) (by have := Hlen.out; omega)] at h2
    have h3 := Hle.out
    have h4 := val_lt dlo
    rw [Hlen.out] at h4
    rcases Nat.eq_zero_or_pos c with h0 | h0
    ·subst h0; omega
    ·obtain rfl : c = 1 := by omega
     omega
   have HVAL := Lib.hid hval
   clear hval
   go_wp2_with (go_at_call 65; refine (norm_any lo _ _ _ wr.heap.size _ Hlen.out (by omega) (by omega) (HOW.out.wd HOW.out.lt)).mono ?_; rintro e w' ⟨rfl, rfl⟩)
   go_ret
   rw [← HVAL.out]
   exact gives_norm HBEL.out (HOW.out.wd HOW.out.lt) dlo (by have := Hlen.out; omega) (by omega)
end Go.Proofs.YthmdmbpecgakkaaDoor

namespace Go.Proofs.YthmdmbpecgakkaaDoor
open Go.RowKit

theorem mul_word {x y u c : Nat} (hx : x < 4294967296) (hy : y < 4294967296) (hu : u < 4294967296) (hc : c < 4294967296) : (x : Int) * y ≤ 18446744065119617025 ∧ u + x * y + c < 18446744073709551616 ∧ 0 ≤ (x : Int) * y := by
 have h : x * y ≤ 4294967295 * 4294967295 := Nat.mul_le_mul (by omega) (by omega)
 have e : (x : Int) * y = ((x * y : Nat) : Int) := by rw [Int.natCast_mul]
 rw [e]
 omega

set_option maxRecDepth 100000 in
set_option maxHeartbeats 1000000 in
theorem mul_any (la lb : List Nat) (Aa Ab : Option Addr) (na nb ca cb : Nat) (w : World) (da : Dl WB la) (db : Dl WB lb)
  (ha : Wd .u64 w w.heap.size Aa la) (hb : Wd .u64 w w.heap.size Ab lb) (hna : la.length = na) (hnb : lb.length = nb) (hsa : na ≤ 1000000000) (hsb : nb ≤ 1000000000) :
  Calls Tryd.prog 42 #[.slice Aa na ca, .slice Ab nb cb] w (GivesNat (val WB la * val WB lb) w) := by
 have HX := Lib.hid ha
 have HY := Lib.hid hb
 have Hnx := Lib.hid hna
 have Hny := Lib.hid hnb
 clear ha hb hna hnb
 have hmk := run_make_dig (P := Tryd.prog) 92 96 Tryd.underlying92 info_u64 ((na : Int) + nb) (na + nb) (by omega) (by omega)
 go_enter Tryd.func42, Tryd.ntmps42
 go_wp2
 clear hmk
 go_loopw [20] (fun i wr => ∃ (k : Nat) (lo : List Nat), k ≤ na ∧ i = .int .i64 k ∧ Ow .u64 wr w.heap.size 96 lo ∧ Hid (lo.length = na + nb) ∧ Dl WB lo ∧
   Hid (val WB lo = val WB (la.take k) * val WB lb) ∧ Hid (∀ j, k + nb ≤ j → lo[j]?.getD 0 = 0) ∧ Below w.heap.size w wr) (fun i _ => na - (intOf i).toNat)
 case atStart => exact ⟨0, List.replicate (na + nb) 0, Nat.zero_le _, rfl, Ow.new _ _ _ _, List.length_replicate, Dl.replicate WB_pos _, by simp [Hid, val, val_replicate], fun j _ => by rw [List.getElem?_replicate]; split <;> rfl, (Below.refl _ _).alloc (Nat.le_refl _) _⟩
 case round =>
  obtain ⟨i, lo, hi, rfl, how, Hlen, dlo, Hv, Hz, hbel⟩ := hrel
  by_cases hlt : i < na
  ·obtain ⟨ax, rfl, hcx⟩ := (HX.out.below hbel).get (k := i) (by have := Hnx.out; omega)
   have hbx := da.getD WB_pos i
   rw [List.getD_eq_getElem?_getD, WB_eq] at hbx
   have HOW := Lib.hid how
   have HBEL := Lib.hid hbel
   have HDL := Lib.hid dlo
   clear how hbel dlo
   obtain ⟨wo, rfl⟩ : ∃ wo : World, wo = wr := ⟨_, rfl⟩
   go_wp2
   go_loopw [8,27] (fun cr i2 wr => ∃ (k c : Nat) (lo : List Nat), k ≤ nb ∧ c < 4294967296 ∧ i2 = .int .i64 k ∧ cr = .int .u64 c ∧ Ow .u64 wr w.heap.size 96 lo ∧ Hid (lo.length = na + nb) ∧ Dl WB lo ∧
    Hid (val WB lo + WB ^ (i + k) * c = val WB (la.take i) * val WB lb + (la[i]?.getD 0) * val WB (lb.take k) * WB ^ i) ∧ Hid (∀ j, i + nb ≤ j → lo[j]?.getD 0 = 0) ∧ Below w.heap.size w wr) (fun _ i2 _ => nb - (intOf i2).toNat)
   case atStart => exact ⟨0, 0, lo, Nat.zero_le _, by omega, rfl,rfl,HOW.out, Hlen, HDL.out, by have := Hv.out; simp [Hid, val, this], Hz, HBEL.out⟩
   case round =>
    clear HOW HBEL HDL Hv Hz hcx Hlen
    obtain ⟨k, c, l2, hk, hc, rfl,rfl,how, Hlen, dl2, Hv, Hz, hbel⟩ := hrel
    have HOW := Lib.hid how
    have HBEL := Lib.hid hbel
    clear how hbel
    by_cases hlk : k < nb
    ·obtain ⟨ay, rfl, hcy⟩ := (HY.out.below HBEL.out).get (k := k) (by have := Hny.out; omega)
     have hby := db.getD WB_pos k
     rw [List.getD_eq_getElem?_getD, WB_eq] at hby
     have hbu := dl2.getD WB_pos (i + k)
     rw [List.getD_eq_getElem?_getD, WB_eq] at hbu
     obtain ⟨hm1, hm2, hm3⟩ := mul_word hbx hby hbu hc
     have hfo := HOW.out.free (i + k)
     have hco := HOW.out.cell (i + k) (by have := Hlen.out; omega)
     go_wp2
     go_roundw
     case rel =>
      have e1 := and_mask (((l2[i + k]?.getD 0 : Nat) : Int) + (la[i]?.getD 0 : Nat) * (lb[k]?.getD 0 : Nat) + (c : Nat)) (l2[i + k]?.getD 0 + la[i]?.getD 0 * lb[k]?.getD 0 + c) (by rw [Int.natCast_add, Int.natCast_add, Int.natCast_mul]) hm2
      have e2 := div_word (((l2[i + k]?.getD 0 : Nat) : Int) + (la[i]?.getD 0 : Nat) * (lb[k]?.getD 0 : Nat) + (c : Nat)) (l2[i + k]?.getD 0 + la[i]?.getD 0 * lb[k]?.getD 0 + c) (by rw [Int.natCast_add, Int.natCast_add, Int.natCast_mul])
      have hl := Hlen.out
      refine ⟨k + 1, _, l2.set (i + k) ((l2[i + k]?.getD 0 + la[i]?.getD 0 * lb[k]?.getD 0 + c) % WB), by omega, ?_, by go_num, by rw [e2], by rw [e1]; exact HOW.out.set _ _, by rw [List.length_set]; exact hl, dl2.set _ (Nat.mod_lt _ WB_pos), mul_step (by omega) Hv.out, fun j hj => by rw [List.getElem?_set_ne (by omega)]; exact Hz.out j hj, HBEL.out.setCell (Nat.le_refl _) _⟩
      rw [WB_eq]; omega
     case measure => simp [intOf]; omega
    ·obtain rfl : k = nb := by omega
     have hfo := HOW.out.free (i + k)
     have hco := HOW.out.cell (i + k) (by have := Hlen.out; omega)
     go_wp2
     go_roundw
     case rel =>
      have hl := Hlen.out
      have hnb := Hny.out
      refine ⟨i + 1, l2.set (i + k) c, by omega, by go_num, HOW.out.set _ _, by rw [List.length_set]; exact hl, dl2.set _ (by rw [WB_eq]; exact hc), ?_, fun j hj => by rw [List.getElem?_set_ne (by omega)]; exact Hz.out j (by omega), HBEL.out.setCell (Nat.le_refl _) _⟩
      have hv := Hv.out
      have hz := Hz.out (i + k) (Nat.le_refl _)
      subst hnb
      exact mul_row (by omega) hz hv
     case measure => simp [intOf]; omega
  ·obtain rfl : i = na := by omega
   have HOW := Lib.hid how
   have HBEL := Lib.hid hbel
   clear how hbel
   have hval : val WB lo = val WB la * val WB lb := by
    have h2 := Hv.out
    rwa [List.take_of_length_le (l := la) (by have := Hnx.out; omega)] at h2
   have HVAL := Lib.hid hval
   clear hval
   go_wp2_with (go_at_call 65; refine (norm_any lo _ _ _ wr.heap.size _ Hlen.out (by omega) (by omega) (HOW.out.wd HOW.out.lt)).mono ?_; rintro e w' ⟨rfl, rfl⟩)
   go_ret
   rw [← HVAL.out]
   exact gives_norm HBEL.out (HOW.out.wd HOW.out.lt) dlo (by have := Hlen.out; omega) (by omega)
end Go.Proofs.YthmdmbpecgakkaaDoor

namespace Go.Proofs.YthmdmbpecgakkaaDoor
open Go.RowKit

def Num (k : Nat) (b : Bool) (s : ByteArray) (z : Int) : Prop := ival b s.data.toList = z ∧ 8 * s.size ≤ k
def Can (b : Bool) (s : ByteArray) (z : Int) : Prop := b = decide (z < 0) ∧ s = ⟨(mag z.natAbs).toArray⟩

def GivesW (k : Nat) (z : Int) (w : World) (e : Ending) (w' : World) : Prop :=
 ∃ b s, e = .returned (.agg #[.bool b, .string s]) ∧ Can b s z ∧ Num k b s z ∧ Below w.heap.size w w'

theorem ival_can (z : Int) : ival (decide (z < 0)) (mag z.natAbs) = z := by
 unfold ival
 rw [mval_mag]
 by_cases h : z < 0
 ·rw [if_pos (by simpa using h)]; omega
 ·rw [if_neg (by simpa using h)]; omega
theorem Num.sm {k : Nat} {b : Bool} {s : ByteArray} {z : Int} (h : Num k b s z) : Sm k z := by
 rw [← h.1]
 have := Sm.ofBytes (neg := b) (l := s.data.toList) (k := s.size) (by simp)
 exact this.mono h.2
theorem Num.natAbs {k : Nat} {b : Bool} {s : ByteArray} {z : Int} (h : Num k b s z) : mval s.data.toList = z.natAbs := by rw [← h.1, ival_natAbs]
theorem Num.mono {j k : Nat} {b : Bool} {s : ByteArray} {z : Int} (h : Num j b s z) (hjk : j ≤ k) : Num k b s z := ⟨h.1, Nat.le_trans h.2 hjk⟩
theorem mag_bits {k : Nat} {z : Int} (h : Sm k z) : 8 * (mag z.natAbs).length ≤ k + 7 := by
 have : (mag z.natAbs).length ≤ (k + 7) / 8 := by
  apply mag_length_le
  have e : (256 : Nat) = 2 ^ 8 := by decide
  rw [e, ← Nat.pow_mul]
  exact Nat.lt_of_lt_of_le h (Nat.pow_le_pow_right (by omega) (by omega))
 omega
theorem Can.num {k : Nat} {b : Bool} {s : ByteArray} {z : Int} (h : Can b s z) (hz : Sm k z) : Num (k + 7) b s z := by
 obtain ⟨rfl, rfl⟩ := h
 exact ⟨ival_can z, mag_bits hz⟩
theorem Can.inj {b b' : Bool} {s s' : ByteArray} {z z' : Int} (h : Can b s z) (h' : Can b' s' z') : (b = b' ∧ s = s') ↔ z = z' := by
 constructor
 ·rintro ⟨rfl, rfl⟩
  obtain ⟨rfl, rfl⟩ := h
  obtain ⟨h1, h2⟩ := h'
  have h3 := ByteArray.ext_iff.1 h2
  have h4 := mag_inj (by simpa using h3 : mag z.natAbs = mag z'.natAbs)
  simp at h1
  omega
 ·rintro rfl
  exact ⟨h.1.trans h'.1.symm, h.2.trans h'.2.symm⟩
theorem can_wv (neg : Bool) (n : Nat) (z : Int) (hn : n = z.natAbs) (hs : n ≠ 0 → (neg = true ↔ z < 0)) : Can (neg && decide (n ≠ 0)) ⟨(mag n).toArray⟩ z := by
 subst hn
 refine ⟨?_, rfl⟩
 by_cases h0 : z.natAbs = 0
 ·have : ¬ z < 0 := by omega
  simp [h0, this]
 ·have := hs h0
  cases neg <;> simp_all
theorem GivesW.mono {j k : Nat} {z : Int} {w : World} {e : Ending} {w' : World} (h : GivesW j z w e w') (hjk : j ≤ k) : GivesW k z w e w' := by
 obtain ⟨b, s, h1, h2, h3, h4⟩ := h
 exact ⟨b, s, h1, h2, h3.mono hjk, h4⟩

theorem dig_len_of {n k K : Nat} (h : n < 2 ^ k) (hk : k ≤ 32 * K) : (dig WB n).length ≤ K := by
 apply dig_length_le WB_two
 have e : WB = 2 ^ 32 := by rw [WB_eq]
 rw [e, ← Nat.pow_mul]
 exact Nat.lt_of_lt_of_le h (Nat.pow_le_pow_right (by omega) hk)
theorem Num.dig_len {k : Nat} {b : Bool} {s : ByteArray} {z : Int} (h : Num k b s z) (hk : k ≤ 1000000000) : (dig WB z.natAbs).length ≤ 1000000000 :=
 dig_len_of h.sm (by omega)
theorem Num.size {k : Nat} {b : Bool} {s : ByteArray} {z : Int} (h : Num k b s z) (hk : k ≤ 1000000000) : s.size ≤ 1000000000 := by have := h.2; omega
theorem abs_num {k : Nat} {b : Bool} {s : ByteArray} {z : Int} (h : Num k b s z) (hk : k ≤ 1000000000) (w : World) :
  Calls Tryd.prog 41 #[.agg #[.bool b, .string s]] w (GivesNat z.natAbs w) := by
 have := abs_any b s w (h.size hk)
 rwa [h.natAbs] at this

theorem box1res (w : World) (x1 y1 r1 r2 : Value) (t1 t3 : TypeId) (W : World) (hW : W = (w.alloc (.cells #[x1, y1] t1)).alloc (.cells #[r1, r2] t3)) :
  W.cell? ⟨w.heap.size, 0, none⟩ = some x1 ∧ W.cell? ⟨w.heap.size, 1, none⟩ = some y1 ∧
  W.cell? ⟨w.heap.size + 1, 0, none⟩ = some r1 ∧ W.cell? ⟨w.heap.size + 1, 1, none⟩ = some r2 ∧ W.frozen? ⟨w.heap.size + 1, 0, none⟩ = false ∧ W.frozen? ⟨w.heap.size + 1, 1, none⟩ = false ∧
  W.heap[w.heap.size + 1]? = some (.cells #[r1, r2] t3 (0, 0)) ∧ Below w.heap.size w W ∧ W.heap.size = w.heap.size + 2 := by
 have h0 : W.heap.size = w.heap.size + 2 := by rw [hW]; simp
 have h1 : W.heap[w.heap.size]? = some (.cells #[x1, y1] t1 (0, 0)) := by rw [hW, Below.heap_alloc _ _ _ (by simp)]; exact heap_alloc_new w _
 have h3 : W.heap[w.heap.size + 1]? = some (.cells #[r1, r2] t3 (0, 0)) := by
  have h := heap_alloc_new (w.alloc (.cells #[x1, y1] t1)) (.cells #[r1, r2] t3)
  rw [hW]; simpa using h
 exact ⟨cell_of_row _ _ _ _ _ _ h1, cell_of_row _ _ _ _ _ _ h1, cell_of_row _ _ _ _ _ _ h3, cell_of_row _ _ _ _ _ _ h3, frozen_of_row _ _ _ _ _ h3, frozen_of_row _ _ _ _ _ h3, h3,
  by rw [hW]; exact ((Below.refl _ w).alloc (Nat.le_refl _) _).alloc (by simp) _, h0⟩
theorem box2res (w : World) (x1 y1 x2 y2 r1 r2 : Value) (t1 t2 t3 : TypeId) (W : World) (hW : W = ((w.alloc (.cells #[x1, y1] t1)).alloc (.cells #[x2, y2] t2)).alloc (.cells #[r1, r2] t3)) :
  W.cell? ⟨w.heap.size, 0, none⟩ = some x1 ∧ W.cell? ⟨w.heap.size, 1, none⟩ = some y1 ∧ W.cell? ⟨w.heap.size + 1, 0, none⟩ = some x2 ∧ W.cell? ⟨w.heap.size + 1, 1, none⟩ = some y2 ∧
  W.cell? ⟨w.heap.size + 2, 0, none⟩ = some r1 ∧ W.cell? ⟨w.heap.size + 2, 1, none⟩ = some r2 ∧ W.frozen? ⟨w.heap.size + 2, 0, none⟩ = false ∧ W.frozen? ⟨w.heap.size + 2, 1, none⟩ = false ∧
  W.heap[w.heap.size + 2]? = some (.cells #[r1, r2] t3 (0, 0)) ∧ Below w.heap.size w W ∧ W.heap.size = w.heap.size + 3 := by
 have h := box1res (w.alloc (.cells #[x1, y1] t1)) x2 y2 r1 r2 t2 t3 W hW
 rw [World.size_alloc] at h
 obtain ⟨a1, a2, a3, a4, a5, a6, a7, a8, a9⟩ := h
 have h1 : W.heap[w.heap.size]? = some (.cells #[x1, y1] t1 (0, 0)) := by rw [a8.block _ (by omega)]; exact heap_alloc_new w _
 exact ⟨cell_of_row _ _ _ _ _ _ h1, cell_of_row _ _ _ _ _ _ h1, a1, a2, a3, a4, a5, a6, a7, ((Below.refl _ w).alloc (Nat.le_refl _) _).trans (a8.mono (by omega)), by omega⟩

theorem dig_len_mul {k1 k2 : Nat} {b1 b2 : Bool} {s1 s2 : ByteArray} {z1 z2 : Int} (h1 : Num k1 b1 s1 z1) (h2 : Num k2 b2 s2 z2) (hk1 : k1 ≤ 100000000) (hk2 : k2 ≤ 100000000) : (dig WB (z1.natAbs * z2.natAbs)).length ≤ 1000000000 := by
 have h := h1.sm.mul h2.sm
 unfold Sm at h
 rw [Int.natAbs_mul] at h
 exact dig_len_of h (by omega)

theorem res_box2 {W : World} {g : Nat} {t : TypeId} {a b x y : Value} (h : W.heap[g]? = some (.cells #[a, b] t (0, 0))) :
  ((W.setCell ⟨g, 0, none⟩ x).setCell ⟨g, 1, none⟩ y).heap[g]? = some (.cells #[x, y] t (0, 0)) := by
 have h1 := heap_setCell_same W g 0 _ t x h
 have h2 := heap_setCell_same _ g 1 _ t y h1
 simpa using h2
theorem gives_wv {k : Nat} {z : Int} {w w' : World} {neg : Bool} {n : Nat} (hn : n = z.natAbs) (hs : n ≠ 0 → (neg = true ↔ z < 0)) (hz : Sm k z) (hb : Below w.heap.size w w') :
  GivesW (k + 7) z w (.returned (.agg #[.bool (neg && decide (n ≠ 0)), .string ⟨(mag n).toArray⟩])) w' := by
 have hc := can_wv neg n z hn hs
 exact ⟨_, _, rfl, hc, hc.num hz, hb⟩
theorem ival_neg_iff {b : Bool} {s : ByteArray} {k : Nat} {z : Int} (h : Num k b s z) (h0 : z ≠ 0) : (b = true ↔ z < 0) := by
 have h1 := h.1
 unfold ival at h1
 cases b
 ·simp at h1; simp; omega
 ·simp at h1; simp; omega
theorem mul_sign {k1 k2 : Nat} {b1 b2 : Bool} {s1 s2 : ByteArray} {z1 z2 : Int} (h1 : Num k1 b1 s1 z1) (h2 : Num k2 b2 s2 z2) (h0 : z1.natAbs * z2.natAbs ≠ 0) : ((b1 != b2) = true ↔ z1 * z2 < 0) := by
 have hz1 : z1 ≠ 0 := fun e => h0 (by rw [e]; simp)
 have hz2 : z2 ≠ 0 := fun e => h0 (by rw [e]; simp)
 have e1 := ival_neg_iff h1 hz1
 have e2 := ival_neg_iff h2 hz2
 rcases Int.lt_or_gt_of_ne hz1 with g1 | g1 <;> rcases Int.lt_or_gt_of_ne hz2 with g2 | g2
 ·have h := Int.mul_pos_of_neg_of_neg g1 g2
  rw [e1.2 g1, e2.2 g2]; simp; omega
 ·have h := Int.mul_neg_of_neg_of_pos g1 g2
  have : b2 = false := by cases b2 <;> simp at e2 ⊢; omega
  rw [e1.2 g1, this]; simp [h]
 ·have h := Int.mul_neg_of_pos_of_neg g1 g2
  have : b1 = false := by cases b1 <;> simp at e1 ⊢; omega
  rw [e2.2 g2, this]; simp [h]
 ·have h := Int.mul_pos g1 g2
  have h1 : b1 = false := by cases b1 <;> simp at e1 ⊢; omega
  have h2 : b2 = false := by cases b2 <;> simp at e2 ⊢; omega
  rw [h1, h2]; simp; omega

theorem neg_sign {k : Nat} {b : Bool} {s : ByteArray} {z : Int} (h : Num k b s z) (h0 : z.natAbs ≠ 0) : ((!b) = true ↔ -z < 0) := by
 have e := ival_neg_iff h (by omega)
 cases b <;> simp at e ⊢ <;> omega

theorem ival_or {k : Nat} {b : Bool} {s : ByteArray} {z : Int} (h : Num k b s z) : (b = true ∧ z ≤ 0) ∨ (b = false ∧ 0 ≤ z) := by
 have h1 := h.1
 unfold ival at h1
 cases b
 ·rw [if_neg (by simp)] at h1; exact Or.inr ⟨rfl, by omega⟩
 ·rw [if_pos rfl] at h1; exact Or.inl ⟨rfl, by omega⟩
theorem add_same {k1 k2 : Nat} {b1 b2 : Bool} {s1 s2 : ByteArray} {z1 z2 : Int} (h1 : Num k1 b1 s1 z1) (h2 : Num k2 b2 s2 z2) (hb : b1 = b2) :
  z1.natAbs + z2.natAbs = (z1 + z2).natAbs ∧ (z1.natAbs + z2.natAbs ≠ 0 → (b1 = true ↔ z1 + z2 < 0)) := by
 subst hb
 rcases ival_or h1 with ⟨e1, g1⟩ | ⟨e1, g1⟩ <;> rcases ival_or h2 with ⟨e2, g2⟩ | ⟨e2, g2⟩
 ·refine ⟨by omega, fun h0 => ?_⟩; simp [e1]; omega
 ·rw [e1] at e2; cases e2
 ·rw [e1] at e2; cases e2
 ·refine ⟨by omega, fun h0 => ?_⟩; simp [e1]; omega
theorem add_lt {k1 k2 : Nat} {b1 b2 : Bool} {s1 s2 : ByteArray} {z1 z2 : Int} (h1 : Num k1 b1 s1 z1) (h2 : Num k2 b2 s2 z2) (hb : b1 ≠ b2) (hlt : z1.natAbs < z2.natAbs) :
  z2.natAbs - z1.natAbs = (z1 + z2).natAbs ∧ (z2.natAbs - z1.natAbs ≠ 0 → (b2 = true ↔ z1 + z2 < 0)) := by
 rcases ival_or h1 with ⟨e1, g1⟩ | ⟨e1, g1⟩ <;> rcases ival_or h2 with ⟨e2, g2⟩ | ⟨e2, g2⟩
 ·rw [e1, e2] at hb; exact absurd rfl hb
 ·refine ⟨by omega, fun h0 => ?_⟩; simp [e2]; omega
 ·refine ⟨by omega, fun h0 => ?_⟩; simp [e2]; omega
 ·rw [e1, e2] at hb; exact absurd rfl hb
theorem add_ge {k1 k2 : Nat} {b1 b2 : Bool} {s1 s2 : ByteArray} {z1 z2 : Int} (h1 : Num k1 b1 s1 z1) (h2 : Num k2 b2 s2 z2) (hb : b1 ≠ b2) (hge : ¬ z1.natAbs < z2.natAbs) :
  z1.natAbs - z2.natAbs = (z1 + z2).natAbs ∧ (z1.natAbs - z2.natAbs ≠ 0 → (b1 = true ↔ z1 + z2 < 0)) := by
 rcases ival_or h1 with ⟨e1, g1⟩ | ⟨e1, g1⟩ <;> rcases ival_or h2 with ⟨e2, g2⟩ | ⟨e2, g2⟩
 ·rw [e1, e2] at hb; exact absurd rfl hb
 ·refine ⟨by omega, fun h0 => ?_⟩; simp [e1]; omega
 ·refine ⟨by omega, fun h0 => ?_⟩; simp [e1]; omega
 ·rw [e1, e2] at hb; exact absurd rfl hb
theorem sm_add_max {j k : Nat} {y z : Int} (h : Sm j y) (h' : Sm k z) : Sm (j + k + 1) (y + z) := (h.mono (by omega : j ≤ j + k)).add (h'.mono (by omega : k ≤ j + k))
theorem dig_len_z {k : Nat} {z : Int} (h : Sm k z) (hk : k ≤ 1000000000) : (dig WB z.natAbs).length ≤ 1000000000 := dig_len_of h (by omega)

theorem wdDrew {q : IntKind} {w : World} {A : Option Addr} {l : List Nat} (h : Wd q w w.heap.size A l) : Wd q w.drew w.drew.heap.size A l := h

theorem wd_two {W : World} {g : Nat} {x y : Int} {a b : Nat} {t : TypeId} (hx : x = a) (hy : y = b) (hg : W.heap[g]? = some (.cells #[.int .u64 x, .int .u64 y] t (0, 0))) : Wd .u64 W W.heap.size (some ⟨g, 0, none⟩) [a, b] := by
 subst hx hy
 have h : Ow .u64 W g t [a, b] := hg
 exact h.wd h.lt
theorem wd_one {W : World} {g : Nat} {x : Int} {a : Nat} {t : TypeId} (hx : x = a) (hg : W.heap[g]? = some (.cells #[.int .u64 x] t (0, 0))) : Wd .u64 W W.heap.size (some ⟨g, 0, none⟩) [a] := by
 subst hx
 have h : Ow .u64 W g t [a] := hg
 exact h.wd h.lt
theorem val_two {m : Nat} : val WB [m % WB, m / WB] = m := by simp [val]; exact Nat.mod_add_div m WB
theorem dl_two {m : Nat} (h : m < 18446744073709551616) : Dl WB [m % WB, m / WB] := by
 intro d hd
 simp at hd
 rcases hd with rfl | rfl
 ·exact Nat.mod_lt _ WB_pos
 ·rw [WB_eq]; omega
theorem box0res (w : World) (r1 r2 : Value) (t3 : TypeId) (o : Obj) (W : World) (hW : W = (w.alloc (.cells #[r1, r2] t3)).alloc o) :
  W.cell? ⟨w.heap.size, 0, none⟩ = some r1 ∧ W.cell? ⟨w.heap.size, 1, none⟩ = some r2 ∧ W.frozen? ⟨w.heap.size, 0, none⟩ = false ∧ W.frozen? ⟨w.heap.size, 1, none⟩ = false ∧
  W.heap[w.heap.size]? = some (.cells #[r1, r2] t3 (0, 0)) ∧ W.heap[w.heap.size + 1]? = some o ∧ Below w.heap.size w W ∧ W.heap.size = w.heap.size + 2 := by
 have h0 : W.heap.size = w.heap.size + 2 := by rw [hW]; simp
 have h3 : W.heap[w.heap.size]? = some (.cells #[r1, r2] t3 (0, 0)) := by rw [hW, Below.heap_alloc _ _ _ (by simp)]; exact heap_alloc_new w _
 exact ⟨cell_of_row _ _ _ _ _ _ h3, cell_of_row _ _ _ _ _ _ h3, frozen_of_row _ _ _ _ _ h3, frozen_of_row _ _ _ _ _ h3, h3, by rw [hW]; have h := heap_alloc_new (w.alloc (.cells #[r1, r2] t3)) o; simpa using h,
  by rw [hW]; exact ((Below.refl _ w).alloc (Nat.le_refl _) _).alloc (by simp) _, h0⟩

theorem gives_close {k : Nat} {z : Int} {w w' : World} (neg : Bool) {x : Bool} {n : Nat} (hx : x = (neg && decide (n ≠ 0))) (hn : n = z.natAbs) (hs : n ≠ 0 → (neg = true ↔ z < 0)) (hz : Sm k z) (hb : Below w.heap.size w w') :
  GivesW (k + 7) z w (.returned (.agg #[.bool x, .string ⟨(mag n).toArray⟩])) w' := by
 subst hx
 exact gives_wv hn hs hz hb
end Go.Proofs.YthmdmbpecgakkaaDoor

namespace Go.Proofs.YthmdmbpecgakkaaDoor
open Go.RowKit

set_option maxRecDepth 100000 in
set_option maxHeartbeats 1000000 in
theorem Mul_any {k1 k2 : Nat} {b1 b2 : Bool} {s1 s2 : ByteArray} {z1 z2 : Int} (h1 : Num k1 b1 s1 z1) (h2 : Num k2 b2 s2 z2) (hk1 : k1 ≤ 100000000) (hk2 : k2 ≤ 100000000) (w : World) :
  Calls Tryd.prog 24 #[.agg #[.bool b1, .string s1], .agg #[.bool b2, .string s2]] w (GivesW (k1 + k2 + 7) (z1 * z2) w) := by
 have H1 := Lib.hid h1
 have H2 := Lib.hid h2
 clear h1 h2
 go_enter Tryd.func24, Tryd.ntmps24
 go_wp2_with fail
 have hm1 := H1.out.dig_len (by omega)
 have hm2 := H2.out.dig_len (by omega)
 obtain ⟨W0, hW0⟩ : ∃ W0, W0 = ((w.alloc (.cells #[.bool b1, .string s1] 48)).alloc (.cells #[.bool b2, .string s2] 48)).alloc (.cells #[.bool false, .string ⟨#[]⟩] 48) := ⟨_, rfl⟩
 rw [← hW0]
 obtain ⟨f1, f2, f3, f4, f5, f6, f7, f8, hblk, hbel, hsz⟩ := box2res _ _ _ _ _ _ _ _ _ _ _ hW0
 clear hW0
 have HBLK := Lib.hid hblk
 have HSZ := Lib.hid hsz
 have HBEL := Lib.hid hbel
 clear hblk hsz hbel
 go_region_held3 (fun w' => w'.cell? ⟨w.heap.size, 0, none⟩ = some (.bool b1) ∧ w'.cell? ⟨w.heap.size, 1, none⟩ = some (.string s1) ∧ w'.cell? ⟨w.heap.size + 1, 0, none⟩ = some (.bool b2) ∧ w'.cell? ⟨w.heap.size + 1, 1, none⟩ = some (.string s2))
  (first
   | (go_keep; done)
   | ((try go_split_ands); (try dsimp only); (repeat' apply And.intro) <;> first | assumption | exact keepCell (by assumption) (by assumption) | exact keepSet (keepSet (by assumption) (by dsimp only; omega)) (by dsimp only; omega) | go_keep))
  (first
   | (go_at_call_of 41 (Value.agg #[.bool b1, .string s1]); refine (abs_num H1.out (by omega) _).mono ?_; rintro e wA ⟨A1, n1, c1, rfl, hl1, hn1, hc1, hw1, hb1⟩)
   | (go_at_call_of 41 (Value.agg #[.bool b2, .string s2]); refine (abs_num H2.out (by omega) _).mono ?_; rintro e wB ⟨A2, n2, c2, rfl, hl2, hn2, hc2, hw2, hb2⟩)
   | (go_at_call 42; refine (mul_any (dig WB z1.natAbs) (dig WB z2.natAbs) A1 A2 n1 n2 c1 c2 _ (dig_Dl WB_two _) (dig_Dl WB_two _) (keepWd hb2 hw1) hw2 hl1 hl2 (by omega) (by omega)).mono ?_; rintro e wC ⟨A3, n3, c3, rfl, hl3, hn3, hc3, hw3, hb3⟩)
   | (go_at_call 43; rw [val_dig WB_two, val_dig WB_two] at hl3 hw3; refine (wide_any (z1.natAbs * z2.natAbs) A3 n3 c3 _ _ hw3 hl3 (by have := dig_len_mul H1.out H2.out hk1 hk2; omega) hn3 (Nat.le_trans hc3 (by decide))).mono ?_; rintro e wD ⟨rfl, hb4⟩; unfold wv; have hr1 := keepCell hb4 (keepCell hb3 (keepCell hb2 (keepCell hb1 f5))); have hr2 := keepCell hb4 (keepCell hb3 (keepCell hb2 (keepCell hb1 f6))); have hr3 := keepFree hb4 (keepCell hb3 (keepCell hb2 (keepCell hb1 f5))) (keepFree hb3 (keepCell hb2 (keepCell hb1 f5)) (keepFree hb2 (keepCell hb1 f5) (keepFree hb1 f5 f7))); have hr4 := keepFree hb4 (keepCell hb3 (keepCell hb2 (keepCell hb1 f6))) (keepFree hb3 (keepCell hb2 (keepCell hb1 f6)) (keepFree hb2 (keepCell hb1 f6) (keepFree hb1 f6 f8)))))
 go_wp2
 have hblk := res_box2 (x := Value.bool (!b1 == b2 && !decide (z1.natAbs * z2.natAbs = 0))) (y := .string ⟨(mag (z1.natAbs * z2.natAbs)).toArray⟩) (keepBlk hb4 (keepBlk hb3 (keepBlk hb2 (keepBlk hb1 HBLK.out))))
 refine bodyPost_ret (results_cell_row rfl _ _ (w.heap.size + 2) 48 _ (0, 0) _ rfl hblk Tryd.underlying48 rfl (by kernel_rfl)) rfl ?_
 have e : (!b1 == b2 && !decide (z1.natAbs * z2.natAbs = 0)) = ((b1 != b2) && decide (z1.natAbs * z2.natAbs ≠ 0)) := by cases b1 <;> cases b2 <;> simp
 rw [e]
 refine gives_wv (by rw [Int.natAbs_mul]) (mul_sign H1.out H2.out) (H1.out.sm.mul H2.out.sm) ?_
 have hsz := HSZ.out
 have h1 : w.heap.size + 3 ≤ wA.heap.size := by have := hb1.size; rw [← hsz]; exact this
 have h2 := hb2.size
 have h3 := hb3.size
 exact ((keepBel hb4 (keepBel hb3 (keepBel hb2 (keepBel hb1 HBEL.out.drew (by show _ ≤ W0.heap.size; omega)) (by omega)) (by omega)) (by omega)).setCell (p := ⟨w.heap.size + 2, 0, none⟩) (by simp) _).setCell (p := ⟨w.heap.size + 2, 1, none⟩) (by simp) _

set_option maxRecDepth 100000 in
set_option maxHeartbeats 1000000 in
theorem Neg_any {k1 : Nat} {b1 : Bool} {s1 : ByteArray} {z1 : Int} (h1 : Num k1 b1 s1 z1) (hk1 : k1 ≤ 1000000000) (w : World) :
  Calls Tryd.prog 48 #[.agg #[.bool b1, .string s1]] w (GivesW (k1 + 7) (-z1) w) := by
 have H1 := Lib.hid h1
 clear h1
 go_enter Tryd.func48, Tryd.ntmps48
 go_wp2_with fail
 have hm1 := H1.out.dig_len (by omega)
 obtain ⟨W0, hW0⟩ : ∃ W0, W0 = (w.alloc (.cells #[.bool b1, .string s1] 48)).alloc (.cells #[.bool false, .string ⟨#[]⟩] 48) := ⟨_, rfl⟩
 rw [← hW0]
 obtain ⟨f1, f2, f5, f6, f7, f8, hblk, hbel, hsz⟩ := box1res _ _ _ _ _ _ _ _ hW0
 clear hW0
 have HBLK := Lib.hid hblk
 have HSZ := Lib.hid hsz
 have HBEL := Lib.hid hbel
 clear hblk hsz hbel
 go_region_held3 (fun w' => w'.cell? ⟨w.heap.size, 0, none⟩ = some (.bool b1) ∧ w'.cell? ⟨w.heap.size, 1, none⟩ = some (.string s1))
  (first
   | (go_keep; done)
   | ((try go_split_ands); (try dsimp only); (repeat' apply And.intro) <;> first | assumption | exact keepCell (by assumption) (by assumption) | exact keepSet (keepSet (by assumption) (by dsimp only; omega)) (by dsimp only; omega) | go_keep))
  (first
   | (go_at_call 41; refine (abs_num H1.out (by omega) _).mono ?_; rintro e wA ⟨A1, n1, c1, rfl, hl1, hn1, hc1, hw1, hb1⟩)
   | (go_at_call 43; refine (wide_any z1.natAbs A1 n1 c1 _ _ hw1 hl1 (by omega) hn1 (Nat.le_trans hc1 (by decide))).mono ?_; rintro e wD ⟨rfl, hb4⟩; unfold wv; have hr1 := keepCell hb4 (keepCell hb1 f5); have hr2 := keepCell hb4 (keepCell hb1 f6); have hr3 := keepFree hb4 (keepCell hb1 f5) (keepFree hb1 f5 f7); have hr4 := keepFree hb4 (keepCell hb1 f6) (keepFree hb1 f6 f8)))
 go_wp2
 have hblk := res_box2 (x := Value.bool (!b1 && !decide (z1 = 0))) (y := .string ⟨(mag z1.natAbs).toArray⟩) (keepBlk hb4 (keepBlk hb1 HBLK.out))
 refine bodyPost_ret (results_cell_row rfl _ _ (w.heap.size + 1) 48 _ (0, 0) _ rfl hblk Tryd.underlying48 rfl (by kernel_rfl)) rfl ?_
 have e : (!b1 && !decide (z1 = 0)) = ((!b1) && decide (z1.natAbs ≠ 0)) := by cases b1 <;> simp
 rw [e]
 refine gives_wv (by rw [Int.natAbs_neg]) (neg_sign H1.out) H1.out.sm.neg ?_
 have hsz := HSZ.out
 have h1 : w.heap.size + 2 ≤ wA.heap.size := by have := hb1.size; rw [← hsz]; exact this
 exact ((keepBel hb4 (keepBel hb1 HBEL.out.drew (by show _ ≤ W0.heap.size; omega)) (by omega)).setCell (p := ⟨w.heap.size + 1, 0, none⟩) (by simp) _).setCell (p := ⟨w.heap.size + 1, 1, none⟩) (by simp) _

set_option maxRecDepth 100000 in
set_option maxHeartbeats 2000000 in
theorem Add_any {k1 k2 : Nat} {b1 b2 : Bool} {s1 s2 : ByteArray} {z1 z2 : Int} (h1 : Num k1 b1 s1 z1) (h2 : Num k2 b2 s2 z2) (hk1 : k1 ≤ 100000000) (hk2 : k2 ≤ 100000000) (w : World) :
  Calls Tryd.prog 29 #[.agg #[.bool b1, .string s1], .agg #[.bool b2, .string s2]] w (GivesW (k1 + k2 + 8) (z1 + z2) w) := by
 have H1 := Lib.hid h1
 have H2 := Lib.hid h2
 clear h1 h2
 go_enter Tryd.func29, Tryd.ntmps29
 go_wp2_with fail
 have hm1 := H1.out.dig_len (by omega)
 have hm2 := H2.out.dig_len (by omega)
 have HLS := Lib.hid (dig_len_z (sm_add_max H1.out.sm H2.out.sm) (by omega))
 have HSM := Lib.hid (sm_add_max H1.out.sm H2.out.sm)
 obtain ⟨W0, hW0⟩ : ∃ W0, W0 = ((w.alloc (.cells #[.bool b1, .string s1] 48)).alloc (.cells #[.bool b2, .string s2] 48)).alloc (.cells #[.bool false, .string ⟨#[]⟩] 48) := ⟨_, rfl⟩
 rw [← hW0]
 obtain ⟨f1, f2, f3, f4, f5, f6, f7, f8, hblk, hbel, hsz⟩ := box2res _ _ _ _ _ _ _ _ _ _ _ hW0
 clear hW0
 have HBLK := Lib.hid hblk
 have HSZ := Lib.hid hsz
 have HBEL := Lib.hid hbel
 clear hblk hsz hbel
 go_region_held3 (fun w' => w'.cell? ⟨w.heap.size, 0, none⟩ = some (.bool b1) ∧ w'.cell? ⟨w.heap.size, 1, none⟩ = some (.string s1) ∧ w'.cell? ⟨w.heap.size + 1, 0, none⟩ = some (.bool b2) ∧ w'.cell? ⟨w.heap.size + 1, 1, none⟩ = some (.string s2))
  (first
   | (go_keep; done)
   | ((try go_split_ands); (try dsimp only); (repeat' apply And.intro) <;> first | assumption | exact keepCell (by assumption) (by assumption) | exact keepSet (keepSet (by assumption) (by dsimp only; omega)) (by dsimp only; omega) | go_keep))
  (first
   | (go_at_call_of 41 (Value.agg #[.bool b1, .string s1]); refine (abs_num H1.out (by omega) _).mono ?_; rintro e wA ⟨A1, n1, c1, rfl, hl1, hn1, hc1, hw1, hb1⟩)
   | (go_at_call_of 41 (Value.agg #[.bool b2, .string s2]); refine (abs_num H2.out (by omega) _).mono ?_; rintro e wB ⟨A2, n2, c2, rfl, hl2, hn2, hc2, hw2, hb2⟩))
 have g1 := keepCell hb2 (keepCell hb1 f1)
 have g2 := keepCell hb2 (keepCell hb1 f2)
 have g3 := keepCell hb2 (keepCell hb1 f3)
 have g4 := keepCell hb2 (keepCell hb1 f4)
 have g5 := keepCell hb2 (keepCell hb1 f5)
 have g6 := keepCell hb2 (keepCell hb1 f6)
 have g7 := keepFree hb2 (keepCell hb1 f5) (keepFree hb1 f5 f7)
 have g8 := keepFree hb2 (keepCell hb1 f6) (keepFree hb1 f6 f8)
 have HB2 := Lib.hid (keepBel hb2 (keepBel hb1 HBEL.out.drew (by have := HSZ.out; show _ ≤ W0.heap.size; omega)) (by have := HSZ.out; have := hb1.size; have h3 : W0.heap.size ≤ wA.heap.size := this; omega))
 have HK2 := Lib.hid (keepBlk hb2 (keepBlk hb1 HBLK.out))
 have hsB : w.heap.size + 3 ≤ wB.heap.size := by have h1 := HSZ.out; have h2 : W0.heap.size ≤ wA.heap.size := hb1.size; have h3 := hb2.size; omega
 have HW1 := Lib.hid (keepWd hb2 hw1)
 have HW2 := Lib.hid hw2
 have HL1 := Lib.hid hl1
 have HL2 := Lib.hid hl2
 clear f1 f2 f3 f4 f5 f6 f7 f8 HBLK HBEL HSZ hw1 hw2 hb1 hb2
 have hn1' : n1 ≤ 1000000000 := by omega
 have hn2' : n2 ≤ 1000000000 := by omega
 clear hl1 hl2 hm1 hm2
 by_cases hbb : b1 = b2
 ·have hbt : (b1 == b2) = true := by simpa using hbb
  have HA := Lib.hid (add_same H1.out H2.out hbb)
  clear hbb
  go_wp2_with fail
  go_region_held3 (fun w' => w'.cell? ⟨w.heap.size, 0, none⟩ = some (.bool b1) ∧ w'.cell? ⟨w.heap.size, 1, none⟩ = some (.string s1) ∧ w'.cell? ⟨w.heap.size + 1, 0, none⟩ = some (.bool b2) ∧ w'.cell? ⟨w.heap.size + 1, 1, none⟩ = some (.string s2))
   (first
      | (go_keep; done)
      | ((try go_split_ands); (try dsimp only); (repeat' apply And.intro) <;> first | assumption | exact keepCell (by assumption) (by assumption) | exact keepSet (keepSet (by assumption) (by dsimp only; omega)) (by dsimp only; omega) | go_keep))
   (first
    | (go_at_call 49; refine (add_any (dig WB z1.natAbs) (dig WB z2.natAbs) A1 A2 n1 n2 c1 c2 _ (dig_Dl WB_two _) (dig_Dl WB_two _) (wdDrew HW1.out) (wdDrew HW2.out) HL1.out HL2.out hn1' hn2').mono ?_; rintro e wC ⟨A3, n3, c3, rfl, hl3, hn3, hc3, hw3, hb3⟩)
    | (go_at_call 43; rw [val_dig WB_two, val_dig WB_two, HA.out.1] at hl3 hw3; refine (wide_any (z1 + z2).natAbs A3 n3 c3 _ _ hw3 hl3 (by have := HLS.out; omega) hn3 (Nat.le_trans hc3 (by decide))).mono ?_; rintro e wD ⟨rfl, hb4⟩; unfold wv; have hr1 := keepCell hb4 (keepCell hb3 g5); have hr2 := keepCell hb4 (keepCell hb3 g6); have hr3 := keepFree hb4 (keepCell hb3 g5) (keepFree hb3 g5 g7); have hr4 := keepFree hb4 (keepCell hb3 g6) (keepFree hb3 g6 g8)))
  go_wp2
  have hblk := res_box2 (x := Value.bool (b1 && !decide (z1 + z2 = 0))) (y := .string ⟨(mag (z1 + z2).natAbs).toArray⟩) (keepBlk hb4 (keepBlk hb3 HK2.out))
  refine bodyPost_ret (results_cell_row rfl _ _ (w.heap.size + 2) 48 _ (0, 0) _ rfl hblk Tryd.underlying48 rfl (by kernel_rfl)) rfl ?_
  have e : (b1 && !decide (z1 + z2 = 0)) = (b1 && decide ((z1 + z2).natAbs ≠ 0)) := by cases b1 <;> simp
  rw [e]
  refine gives_wv rfl (fun h0 => HA.out.2 (by rw [HA.out.1]; exact h0)) HSM.out ?_
  have h3 := hb3.size
  have h3' : wB.heap.size ≤ wC.heap.size := h3
  exact ((keepBel hb4 (keepBel hb3 HB2.out.drew (by show _ ≤ wB.heap.size; omega)) (by omega)).setCell (p := ⟨w.heap.size + 2, 0, none⟩) (by simp) _).setCell (p := ⟨w.heap.size + 2, 1, none⟩) (by simp) _
 ·have hbt : (b1 == b2) = false := by simpa using hbb
  by_cases hlt : z1.natAbs < z2.natAbs
  ·have HA := Lib.hid (add_lt H1.out H2.out hbb hlt)
   have HCM := Lib.hid (show cmpN z1.natAbs z2.natAbs < 0 by rw [cmpN_lt hlt]; omega)
   have HLE := Lib.hid (Nat.le_of_lt hlt)
   have HLEN : Hid (n1 ≤ n2) := by show n1 ≤ n2; rw [← HL1.out, ← HL2.out]; exact dig_len_mono WB_two (Nat.le_of_lt hlt)
   clear hbb hlt
   go_wp2_with (go_at_call 50; refine (cmp_any z1.natAbs z2.natAbs A1 A2 n1 n2 c1 c2 _ HW1.out HW2.out HL1.out HL2.out hn1' hn2').mono ?_; rintro e wE ⟨rfl, hbE⟩; have hcm := HCM.out)
   have g7 := keepFree hbE g5 g7
   have g8 := keepFree hbE g6 g8
   have g1 := keepCell hbE g1
   have g2 := keepCell hbE g2
   have g3 := keepCell hbE g3
   have g4 := keepCell hbE g4
   have g5 := keepCell hbE g5
   have g6 := keepCell hbE g6
   have HB2 := Lib.hid (keepBel hbE HB2.out (by omega))
   have HK2 := Lib.hid (keepBlk hbE HK2.out)
   have hsE : w.heap.size + 3 ≤ wE.heap.size := Nat.le_trans hsB hbE.size
   have HW1 := Lib.hid (keepWd hbE HW1.out)
   have HW2 := Lib.hid (keepWd hbE HW2.out)
   clear hbE
   go_region_held3 (fun w' => w'.cell? ⟨w.heap.size, 0, none⟩ = some (.bool b1) ∧ w'.cell? ⟨w.heap.size, 1, none⟩ = some (.string s1) ∧ w'.cell? ⟨w.heap.size + 1, 0, none⟩ = some (.bool b2) ∧ w'.cell? ⟨w.heap.size + 1, 1, none⟩ = some (.string s2))
    (first
       | (go_keep; done)
       | ((try go_split_ands); (try dsimp only); (repeat' apply And.intro) <;> first | assumption | exact keepCell (by assumption) (by assumption) | exact keepSet (keepSet (by assumption) (by dsimp only; omega)) (by dsimp only; omega) | go_keep))
    (first
     | (go_at_call 51; refine (sub_any (dig WB z2.natAbs) (dig WB z1.natAbs) A2 A1 n2 n1 c2 c1 _ (dig_Dl WB_two _) (dig_Dl WB_two _) (wdDrew HW2.out) (wdDrew HW1.out) HL2.out HL1.out hn2' HLEN.out (by rw [val_dig WB_two, val_dig WB_two]; exact HLE.out)).mono ?_; rintro e wC ⟨A3, n3, c3, rfl, hl3, hn3, hc3, hw3, hb3⟩)
     | (go_at_call 43; rw [val_dig WB_two, val_dig WB_two, HA.out.1] at hl3 hw3; refine (wide_any (z1 + z2).natAbs A3 n3 c3 _ _ hw3 hl3 (by have := HLS.out; omega) hn3 (Nat.le_trans hc3 (by decide))).mono ?_; rintro e wD ⟨rfl, hb4⟩; unfold wv; have hr1 := keepCell hb4 (keepCell hb3 g5); have hr2 := keepCell hb4 (keepCell hb3 g6); have hr3 := keepFree hb4 (keepCell hb3 g5) (keepFree hb3 g5 g7); have hr4 := keepFree hb4 (keepCell hb3 g6) (keepFree hb3 g6 g8)))
   go_wp2
   have hblk := res_box2 (x := Value.bool (b2 && !decide (z1 + z2 = 0))) (y := .string ⟨(mag (z1 + z2).natAbs).toArray⟩) (keepBlk hb4 (keepBlk hb3 HK2.out))
   refine bodyPost_ret (results_cell_row rfl _ _ (w.heap.size + 2) 48 _ (0, 0) _ rfl hblk Tryd.underlying48 rfl (by kernel_rfl)) rfl ?_
   have e : (b2 && !decide (z1 + z2 = 0)) = (b2 && decide ((z1 + z2).natAbs ≠ 0)) := by cases b2 <;> simp
   rw [e]
   refine gives_wv rfl (fun h0 => HA.out.2 (by rw [HA.out.1]; exact h0)) HSM.out ?_
   have h3 := hb3.size
   have h3' : wE.heap.size ≤ wC.heap.size := h3
   exact ((keepBel hb4 (keepBel hb3 HB2.out.drew (by show _ ≤ wE.heap.size; omega)) (by omega)).setCell (p := ⟨w.heap.size + 2, 0, none⟩) (by simp) _).setCell (p := ⟨w.heap.size + 2, 1, none⟩) (by simp) _
  ·have HA := Lib.hid (add_ge H1.out H2.out hbb hlt)
   have HCM := Lib.hid (show ¬ cmpN z1.natAbs z2.natAbs < 0 by rcases Nat.lt_or_ge z2.natAbs z1.natAbs with h | h; rw [cmpN_gt h]; omega; rw [Nat.le_antisymm h (by omega), cmpN_self]; omega)
   have HLE := Lib.hid (show z2.natAbs ≤ z1.natAbs by omega)
   have HLEN : Hid (n2 ≤ n1) := by show n2 ≤ n1; rw [← HL1.out, ← HL2.out]; exact dig_len_mono WB_two (by omega)
   clear hbb hlt
   go_wp2_with (go_at_call 50; refine (cmp_any z1.natAbs z2.natAbs A1 A2 n1 n2 c1 c2 _ HW1.out HW2.out HL1.out HL2.out hn1' hn2').mono ?_; rintro e wE ⟨rfl, hbE⟩; have hcm := HCM.out)
   have g7 := keepFree hbE g5 g7
   have g8 := keepFree hbE g6 g8
   have g1 := keepCell hbE g1
   have g2 := keepCell hbE g2
   have g3 := keepCell hbE g3
   have g4 := keepCell hbE g4
   have g5 := keepCell hbE g5
   have g6 := keepCell hbE g6
   have HB2 := Lib.hid (keepBel hbE HB2.out (by omega))
   have HK2 := Lib.hid (keepBlk hbE HK2.out)
   have hsE : w.heap.size + 3 ≤ wE.heap.size := Nat.le_trans hsB hbE.size
   have HW1 := Lib.hid (keepWd hbE HW1.out)
   have HW2 := Lib.hid (keepWd hbE HW2.out)
   clear hbE
   go_region_held3 (fun w' => w'.cell? ⟨w.heap.size, 0, none⟩ = some (.bool b1) ∧ w'.cell? ⟨w.heap.size, 1, none⟩ = some (.string s1) ∧ w'.cell? ⟨w.heap.size + 1, 0, none⟩ = some (.bool b2) ∧ w'.cell? ⟨w.heap.size + 1, 1, none⟩ = some (.string s2))
    (first
       | (go_keep; done)
       | ((try go_split_ands); (try dsimp only); (repeat' apply And.intro) <;> first | assumption | exact keepCell (by assumption) (by assumption) | exact keepSet (keepSet (by assumption) (by dsimp only; omega)) (by dsimp only; omega) | go_keep))
    (first
     | (go_at_call 51; refine (sub_any (dig WB z1.natAbs) (dig WB z2.natAbs) A1 A2 n1 n2 c1 c2 _ (dig_Dl WB_two _) (dig_Dl WB_two _) (wdDrew HW1.out) (wdDrew HW2.out) HL1.out HL2.out hn1' HLEN.out (by rw [val_dig WB_two, val_dig WB_two]; exact HLE.out)).mono ?_; rintro e wC ⟨A3, n3, c3, rfl, hl3, hn3, hc3, hw3, hb3⟩)
     | (go_at_call 43; rw [val_dig WB_two, val_dig WB_two, HA.out.1] at hl3 hw3; refine (wide_any (z1 + z2).natAbs A3 n3 c3 _ _ hw3 hl3 (by have := HLS.out; omega) hn3 (Nat.le_trans hc3 (by decide))).mono ?_; rintro e wD ⟨rfl, hb4⟩; unfold wv; have hr1 := keepCell hb4 (keepCell hb3 g5); have hr2 := keepCell hb4 (keepCell hb3 g6); have hr3 := keepFree hb4 (keepCell hb3 g5) (keepFree hb3 g5 g7); have hr4 := keepFree hb4 (keepCell hb3 g6) (keepFree hb3 g6 g8)))
   go_wp2
   have hblk := res_box2 (x := Value.bool (b1 && !decide (z1 + z2 = 0))) (y := .string ⟨(mag (z1 + z2).natAbs).toArray⟩) (keepBlk hb4 (keepBlk hb3 HK2.out))
   refine bodyPost_ret (results_cell_row rfl _ _ (w.heap.size + 2) 48 _ (0, 0) _ rfl hblk Tryd.underlying48 rfl (by kernel_rfl)) rfl ?_
   have e : (b1 && !decide (z1 + z2 = 0)) = (b1 && decide ((z1 + z2).natAbs ≠ 0)) := by cases b1 <;> simp
   rw [e]
   refine gives_wv rfl (fun h0 => HA.out.2 (by rw [HA.out.1]; exact h0)) HSM.out ?_
   have h3 := hb3.size
   have h3' : wE.heap.size ≤ wC.heap.size := h3
   exact ((keepBel hb4 (keepBel hb3 HB2.out.drew (by show _ ≤ wE.heap.size; omega)) (by omega)).setCell (p := ⟨w.heap.size + 2, 0, none⟩) (by simp) _).setCell (p := ⟨w.heap.size + 2, 1, none⟩) (by simp) _
end Go.Proofs.YthmdmbpecgakkaaDoor

namespace Go.Proofs.YthmdmbpecgakkaaDoor
open Go.RowKit

set_option maxRecDepth 100000 in
set_option maxHeartbeats 1000000 in
theorem Sub_any {k1 k2 : Nat} {b1 b2 : Bool} {s1 s2 : ByteArray} {z1 z2 : Int} (h1 : Num k1 b1 s1 z1) (h2 : Num k2 b2 s2 z2) (hk1 : k1 ≤ 90000000) (hk2 : k2 ≤ 90000000) (w : World) :
  Calls Tryd.prog 28 #[.agg #[.bool b1, .string s1], .agg #[.bool b2, .string s2]] w (GivesW (k1 + k2 + 15) (z1 - z2) w) := by
 have H1 := Lib.hid h1
 have H2 := Lib.hid h2
 clear h1 h2
 go_enter Tryd.func28, Tryd.ntmps28
 go_wp2_with fail
 obtain ⟨W0, hW0⟩ : ∃ W0, W0 = ((w.alloc (.cells #[.bool b1, .string s1] 48)).alloc (.cells #[.bool b2, .string s2] 48)).alloc (.cells #[.bool false, .string ⟨#[]⟩] 48) := ⟨_, rfl⟩
 rw [← hW0]
 obtain ⟨f1, f2, f3, f4, f5, f6, f7, f8, hblk, hbel, hsz⟩ := box2res _ _ _ _ _ _ _ _ _ _ _ hW0
 clear hW0
 have HBLK := Lib.hid hblk
 have HSZ := Lib.hid hsz
 have HBEL := Lib.hid hbel
 clear hblk hsz hbel
 go_region_held3 (fun w' => w'.cell? ⟨w.heap.size, 0, none⟩ = some (.bool b1) ∧ w'.cell? ⟨w.heap.size, 1, none⟩ = some (.string s1) ∧ w'.cell? ⟨w.heap.size + 1, 0, none⟩ = some (.bool b2) ∧ w'.cell? ⟨w.heap.size + 1, 1, none⟩ = some (.string s2))
  (first
   | (go_keep; done)
   | ((try go_split_ands); (try dsimp only); (repeat' apply And.intro) <;> first | assumption | exact keepCell (by assumption) (by assumption) | exact keepSet (keepSet (by assumption) (by dsimp only; omega)) (by dsimp only; omega) | go_keep))
  (first
   | (go_at_call 48; refine (Neg_any H2.out (by omega) _).mono ?_; rintro e wA ⟨b3, s3, rfl, hc3, hn3, hb1⟩)
   | (go_at_call 29; refine (Add_any H1.out hn3 (by omega) (by omega) _).mono ?_; rintro e wD ⟨b4, s4, rfl, hc4, hn4, hb4⟩; have hr1 := keepCell hb4 (keepCell hb1 f5); have hr2 := keepCell hb4 (keepCell hb1 f6); have hr3 := keepFree hb4 (keepCell hb1 f5) (keepFree hb1 f5 f7); have hr4 := keepFree hb4 (keepCell hb1 f6) (keepFree hb1 f6 f8)))
 go_wp2
 have hblk := res_box2 (x := Value.bool b4) (y := .string s4) (keepBlk hb4 (keepBlk hb1 HBLK.out))
 refine bodyPost_ret (results_cell_row rfl _ _ (w.heap.size + 2) 48 _ (0, 0) _ rfl hblk Tryd.underlying48 rfl (by kernel_rfl)) rfl ?_
 have hsz := HSZ.out
 have h1 : w.heap.size + 3 ≤ wA.heap.size := by have := hb1.size; rw [← hsz]; exact this
 refine ⟨b4, s4, rfl, by rw [Int.sub_eq_add_neg]; exact hc4, by rw [Int.sub_eq_add_neg]; exact hn4.mono (by omega), ?_⟩
 exact ((keepBel hb4 (keepBel hb1 HBEL.out.drew (by show _ ≤ W0.heap.size; omega)) (by omega)).setCell (p := ⟨w.heap.size + 2, 0, none⟩) (by simp) _).setCell (p := ⟨w.heap.size + 2, 1, none⟩) (by simp) _

set_option maxRecDepth 100000 in
set_option maxHeartbeats 1000000 in
theorem From_any (n : Int) (hn1 : -9223372036854775808 ≤ n) (hn2 : n ≤ 9223372036854775807) (w : World) :
  Calls Tryd.prog 25 #[.int .i64 n] w (GivesW 71 n w) := by
 by_cases h0 : n < 0
 ·have hm : (IntKind.u64.wrap (-IntKind.u64.wrap n)) = ((n.natAbs : Nat) : Int) := by simp only [IntKind.wrap_u64]; omega
  have HM := Lib.hid hm
  clear hm
  go_enter Tryd.func25, Tryd.ntmps25
  go_wp2_with fail
  have hlt : n.natAbs < 18446744073709551616 := by omega
  obtain ⟨W0, hW0⟩ : ∃ W0, W0 = (w.alloc (.cells #[.bool false, .string ⟨#[]⟩] 48)).alloc (.cells #[.int .u64 (bits .and .u64 (IntKind.u64.wrap (-IntKind.u64.wrap n)) 4294967295), .int .u64 ((IntKind.u64.wrap (-IntKind.u64.wrap n)) / 4294967296)] 96) := ⟨_, rfl⟩
  rw [← hW0]
  obtain ⟨f5, f6, f7, f8, hblk, hblk2, hbel, hsz⟩ := box0res _ _ _ _ _ _ hW0
  clear hW0
  refine (wide_lst [n.natAbs % WB, n.natAbs / WB] _ 2 2 _ _ (dl_two hlt) (wd_two (and_mask _ n.natAbs HM.out hlt) (div_word _ n.natAbs HM.out) hblk2) rfl (by omega) (by omega) (by omega)).mono ?_
  rintro e wD ⟨rfl, hb4⟩
  rw [val_two]
  unfold wv
  have hr1 := keepCell hb4 f5
  have hr2 := keepCell hb4 f6
  have hr3 := keepFree hb4 f5 f7
  have hr4 := keepFree hb4 f6 f8
  have HB4 := Lib.hid (keepBel hb4 hbel (by omega))
  have HBLK := Lib.hid (keepBlk hb4 hblk)
  clear f5 f6 f7 f8 hblk hblk2 hbel hsz hb4
  go_wp2
  refine bodyPost_ret (results_cell_row rfl _ _ w.heap.size 48 _ (0, 0) _ rfl (res_box2 HBLK.out) Tryd.underlying48 rfl (by kernel_rfl)) rfl ?_
  have hz : Sm 64 n := Sm.int hn1 hn2
  exact gives_close (k := 64) true (n := n.natAbs) (by simp) rfl (fun h => by simp; omega) hz ((HB4.out.setCell (p := ⟨w.heap.size, 0, none⟩) (Nat.le_refl _) _).setCell (p := ⟨w.heap.size, 1, none⟩) (Nat.le_refl _) _)
 ·have hm : n = ((n.natAbs : Nat) : Int) := by omega
  have HM := Lib.hid hm
  clear hm
  go_enter Tryd.func25, Tryd.ntmps25
  go_wp2_with fail
  have hlt : n.natAbs < 18446744073709551616 := by omega
  obtain ⟨W0, hW0⟩ : ∃ W0, W0 = (w.alloc (.cells #[.bool false, .string ⟨#[]⟩] 48)).alloc (.cells #[.int .u64 (bits .and .u64 n 4294967295), .int .u64 (n / 4294967296)] 96) := ⟨_, rfl⟩
  rw [← hW0]
  obtain ⟨f5, f6, f7, f8, hblk, hblk2, hbel, hsz⟩ := box0res _ _ _ _ _ _ hW0
  clear hW0
  refine (wide_lst [n.natAbs % WB, n.natAbs / WB] _ 2 2 _ _ (dl_two hlt) (wd_two (and_mask _ n.natAbs HM.out hlt) (div_word _ n.natAbs HM.out) hblk2) rfl (by omega) (by omega) (by omega)).mono ?_
  rintro e wD ⟨rfl, hb4⟩
  rw [val_two]
  unfold wv
  have hr1 := keepCell hb4 f5
  have hr2 := keepCell hb4 f6
  have hr3 := keepFree hb4 f5 f7
  have hr4 := keepFree hb4 f6 f8
  have HB4 := Lib.hid (keepBel hb4 hbel (by omega))
  have HBLK := Lib.hid (keepBlk hb4 hblk)
  clear f5 f6 f7 f8 hblk hblk2 hbel hsz hb4
  go_wp2
  refine bodyPost_ret (results_cell_row rfl _ _ w.heap.size 48 _ (0, 0) _ rfl (res_box2 HBLK.out) Tryd.underlying48 rfl (by kernel_rfl)) rfl ?_
  have hz : Sm 64 n := Sm.int hn1 hn2
  exact gives_close (k := 64) false (n := n.natAbs) (by simp) rfl (fun h => by simp; omega) hz ((HB4.out.setCell (p := ⟨w.heap.size, 0, none⟩) (Nat.le_refl _) _).setCell (p := ⟨w.heap.size, 1, none⟩) (Nat.le_refl _) _)
end Go.Proofs.YthmdmbpecgakkaaDoor

namespace Go.Proofs.YthmdmbpecgakkaaDoor
open Go.RowKit

set_option maxRecDepth 100000 in
set_option maxHeartbeats 1000000 in
theorem Sign_any {k1 : Nat} {b1 : Bool} {s1 : ByteArray} {z1 : Int} (h1 : Num k1 b1 s1 z1) (hk1 : k1 ≤ 1000000000) (w : World) :
  Calls Tryd.prog 44 #[.agg #[.bool b1, .string s1]] w fun e w' => e = .returned (.int .i64 z1.sign) ∧ Below w.heap.size w w' := by
 have H1 := Lib.hid h1
 clear h1
 go_enter Tryd.func44, Tryd.ntmps44
 go_wp2_with fail
 refine (abs_num H1.out (by omega) _).mono ?_
 rintro e wA ⟨A1, n1, c1, rfl, hl1, hn1, hc1, hw1, hb1⟩
 have hz : (n1 = 0 ↔ z1 = 0) := by rw [← hl1, dig_len_zero WB_two]; omega
 have HZ := Lib.hid hz
 have g1 : wA.cell? ⟨w.heap.size, 0, none⟩ = some (.bool b1) := keepCell hb1 (by simp [go_sem])
 have HB : Hid (Below w.heap.size w wA) := keepBel hb1 ((Below.refl _ w).alloc (Nat.le_refl _) _) (by simp)
 clear hz hl1 hn1 hc1 hw1 hb1
 by_cases hn : n1 = 0
 ·have HZ0 := Lib.hid (HZ.out.1 hn)
  have hnb : ((n1 : Int) == 0) = true := by simpa using hn
  clear hn
  go_wp2_with fail
  go_ret
  exact ⟨ret_eq (by rw [HZ0.out]; rfl), HB.out⟩
 ·have hnb : ((n1 : Int) == 0) = false := by simpa using hn
  have hz1 : z1 ≠ 0 := fun e => hn (HZ.out.2 e)
  have HI := Lib.hid (ival_neg_iff H1.out hz1)
  clear hn hz1
  cases b1
  ·go_wp2_with fail
   go_ret
   have hi := HI.out
   refine ⟨ret_eq ?_, HB.out⟩
   have : 0 < z1 := by simp at hi; have := mt HZ.out.2 (by intro h; rw [h] at hnb; simp at hnb); omega
   rw [Int.sign_eq_one_of_pos this]; rfl
  ·go_wp2_with fail
   go_ret
   have hi := HI.out
   refine ⟨ret_eq ?_, HB.out⟩
   have : z1 < 0 := by simpa using hi
   rw [Int.sign_eq_neg_one_of_neg this]; rfl

set_option maxRecDepth 100000 in
set_option maxHeartbeats 1000000 in
theorem Cmp_any {k1 k2 : Nat} {b1 b2 : Bool} {s1 s2 : ByteArray} {z1 z2 : Int} (h1 : Num k1 b1 s1 z1) (h2 : Num k2 b2 s2 z2) (hk1 : k1 ≤ 90000000) (hk2 : k2 ≤ 90000000) (w : World) :
  Calls Tryd.prog 26 #[.agg #[.bool b1, .string s1], .agg #[.bool b2, .string s2]] w fun e w' => e = .returned (.int .i64 (z1 - z2).sign) ∧ Below w.heap.size w w' := by
 have H1 := Lib.hid h1
 have H2 := Lib.hid h2
 clear h1 h2
 go_enter Tryd.func26, Tryd.ntmps26
 go_wp2_with fail
 refine (Sub_any H1.out H2.out hk1 hk2 _).mono ?_
 rintro e wA ⟨b3, s3, rfl, hc3, hn3, hb1⟩
 have HN := Lib.hid hn3
 have HB : Hid (Below w.heap.size w wA) := keepBel hb1 (((Below.refl _ w).alloc (Nat.le_refl _) _).alloc (by simp) _) (by simp; omega)
 have HS : Hid (w.heap.size ≤ wA.heap.size) := HB.out.size
 clear hn3 hc3 hb1
 go_wp2_with fail
 refine (Sign_any HN.out (by omega) _).mono ?_
 rintro e wB ⟨rfl, hb2⟩
 have HB2 := Lib.hid (keepBel hb2 HB.out HS.out)
 clear hb2
 go_wp2_with fail
 go_ret
 exact ⟨rfl, HB2.out⟩

end Go.Proofs.YthmdmbpecgakkaaDoor
