/- Plain mathematics: digits, bytes, integers. No program in sight. -/
namespace Go.Proofs.YtapppahniablmaaDoor
/-- the value of little-endian digits to the base B -/
def val (B : Nat) : List Nat → Nat
  | [] => 0
  | d :: l => d + B * val B l

/-- the canonical digits of a number, the least significant one first, without zeros at the end (B at least 2) -/
def dig (B : Nat) (n : Nat) : List Nat :=
  if _h : n = 0 ∨ B < 2 then [] else n % B :: dig B (n / B)
termination_by n
decreasing_by exact Nat.div_lt_self (by omega) (by omega)

/-- the length without the zeros at the end -/
def tlen : List Nat → Nat
  | [] => 0
  | d :: l => if tlen l = 0 ∧ d = 0 then 0 else tlen l + 1

def Dl (B : Nat) (l : List Nat) : Prop := ∀ d ∈ l, d < B

theorem dig_zero (B : Nat) : dig B 0 = [] := by unfold dig; simp
theorem dig_pos {B n : Nat} (hB : 2 ≤ B) (hn : 0 < n) : dig B n = n % B :: dig B (n / B) := by
  rw [dig]; rw [dif_neg (by omega)]
theorem val_nil (B : Nat) : val B [] = 0 := rfl
theorem val_cons (B d : Nat) (l : List Nat) : val B (d :: l) = d + B * val B l := rfl

theorem val_dig {B : Nat} (hB : 2 ≤ B) (n : Nat) : val B (dig B n) = n := by
  induction n using Nat.strongRecOn with
  | _ n ih =>
    rcases Nat.eq_zero_or_pos n with h | h
    · subst h; rw [dig_zero]; rfl
    · rw [dig_pos hB h, val_cons, ih _ (Nat.div_lt_self h (by omega))]
      exact Nat.mod_add_div n B

theorem dig_Dl {B : Nat} (hB : 2 ≤ B) (n : Nat) : Dl B (dig B n) := by
  induction n using Nat.strongRecOn with
  | _ n ih =>
    rcases Nat.eq_zero_or_pos n with h | h
    · subst h; rw [dig_zero]; intro d hd; cases hd
    · rw [dig_pos hB h]
      intro d hd
      rcases List.mem_cons.1 hd with h1 | h1
      · subst h1; exact Nat.mod_lt _ (by omega)
      · exact ih _ (Nat.div_lt_self h (by omega)) d h1

theorem Dl.nil (B : Nat) : Dl B [] := fun d h => by cases h
theorem Dl.tail {B d : Nat} {l : List Nat} (h : Dl B (d :: l)) : Dl B l := fun x hx => h x (List.mem_cons_of_mem _ hx)
theorem Dl.head {B d : Nat} {l : List Nat} (h : Dl B (d :: l)) : d < B := h d (List.mem_cons_self ..)
theorem Dl.take {B : Nat} {l : List Nat} (h : Dl B l) (k : Nat) : Dl B (l.take k) := fun x hx => h x (List.mem_of_mem_take hx)
theorem Dl.drop {B : Nat} {l : List Nat} (h : Dl B l) (k : Nat) : Dl B (l.drop k) := fun x hx => h x (List.mem_of_mem_drop hx)
theorem Dl.append {B : Nat} {l m : List Nat} (h : Dl B l) (h' : Dl B m) : Dl B (l ++ m) := fun x hx => (List.mem_append.1 hx).elim (h x) (h' x)
theorem Dl.one {B d : Nat} (h : d < B) : Dl B [d] := fun x hx => by simp at hx; omega
theorem Dl.get {B : Nat} {l : List Nat} (h : Dl B l) (i : Nat) (hi : i < l.length) : l[i] < B := h _ (List.getElem_mem hi)
theorem Dl.getD {B : Nat} {l : List Nat} (h : Dl B l) (hB : 0 < B) (i : Nat) : l.getD i 0 < B := by
  by_cases hi : i < l.length
  · rw [List.getD_eq_getElem?_getD, List.getElem?_eq_getElem hi]; exact h.get i hi
  · rw [List.getD_eq_getElem?_getD, List.getElem?_eq_none (by omega)]; simpa using hB
theorem Dl.set {B : Nat} {l : List Nat} (h : Dl B l) (i : Nat) {v : Nat} (hv : v < B) : Dl B (l.set i v) := fun x hx => by
  rcases List.mem_or_eq_of_mem_set hx with h1 | h1
  · exact h x h1
  · omega
theorem Dl.replicate {B : Nat} (hB : 0 < B) (n : Nat) : Dl B (List.replicate n 0) := fun x hx => by
  rw [List.mem_replicate] at hx; omega

theorem val_append (B : Nat) (l m : List Nat) : val B (l ++ m) = val B l + B ^ l.length * val B m := by
  induction l with
  | nil => simp [val]
  | cons d l ih => simp only [List.cons_append, val_cons, ih, List.length_cons, Nat.pow_succ, Nat.mul_add]; rw [Nat.mul_comm (B ^ l.length) B, Nat.mul_assoc]; omega

theorem val_lt {B : Nat} {l : List Nat} (h : Dl B l) : val B l < B ^ l.length := by
  induction l with
  | nil => simp [val]
  | cons d l ih =>
    have h1 := ih h.tail
    have h2 := h.head
    simp only [val_cons, List.length_cons, Nat.pow_succ]
    calc d + B * val B l < B + B * val B l := by omega
      _ = B * (val B l + 1) := by rw [Nat.mul_add]; omega
      _ ≤ B * B ^ l.length := Nat.mul_le_mul_left _ h1
      _ = B ^ l.length * B := Nat.mul_comm _ _

theorem val_replicate (B n : Nat) : val B (List.replicate n 0) = 0 := by
  induction n with
  | zero => rfl
  | succ n ih => rw [List.replicate_succ, val_cons, ih]; simp

theorem val_take_succ (B : Nat) (l : List Nat) (k : Nat) (hk : k < l.length) : val B (l.take (k + 1)) = val B (l.take k) + B ^ k * l[k] := by
  rw [List.take_succ_eq_append_getElem hk, val_append, val_cons, val_nil, List.length_take]
  rw [Nat.min_eq_left (by omega)]; simp

theorem val_split (B : Nat) (l : List Nat) (k : Nat) : val B l = val B (l.take k) + B ^ (min k l.length) * val B (l.drop k) := by
  conv => lhs; rw [← List.take_append_drop k l]
  rw [val_append, List.length_take]

theorem val_drop (B : Nat) (l : List Nat) (k : Nat) (hk : k < l.length) : val B (l.drop k) = l[k] + B * val B (l.drop (k + 1)) := by
  rw [List.drop_eq_getElem_cons hk, val_cons]

theorem val_set (B : Nat) (l : List Nat) (i v : Nat) (hi : i < l.length) : val B (l.set i v) + B ^ i * l[i] = val B l + B ^ i * v := by
  induction l generalizing i with
  | nil => simp at hi
  | cons d l ih =>
    cases i with
    | zero => simp only [List.set_cons_zero, val_cons, List.getElem_cons_zero, Nat.pow_zero, Nat.one_mul]; omega
    | succ i =>
      simp only [List.length_cons] at hi
      have := ih i (by omega)
      simp only [List.set_cons_succ, val_cons, List.getElem_cons_succ, Nat.pow_succ]
      have e1 : B ^ i * B * l[i] = B * (B ^ i * l[i]) := by rw [Nat.mul_comm (B ^ i) B, Nat.mul_assoc]
      have e2 : B ^ i * B * v = B * (B ^ i * v) := by rw [Nat.mul_comm (B ^ i) B, Nat.mul_assoc]
      rw [e1, e2]
      have := congrArg (B * ·) this
      simp only [Nat.mul_add] at this
      omega

theorem tlen_le (l : List Nat) : tlen l ≤ l.length := by
  induction l with
  | nil => simp [tlen]
  | cons d l ih => simp only [tlen, List.length_cons]; split <;> omega

theorem take_tlen {B : Nat} (hB : 2 ≤ B) {l : List Nat} (h : Dl B l) : l.take (tlen l) = dig B (val B l) := by
  induction l with
  | nil => simp [tlen, val_nil, dig_zero]
  | cons d l ih =>
    have ih := ih h.tail
    have hd := h.head
    simp only [tlen]
    split
    · rename_i hz
      obtain ⟨h0, rfl⟩ := hz
      rw [h0] at ih
      have : val B l = 0 := by
        have := val_dig hB (val B l)
        rw [← ih] at this
        simpa [val] using this.symm
      simp [val_cons, this, dig_zero]
    · rename_i hz
      rw [List.take_succ_cons]
      have hpos : 0 < val B (d :: l) := by
        rw [val_cons]
        rcases Nat.eq_zero_or_pos d with h0 | h0
        · have h1 : tlen l ≠ 0 := fun h1 => hz ⟨h1, h0⟩
          have : 0 < val B l := by
            rcases Nat.eq_zero_or_pos (val B l) with h2 | h2
            · rw [h2, dig_zero] at ih
              have h3 := congrArg List.length ih
              have := tlen_le l
              simp at h3
              rcases h3 with h3 | h3
              · omega
              · subst h3; simp [tlen] at h1
            · exact h2
          have := Nat.mul_le_mul hB (show 1 ≤ val B l from this)
          omega
        · omega
      rw [dig_pos hB hpos, val_cons, Nat.add_mul_mod_self_left, Nat.mod_eq_of_lt hd, Nat.add_mul_div_left _ _ (by omega), Nat.div_eq_of_lt hd, Nat.zero_add, ih]

theorem tlen_eq {l : List Nat} {k : Nat} (hk : k ≤ l.length) (h0 : ∀ j, k ≤ j → l.getD j 0 = 0) (h1 : k = 0 ∨ l.getD (k - 1) 0 ≠ 0) : tlen l = k := by
  induction l generalizing k with
  | nil => simp at hk; simp [tlen, hk]
  | cons d l ih =>
    simp only [tlen]
    cases k with
    | zero =>
      have hd : d = 0 := by simpa using h0 0 (Nat.le_refl _)
      have := ih (k := 0) (by omega) (fun j _ => by simpa using h0 (j + 1) (by omega)) (Or.inl rfl)
      rw [if_pos ⟨this, hd⟩]
    | succ k =>
      simp only [List.length_cons] at hk
      have hz : ∀ j, k ≤ j → l.getD j 0 = 0 := fun j hj => by simpa using h0 (j + 1) (by omega)
      rcases Nat.eq_zero_or_pos k with rfl | hp
      · have := ih (k := 0) (by omega) hz (Or.inl rfl)
        have hd : d ≠ 0 := by simpa using h1
        rw [if_neg (by omega), this]
      · have := ih (k := k) (by omega) hz (Or.inr (by
          rcases h1 with h1 | h1
          · omega
          · obtain ⟨m, rfl⟩ : ∃ m, k = m + 1 := ⟨k - 1, by omega⟩
            simpa using h1))
        rw [if_neg (by omega), this]

theorem dig_unique {B : Nat} (hB : 2 ≤ B) {l : List Nat} (h : Dl B l) (hl : l = [] ∨ l.getD (l.length - 1) 0 ≠ 0) : dig B (val B l) = l := by
  rw [← take_tlen hB h, tlen_eq (k := l.length) (Nat.le_refl _) (fun j hj => by rw [List.getD_eq_getElem?_getD, List.getElem?_eq_none hj]; rfl) (by
    rcases hl with rfl | hl
    · simp
    · exact Or.inr hl), List.take_length]

theorem dig_last {B : Nat} (hB : 2 ≤ B) (n : Nat) (hn : 0 < n) : (dig B n).getD ((dig B n).length - 1) 0 ≠ 0 := by
  induction n using Nat.strongRecOn with
  | _ n ih =>
    rw [dig_pos hB hn]
    rcases Nat.eq_zero_or_pos (n / B) with h | h
    · rw [h, dig_zero]
      have := Nat.div_eq_zero_iff.1 h
      simp
      have := Nat.mod_eq_of_lt (show n < B by omega)
      omega
    · have h1 := ih _ (Nat.div_lt_self hn (by omega)) h
      have h2 : 0 < (dig B (n / B)).length := by rw [dig_pos hB h]; simp
      obtain ⟨m, hm⟩ : ∃ m, (dig B (n / B)).length = m + 1 := ⟨(dig B (n / B)).length - 1, by omega⟩
      rw [hm] at h1
      simp only [List.length_cons, hm]
      simpa using h1

theorem dig_length_le {B : Nat} (hB : 2 ≤ B) {n k : Nat} (h : n < B ^ k) : (dig B n).length ≤ k := by
  induction k generalizing n with
  | zero => have : n = 0 := by simpa using h
            subst this; simp [dig_zero]
  | succ k ih =>
    rcases Nat.eq_zero_or_pos n with rfl | hn
    · simp [dig_zero]
    · rw [dig_pos hB hn, List.length_cons]
      have := ih (n := n / B) (by rw [Nat.div_lt_iff_lt_mul (by omega), ← Nat.pow_succ]; exact h)
      omega

theorem lt_of_dig_length {B : Nat} (hB : 2 ≤ B) (n : Nat) : n < B ^ (dig B n).length := by
  have := val_lt (dig_Dl hB n)
  rwa [val_dig hB] at this

theorem le_of_dig_length {B : Nat} (hB : 2 ≤ B) {n : Nat} (hn : 0 < n) : B ^ ((dig B n).length - 1) ≤ n := by
  rcases Nat.lt_or_ge n (B ^ ((dig B n).length - 1)) with h | h
  · have h1 := dig_length_le hB h
    have h2 : 0 < (dig B n).length := by rw [dig_pos hB hn]; simp
    omega
  · exact h

theorem dig_eq_nil {B : Nat} (hB : 2 ≤ B) {n : Nat} : dig B n = [] ↔ n = 0 := by
  constructor
  · intro h
    have := val_dig hB n
    rw [h] at this
    exact this.symm
  · rintro rfl; exact dig_zero B
theorem dig_len_zero {B : Nat} (hB : 2 ≤ B) {n : Nat} : (dig B n).length = 0 ↔ n = 0 := by
  rw [List.length_eq_zero_iff]; exact dig_eq_nil hB

theorem dig_len_mono {B : Nat} (hB : 2 ≤ B) {m n : Nat} (h : m ≤ n) : (dig B m).length ≤ (dig B n).length :=
  dig_length_le hB (Nat.lt_of_le_of_lt h (lt_of_dig_length hB n))
/-- comparing: fewer digits, a smaller number -/
theorem lt_of_len_lt {B : Nat} (hB : 2 ≤ B) {m n : Nat} (h : (dig B m).length < (dig B n).length) : m < n := by
  have h1 := lt_of_dig_length hB m
  have hn : 0 < n := by
    rcases Nat.eq_zero_or_pos n with rfl | h0
    · rw [dig_zero] at h; simp at h
    · exact h0
  have h2 := le_of_dig_length hB hn
  have := Nat.pow_le_pow_right (show 0 < B by omega) (show (dig B m).length ≤ (dig B n).length - 1 by omega)
  omega

theorem val_lt_of_digit {B : Nat} {l m : List Nat} (hl : Dl B l) (hlen : l.length = m.length) {i : Nat} (hi : i < l.length) (hs : l.drop (i + 1) = m.drop (i + 1)) (hd : l[i] < m[i]'(by omega)) : val B l < val B m := by
  rw [val_split B l i, val_split B m i, val_drop B l i hi, val_drop B m i (by omega), hs, Nat.min_eq_left (by omega), Nat.min_eq_left (by omega)]
  have h1 := val_lt (hl.take i)
  rw [List.length_take, Nat.min_eq_left (by omega)] at h1
  have h2 : B ^ i * (l[i] + B * val B (m.drop (i + 1))) + B ^ i ≤ B ^ i * (m[i]'(by omega) + B * val B (m.drop (i + 1))) := by
    rw [← Nat.mul_succ]
    exact Nat.mul_le_mul_left _ (by omega)
  omega
theorem val_take_succ' (B : Nat) (l : List Nat) (k : Nat) : val B (l.take (k + 1)) = val B (l.take k) + B ^ k * (l[k]?.getD 0) := by
  by_cases hk : k < l.length
  · rw [val_take_succ B l k hk, List.getElem?_eq_getElem hk]; rfl
  · rw [List.take_of_length_le (by omega), List.take_of_length_le (by omega), List.getElem?_eq_none (by omega)]; simp

theorem take_set_succ (l : List Nat) (k v : Nat) (hk : k < l.length) : (l.set k v).take (k + 1) = l.take k ++ [v] := by
  rw [List.take_succ_eq_append_getElem (by simpa using hk), List.take_set_of_le (Nat.le_refl k)]; simp

theorem val_take_set (B : Nat) (l : List Nat) (k v : Nat) (hk : k < l.length) : val B ((l.set k v).take (k + 1)) = val B (l.take k) + B ^ k * v := by
  rw [take_set_succ l k v hk, val_append, List.length_take, Nat.min_eq_left (by omega)]; simp [val]

/-- one step of an addition -/
theorem add_step {B : Nat} {a b l : List Nat} {k c x y : Nat} (hk : k < l.length)
    (hx : a[k]?.getD 0 = x) (hy : b[k]?.getD 0 = y) (h : val B (l.take k) + B ^ k * c = val B (a.take k) + val B (b.take k)) :
    val B ((l.set k ((x + c + y) % B)).take (k + 1)) + B ^ (k + 1) * ((x + c + y) / B) = val B (a.take (k + 1)) + val B (b.take (k + 1)) := by
  rw [val_take_set B l k _ hk, val_take_succ', val_take_succ', hx, hy, Nat.pow_succ, Nat.mul_assoc]
  have : B ^ k * ((x + c + y) % B) + B ^ k * (B * ((x + c + y) / B)) = B ^ k * x + B ^ k * c + B ^ k * y := by
    rw [← Nat.mul_add, Nat.mod_add_div, Nat.mul_add, Nat.mul_add]
  omega

/-- one step of a subtraction: the new digit and the new borrow -/
theorem sub_step {B : Nat} {a b l : List Nat} {k c x y d c' : Nat} (hk : k < l.length)
    (hx : a[k]?.getD 0 = x) (hy : b[k]?.getD 0 = y) (hd : d + c + y = x + B * c') (h' : val B (l.take k) + val B (b.take k) = val B (a.take k) + B ^ k * c) :
    val B ((l.set k d).take (k + 1)) + val B (b.take (k + 1)) = val B (a.take (k + 1)) + B ^ (k + 1) * c' := by
  rw [val_take_set B l k _ hk, val_take_succ', val_take_succ', hx, hy, Nat.pow_succ, Nat.mul_assoc]
  have := congrArg (B ^ k * ·) hd
  simp only [Nat.mul_add] at this
  omega

theorem getD_get {l : List Nat} {i : Nat} (h : i < l.length) : l[i]?.getD 0 = l[i] := by rw [List.getElem?_eq_getElem h]; rfl
theorem val_setD (B : Nat) (l : List Nat) (i v : Nat) (hi : i < l.length) : val B (l.set i v) + B ^ i * l[i]?.getD 0 = val B l + B ^ i * v := by
  rw [getD_get hi]; exact val_set B l i v hi
/-- the two halves of a word that is shifted to the left -/
theorem shl_word {x n u : Nat} (hx : x < 4294967296) (hn : n < 32) (hu : u < 2 ^ n) :
    x * 2 ^ n < 18446744073709551616 ∧ u ||| (x * 2 ^ n % 4294967296) = u + x * 2 ^ n % 4294967296 ∧ u + x * 2 ^ n % 4294967296 < 4294967296 ∧ x * 2 ^ n / 4294967296 < 2 ^ n := by
  have hB : 4294967296 = 2 ^ n * 2 ^ (32 - n) := by
    rw [← Nat.pow_add, show n + (32 - n) = 32 from by omega]
  have hm : x * 2 ^ n % 4294967296 = 2 ^ n * (x % 2 ^ (32 - n)) := by
    rw [Nat.mul_comm]; conv => lhs; rw [hB]
    exact Nat.mul_mod_mul_left _ _ _
  have hq : x % 2 ^ (32 - n) < 2 ^ (32 - n) := Nat.mod_lt _ (Nat.pow_pos (by omega))
  have hle : 2 ^ n * (x % 2 ^ (32 - n) + 1) ≤ 4294967296 := by
    conv => rhs; rw [hB]
    exact Nat.mul_le_mul_left _ hq
  have hP : 2 ^ n ≤ 2 ^ 31 := Nat.pow_le_pow_right (by omega) (by omega)
  refine ⟨?_, ?_, ?_, ?_⟩
  · have := Nat.mul_le_mul (show x ≤ 4294967295 by omega) hP
    omega
  · rw [hm, Nat.or_comm, Nat.mul_comm, ← Nat.shiftLeft_eq, ← Nat.shiftLeft_add_eq_or_of_lt hu]; omega
  · rw [hm]; rw [Nat.mul_add] at hle; omega
  · rw [Nat.div_lt_iff_lt_mul (by omega), Nat.mul_comm (2 ^ n)]
    exact Nat.mul_lt_mul_of_pos_right hx (Nat.pow_pos (by omega))

/-- one step of a shift to the left -/
theorem shl_step {B : Nat} {a l : List Nat} {k n : Nat} (hk : k + 1 < l.length) (hz : l[k + 1]?.getD 0 = 0) (h : val B l = val B (a.take k) * 2 ^ n) :
    val B ((l.set k (l[k]?.getD 0 + (a[k]?.getD 0) * 2 ^ n % B)).set (k + 1) ((a[k]?.getD 0) * 2 ^ n / B)) = val B (a.take (k + 1)) * 2 ^ n := by
  have h1 := val_setD B l k (l[k]?.getD 0 + (a[k]?.getD 0) * 2 ^ n % B) (by omega)
  have h2 := val_setD B (l.set k (l[k]?.getD 0 + (a[k]?.getD 0) * 2 ^ n % B)) (k + 1) ((a[k]?.getD 0) * 2 ^ n / B) (by rw [List.length_set]; exact hk)
  rw [List.getElem?_set_ne (by omega), hz, Nat.mul_zero, Nat.add_zero] at h2
  rw [h2, val_take_succ', Nat.add_mul, ← h, Nat.mul_assoc]
  rw [Nat.mul_add] at h1
  have h3 : B ^ k * (a[k]?.getD 0 * 2 ^ n % B) + B ^ (k + 1) * (a[k]?.getD 0 * 2 ^ n / B) = B ^ k * (a[k]?.getD 0 * 2 ^ n) := by
    rw [Nat.pow_succ, Nat.mul_assoc, ← Nat.mul_add, Nat.mod_add_div]
  omega

/-- the two halves of a word that is shifted to the right -/
theorem shr_word {x n u : Nat} (hx : x < 4294967296) (hn : n < 32) (hu : u < 2 ^ (32 - n)) :
    x * 2 ^ (32 - n) < 18446744073709551616 ∧ x / 2 ^ n < 2 ^ (32 - n) ∧ u ||| (x * 2 ^ (32 - n) % 4294967296) = u + 2 ^ (32 - n) * (x % 2 ^ n) ∧ u + 2 ^ (32 - n) * (x % 2 ^ n) < 4294967296 := by
  have hB : 4294967296 = 2 ^ (32 - n) * 2 ^ n := by
    rw [← Nat.pow_add, show 32 - n + n = 32 from by omega]
  have hm : x * 2 ^ (32 - n) % 4294967296 = 2 ^ (32 - n) * (x % 2 ^ n) := by
    rw [Nat.mul_comm]; conv => lhs; rw [hB]
    exact Nat.mul_mod_mul_left _ _ _
  have hq : x % 2 ^ n < 2 ^ n := Nat.mod_lt _ (Nat.pow_pos (by omega))
  have hle : 2 ^ (32 - n) * (x % 2 ^ n + 1) ≤ 4294967296 := by
    conv => rhs; rw [hB]
    exact Nat.mul_le_mul_left _ hq
  have hP : 2 ^ (32 - n) ≤ 2 ^ 32 := Nat.pow_le_pow_right (by omega) (by omega)
  refine ⟨?_, ?_, ?_, ?_⟩
  · have := Nat.mul_le_mul (show x ≤ 4294967295 by omega) hP
    omega
  · rw [Nat.div_lt_iff_lt_mul (Nat.pow_pos (by omega)), ← hB]; exact hx
  · rw [hm, Nat.or_comm, Nat.mul_comm, ← Nat.shiftLeft_eq, ← Nat.shiftLeft_add_eq_or_of_lt hu]; omega
  · rw [Nat.mul_add] at hle; omega

/-- one step of a shift to the right, behind the first one -/
theorem shr_step {a l : List Nat} {k n : Nat} (hn : n < 32) (hk0 : 0 < k) (hk : k < l.length) (hz : l[k]?.getD 0 = 0) (h : val 4294967296 l = val 4294967296 (a.take k) / 2 ^ n) :
    val 4294967296 ((l.set k (a[k]?.getD 0 / 2 ^ n)).set (k - 1) (l[k - 1]?.getD 0 + 2 ^ (32 - n) * (a[k]?.getD 0 % 2 ^ n))) = val 4294967296 (a.take (k + 1)) / 2 ^ n := by
  have h1 := val_setD 4294967296 l k (a[k]?.getD 0 / 2 ^ n) hk
  have h2 := val_setD 4294967296 (l.set k (a[k]?.getD 0 / 2 ^ n)) (k - 1) (l[k - 1]?.getD 0 + 2 ^ (32 - n) * (a[k]?.getD 0 % 2 ^ n)) (by rw [List.length_set]; omega)
  rw [hz, Nat.mul_zero, Nat.add_zero] at h1
  rw [List.getElem?_set_ne (by omega), Nat.mul_add] at h2
  rw [val_take_succ']
  generalize a[k]?.getD 0 = x at *
  have hB : 4294967296 = 2 ^ n * 2 ^ (32 - n) := by
    rw [← Nat.pow_add, show n + (32 - n) = 32 from by omega]
  have hk1 : 4294967296 ^ k = 4294967296 ^ (k - 1) * 4294967296 := by
    rw [← Nat.pow_succ, show (k - 1).succ = k from by omega]
  have e : 4294967296 ^ k * x = 2 ^ n * (2 ^ (32 - n) * (4294967296 ^ (k - 1) * x)) := by
    rw [hk1]
    generalize 4294967296 ^ (k - 1) = t
    rw [hB]
    generalize 2 ^ n = P
    generalize 2 ^ (32 - n) = Q
    grind
  have e2 : 2 ^ (32 - n) * (4294967296 ^ (k - 1) * x) = 4294967296 ^ k * (x / 2 ^ n) + 4294967296 ^ (k - 1) * (2 ^ (32 - n) * (x % 2 ^ n)) := by
    have hx := Nat.div_add_mod x (2 ^ n)
    rw [hk1]
    generalize 4294967296 ^ (k - 1) = t
    rw [hB]
    generalize x / 2 ^ n = d at *
    generalize x % 2 ^ n = m at *
    generalize 2 ^ n = P at *
    generalize 2 ^ (32 - n) = Q
    subst hx
    grind
  rw [e, Nat.add_mul_div_left _ _ (Nat.pow_pos (by omega)), ← h, e2]
  omega

/-- one step of a division by a word, from the most significant word on -/
theorem small_step {B d : Nat} {a l : List Nat} {k r : Nat} (hk : 0 < k) (hka : k ≤ a.length) (hkl : k ≤ l.length) (h : val B (a.drop k) = d * val B (l.drop k) + r) :
    val B (a.drop (k - 1)) = d * val B ((l.set (k - 1) ((r * B + a[k - 1]?.getD 0) / d)).drop (k - 1)) + (r * B + a[k - 1]?.getD 0) % d := by
  rw [val_drop B a (k - 1) (by omega), val_drop B _ (k - 1) (by rw [List.length_set]; omega), show k - 1 + 1 = k from by omega, List.getElem_set_self, List.drop_set, if_pos (by omega), h, getD_get (show k - 1 < a.length by omega), Nat.mul_add d]
  have h1 := Nat.div_add_mod (r * B + a[k - 1]) d
  have h2 : B * (d * val B (l.drop k) + r) = d * (B * val B (l.drop k)) + r * B := by grind
  omega
/-- one step of the inner loop of a multiplication -/
theorem mul_step {B : Nat} {b l : List Nat} {i k c x R : Nat} (hj : i + k < l.length)
    (h : val B l + B ^ (i + k) * c = R + x * val B (b.take k) * B ^ i) :
    val B (l.set (i + k) ((l[i + k]?.getD 0 + x * b[k]?.getD 0 + c) % B)) + B ^ (i + (k + 1)) * ((l[i + k]?.getD 0 + x * b[k]?.getD 0 + c) / B) = R + x * val B (b.take (k + 1)) * B ^ i := by
  have h1 := val_setD B l (i + k) ((l[i + k]?.getD 0 + x * b[k]?.getD 0 + c) % B) hj
  rw [val_take_succ']
  generalize l[i + k]?.getD 0 = u at *
  generalize b[k]?.getD 0 = y at *
  generalize hs : u + x * y + c = s at *
  have h2 : B ^ (i + k) * (s % B) + B ^ (i + (k + 1)) * (s / B) = B ^ (i + k) * s := by
    rw [show i + (k + 1) = i + k + 1 from rfl, Nat.pow_succ, Nat.mul_assoc, ← Nat.mul_add, Nat.mod_add_div]
  have h3 : B ^ (i + k) * s = B ^ (i + k) * u + B ^ (i + k) * (x * y) + B ^ (i + k) * c := by rw [← hs, Nat.mul_add, Nat.mul_add]
  have h4 : x * (val B (b.take k) + B ^ k * y) * B ^ i = x * val B (b.take k) * B ^ i + B ^ (i + k) * (x * y) := by
    rw [Nat.pow_add]; grind
  omega
/-- the end of the inner loop -/
theorem mul_row {B : Nat} {a b l : List Nat} {i c : Nat} (hj : i + b.length < l.length) (hz : l[i + b.length]?.getD 0 = 0)
    (h : val B l + B ^ (i + b.length) * c = val B (a.take i) * val B b + (a[i]?.getD 0) * val B (b.take b.length) * B ^ i) :
    val B (l.set (i + b.length) c) = val B (a.take (i + 1)) * val B b := by
  have h1 := val_setD B l (i + b.length) c hj
  rw [hz, Nat.mul_zero, Nat.add_zero] at h1
  rw [h1, h, List.take_length, val_take_succ']
  grind
theorem val_lt_of_getD {B : Nat} {l m : List Nat} (hl : Dl B l) (hlen : l.length = m.length) {k : Nat} (hk : 0 < k) (hkl : k ≤ l.length) (hs : l.drop k = m.drop k)
    (hd : l[k - 1]?.getD 0 < m[k - 1]?.getD 0) : val B l < val B m := by
  rw [List.getElem?_eq_getElem (by omega), List.getElem?_eq_getElem (by omega)] at hd
  exact val_lt_of_digit hl hlen (i := k - 1) (by omega) (by rw [show k - 1 + 1 = k from by omega]; exact hs) hd
theorem drop_pred {l m : List Nat} (hlen : l.length = m.length) {k : Nat} (hk : 0 < k) (hkl : k ≤ l.length) (hs : l.drop k = m.drop k)
    (hd : l[k - 1]?.getD 0 = m[k - 1]?.getD 0) : l.drop (k - 1) = m.drop (k - 1) := by
  rw [List.getElem?_eq_getElem (by omega), List.getElem?_eq_getElem (by omega)] at hd
  simp only [Option.getD_some] at hd
  rw [List.drop_eq_getElem_cons (by omega), List.drop_eq_getElem_cons (l := m) (by omega), show k - 1 + 1 = k from by omega, hs, hd]

theorem isqrt_step {x r q s : Nat} (hr : 0 < r) (hq : q = x / r) (hs : s = (r + q) / 2) : x < (s + 1) * (s + 1) := by
  have h1 : x < (q + 1) * r := by rw [hq, Nat.mul_comm]; exact Nat.lt_mul_div_succ x hr
  have h2 : r + q ≤ 2 * s + 1 := by omega
  have h3 : 4 * ((q + 1) * r) ≤ (q + 1 + r) * (q + 1 + r) := by
    generalize q + 1 = t
    rcases Nat.le_total t r with h | h
    · obtain ⟨d, rfl⟩ := Nat.le.dest h
      have e : (t + (t + d)) * (t + (t + d)) = 4 * (t * (t + d)) + d * d := by grind
      omega
    · obtain ⟨d, rfl⟩ := Nat.le.dest h
      have e : (r + d + r) * (r + d + r) = 4 * ((r + d) * r) + d * d := by grind
      omega
  have h4 : (q + 1 + r) * (q + 1 + r) ≤ (2 * s + 2) * (2 * s + 2) := Nat.mul_le_mul (by omega) (by omega)
  have h5 : (2 * s + 2) * (2 * s + 2) = 4 * ((s + 1) * (s + 1)) := by
    have : 2 * s + 2 = 2 * (s + 1) := by omega
    rw [this, Nat.mul_mul_mul_comm]
  omega

theorem knuth_up {U V U3 V2 X g ul vl : Nat} (hV : V = V2 * X + vl) (hvl : vl < X) (hU : U = U3 * X + ul) (hg : g * V2 ≤ U3) (hgX : g * X ≤ V) (hV0 : 0 < V) : g * V < U + V := by
  have h1 : g * V = g * V2 * X + g * vl := by rw [hV, Nat.mul_add, Nat.mul_assoc]
  have h2 : g * V2 * X ≤ U3 * X := Nat.mul_le_mul_right _ hg
  rcases Nat.eq_zero_or_pos g with h0 | h0
  · subst h0; simp; omega
  · have : g * vl < g * X := Nat.mul_lt_mul_of_pos_left hvl h0
    omega
theorem knuth_start {U V two top Y g ul vl : Nat} (hV : V = top * Y + vl) (hU : U = two * Y + ul) (hul : ul < Y) (hg : g = two / top) (ht : 0 < top) : U < (g + 1) * V := by
  have h1 : two < (g + 1) * top := by rw [hg, Nat.mul_comm]; exact Nat.lt_mul_div_succ two ht
  have h2 : (two + 1) * Y ≤ (g + 1) * top * Y := Nat.mul_le_mul_right _ h1
  have h3 : (g + 1) * V = (g + 1) * top * Y + (g + 1) * vl := by rw [hV, Nat.mul_add, Nat.mul_assoc]
  have h4 : (two + 1) * Y = two * Y + Y := by rw [Nat.add_mul]; omega
  omega
theorem knuth_round {U V U3 V2 X g ul vl : Nat} (hV : V = V2 * X + vl) (hU : U = U3 * X + ul) (hul : ul < X) (hg : U3 < g * V2) : U < g * V := by
  have h2 : (U3 + 1) * X ≤ g * V2 * X := Nat.mul_le_mul_right _ hg
  have h3 : g * V = g * V2 * X + g * vl := by rw [hV, Nat.mul_add, Nat.mul_assoc]
  have h4 : (U3 + 1) * X = U3 * X + X := by rw [Nat.add_mul]; omega
  omega
/-- the number that bytes denote, the most significant one first -/
def mval (l : List UInt8) : Nat := val 256 (l.reverse.map UInt8.toNat)
/-- the canonical bytes of a number -/
def mag (n : Nat) : List UInt8 := ((dig 256 n).map UInt8.ofNat).reverse
theorem bytes_Dl (l : List UInt8) : Dl 256 (l.map UInt8.toNat) := fun d hd => by
  obtain ⟨u, _, rfl⟩ := List.mem_map.1 hd
  exact UInt8.toNat_lt u
theorem map_toNat_ofNat {l : List Nat} (h : Dl 256 l) : (l.map UInt8.ofNat).map UInt8.toNat = l := by
  rw [List.map_map]
  conv => rhs; rw [← List.map_id l]
  apply List.map_congr_left
  intro d hd
  have := h d hd
  simp only [Function.comp, id]
  rw [UInt8.toNat_ofNat']
  exact Nat.mod_eq_of_lt this
theorem mval_mag (n : Nat) : mval (mag n) = n := by
  unfold mval mag
  rw [List.reverse_reverse, map_toNat_ofNat (dig_Dl (by omega) n), val_dig (by omega)]
theorem mval_nil : mval [] = 0 := rfl
theorem mag_zero : mag 0 = [] := by unfold mag; rw [dig_zero]; rfl
theorem mval_snoc (l : List UInt8) (c : UInt8) : mval (l ++ [c]) = 256 * mval l + c.toNat := by
  unfold mval; rw [List.reverse_append]; simp [val]; omega
theorem mval_append (l m : List UInt8) : mval (l ++ m) = 256 ^ m.length * mval l + mval m := by
  unfold mval; rw [List.reverse_append, List.map_append, val_append]; simp; omega
theorem mval_lt (l : List UInt8) : mval l < 256 ^ l.length := by
  have := val_lt (bytes_Dl l.reverse)
  simpa [mval] using this
theorem mval_zero_cons (l : List UInt8) : mval (0 :: l) = mval l := by
  have := mval_append [0] l
  simp only [List.singleton_append] at this
  rw [this]; simp [mval, val]
/-- bytes that do not begin with 0 are canonical -/
theorem mag_unique {l : List UInt8} (h : l.head? ≠ some 0) : mag (mval l) = l := by
  unfold mag mval
  rw [dig_unique (by omega) (bytes_Dl _)]
  · rw [List.map_map]
    have : l.reverse.map (UInt8.ofNat ∘ UInt8.toNat) = l.reverse := by
      conv => rhs; rw [← List.map_id l.reverse]
      exact List.map_congr_left fun u _ => by simp
    rw [this, List.reverse_reverse]
  · cases l with
    | nil => left; rfl
    | cons c l =>
      right
      simp at h
      rw [List.reverse_cons, List.map_append, List.getD_eq_getElem?_getD, List.getElem?_append_right (by simp)]
      simp
      intro hc
      apply h
      exact UInt8.toNat_inj.1 hc
theorem mag_head (n : Nat) : (mag n).head? ≠ some 0 := by
  rcases Nat.eq_zero_or_pos n with rfl | hn
  · rw [mag_zero]; simp
  · have h := dig_last (B := 256) (by omega) n hn
    unfold mag
    rw [List.head?_reverse, List.getLast?_map, List.getLast?_eq_getElem?]
    rw [List.getD_eq_getElem?_getD] at h
    have hl : 0 < (dig 256 n).length := by rw [dig_pos (by omega) hn]; simp
    have hd := dig_Dl (B := 256) (by omega) n
    generalize dig 256 n = l at h hl hd
    rw [List.getElem?_eq_getElem (by omega)] at h ⊢
    have := hd.get (l.length - 1) (by omega)
    simp at h ⊢
    intro hc
    apply h
    have := congrArg UInt8.toNat hc
    rw [UInt8.toNat_ofNat'] at this
    simp at this
    omega
theorem mag_inj {m n : Nat} (h : mag m = mag n) : m = n := by rw [← mval_mag m, h, mval_mag]
theorem mag_eq_nil {n : Nat} : mag n = [] ↔ n = 0 := ⟨fun h => by have := mval_mag n; rw [h] at this; exact this.symm, fun h => by rw [h, mag_zero]⟩
/-- without the zeros in front -/
def lstrip (l : List UInt8) : List UInt8 := l.dropWhile (· == 0)
theorem mval_lstrip (l : List UInt8) : mval (lstrip l) = mval l := by
  induction l with
  | nil => rfl
  | cons c l ih =>
    unfold lstrip at ih ⊢
    rw [List.dropWhile_cons]
    split
    · rename_i h
      have : c = 0 := by simpa using h
      rw [ih, this, mval_zero_cons]
    · rfl
theorem lstrip_eq (l : List UInt8) : lstrip l = mag (mval l) := by
  rw [← mval_lstrip, mag_unique]
  unfold lstrip
  intro h
  have := List.head?_dropWhile_not (p := (· == (0 : UInt8))) l
  rw [h] at this
  simp at this
theorem mag_length_le {n k : Nat} (h : n < 256 ^ k) : (mag n).length ≤ k := by
  unfold mag; rw [List.length_reverse, List.length_map]; exact dig_length_le (by omega) h

/-! ### integers -/
/-- the integer that a sign and bytes denote -/
def ival (neg : Bool) (l : List UInt8) : Int := if neg then -(mval l : Int) else mval l
theorem ival_natAbs (neg : Bool) (l : List UInt8) : (ival neg l).natAbs = mval l := by
  unfold ival; split <;> simp

/-- small: fewer than k binary digits -/
def Sm (k : Nat) (z : Int) : Prop := z.natAbs < 2 ^ k
theorem Sm.mono {j k : Nat} {z : Int} (h : Sm j z) (hjk : j ≤ k) : Sm k z := Nat.lt_of_lt_of_le h (Nat.pow_le_pow_right (by omega) hjk)
theorem Sm.neg {k : Nat} {z : Int} (h : Sm k z) : Sm k (-z) := by unfold Sm at *; rwa [Int.natAbs_neg]
theorem Sm.mul {j k : Nat} {y z : Int} (h : Sm j y) (h' : Sm k z) : Sm (j + k) (y * z) := by
  unfold Sm at *
  rw [Int.natAbs_mul, Nat.pow_add]
  exact Nat.mul_lt_mul'' h h'
theorem Sm.add {k : Nat} {y z : Int} (h : Sm k y) (h' : Sm k z) : Sm (k + 1) (y + z) := by
  unfold Sm at *
  rw [Nat.pow_succ]
  omega
theorem Sm.sub {k : Nat} {y z : Int} (h : Sm k y) (h' : Sm k z) : Sm (k + 1) (y - z) := by
  unfold Sm at *
  rw [Nat.pow_succ]
  omega
theorem Sm.of_le {k : Nat} {y z : Int} (h : Sm k y) (h' : z.natAbs ≤ y.natAbs) : Sm k z := Nat.lt_of_le_of_lt h' h
theorem Sm.int {n : Int} (h1 : -9223372036854775808 ≤ n) (h2 : n ≤ 9223372036854775807) : Sm 64 n := by
  unfold Sm; have : (2:Nat)^64 = 18446744073709551616 := by decide
  omega
theorem Sm.ofBytes {neg : Bool} {l : List UInt8} {k : Nat} (h : l.length ≤ k) : Sm (8 * k) (ival neg l) := by
  unfold Sm
  rw [ival_natAbs, Nat.pow_mul]
  exact Nat.lt_of_lt_of_le (mval_lt l) (Nat.pow_le_pow_right (by omega) h)
theorem digit_at {B : Nat} (hB : 0 < B) {l : List Nat} (h : Dl B l) (j : Nat) : l[j]?.getD 0 = val B l / B ^ j % B := by
  induction l generalizing j with
  | nil => simp [val]
  | cons d l ih =>
    cases j with
    | zero => simp [val_cons, Nat.mod_eq_of_lt h.head]
    | succ j =>
      have := ih h.tail j
      simp only [List.getElem?_cons_succ, this, val_cons]
      rw [Nat.pow_succ, Nat.mul_comm (B ^ j) B, ← Nat.div_div_eq_div_mul, Nat.add_mul_div_left _ _ hB, Nat.div_eq_of_lt h.head, Nat.zero_add]

/-- a digit of a multiple of a power -/
theorem digit_mul {l : List Nat} (h : Dl 4294967296 l) {k Y : Nat} (hv : val 4294967296 l = 256 ^ (k + 1) * Y) :
    ∃ t, l[k / 4]?.getD 0 = 2 ^ (8 * (k % 4) + 8) * t := by
  rw [digit_at (by omega) h, hv]
  have hk : 256 ^ (k + 1) = 4294967296 ^ (k / 4) * 2 ^ (8 * (k % 4) + 8) := by
    have e1 : (256 : Nat) = 2 ^ 8 := by decide
    have e2 : (4294967296 : Nat) = 2 ^ 32 := by decide
    rw [e1, e2, ← Nat.pow_mul, ← Nat.pow_mul, ← Nat.pow_add]
    congr 1
    omega
  have hB : 4294967296 = 2 ^ (8 * (k % 4) + 8) * 2 ^ (24 - 8 * (k % 4)) := by
    rw [← Nat.pow_add]
    have : 8 * (k % 4) + 8 + (24 - 8 * (k % 4)) = 32 := by omega
    rw [this]
  rw [hk, Nat.mul_assoc, Nat.mul_div_cancel_left _ (Nat.pow_pos (by omega))]
  refine ⟨Y % 2 ^ (24 - 8 * (k % 4)), ?_⟩
  conv => lhs; rw [hB]
  exact Nat.mul_mod_mul_left _ _ _

theorem or_add {x t s b : Nat} (hx : x = 2 ^ (s + 8) * t) (hb : b < 256) : x ||| (b * 2 ^ s) = x + b * 2 ^ s := by
  have h : b * 2 ^ s < 2 ^ (s + 8) := by
    rw [Nat.add_comm, Nat.pow_add]; exact Nat.mul_lt_mul_of_pos_right hb (Nat.pow_pos (by omega))
  have e : x = t <<< (s + 8) := by rw [Nat.shiftLeft_eq, hx, Nat.mul_comm]
  rw [e, Nat.shiftLeft_add_eq_or_of_lt h]

/-- one byte more, laid into the words: 'n' bytes in all, 'i' are in -/
theorem abs_step {l : List Nat} {m : List UInt8} {i : Nat} (hl : Dl 4294967296 l) (hi : i < m.length) (hlen : (m.length - 1 - i) / 4 < l.length)
    (h : val 4294967296 l = 256 ^ (m.length - i) * mval (m.take i)) :
    let k := m.length - 1 - i
    let v := (l[k / 4]?.getD 0) ||| (m[i].toNat * 2 ^ (8 * (k % 4)))
    v < 4294967296 ∧ val 4294967296 (l.set (k / 4) v) = 256 ^ (m.length - (i + 1)) * mval (m.take (i + 1)) := by
  intro k v
  have hk : m.length - i = k + 1 := by omega
  have hk' : m.length - (i + 1) = k := by omega
  rw [hk] at h
  obtain ⟨t, ht⟩ := digit_mul hl h
  have hb : m[i].toNat < 256 := UInt8.toNat_lt _
  have hv : v = l[k / 4]?.getD 0 + m[i].toNat * 2 ^ (8 * (k % 4)) := or_add ht hb
  have hlt : v < 4294967296 := by
    rw [hv]
    have h1 := hl.getD (by omega) (k / 4)
    rw [List.getD_eq_getElem?_getD] at h1
    rw [ht] at h1 ⊢
    have hB : 4294967296 = 2 ^ (8 * (k % 4) + 8) * 2 ^ (24 - 8 * (k % 4)) := by
      rw [← Nat.pow_add]
      have : 8 * (k % 4) + 8 + (24 - 8 * (k % 4)) = 32 := by omega
      rw [this]
    have h2 : t < 2 ^ (24 - 8 * (k % 4)) := by
      rcases Nat.lt_or_ge t (2 ^ (24 - 8 * (k % 4))) with h2 | h2
      · exact h2
      · have := Nat.mul_le_mul_left (2 ^ (8 * (k % 4) + 8)) h2
        omega
    have h3 : 2 ^ (8 * (k % 4) + 8) * (t + 1) ≤ 4294967296 := by
      conv => rhs; rw [hB]
      exact Nat.mul_le_mul_left _ h2
    have h4 : m[i].toNat * 2 ^ (8 * (k % 4)) < 2 ^ (8 * (k % 4) + 8) := by
      rw [Nat.add_comm, Nat.pow_add]; exact Nat.mul_lt_mul_of_pos_right hb (Nat.pow_pos (by omega))
    rw [Nat.mul_add] at h3
    omega
  refine ⟨hlt, ?_⟩
  have h1 := val_set 4294967296 l (k / 4) v hlen
  have h2 : l[k / 4]?.getD 0 = l[k / 4] := by rw [List.getElem?_eq_getElem hlen]; rfl
  rw [hk', List.take_succ_eq_append_getElem hi, mval_snoc]
  rw [h2] at hv
  have e3 : 4294967296 ^ (k / 4) * v = 4294967296 ^ (k / 4) * l[k / 4] + 4294967296 ^ (k / 4) * (m[i].toNat * 2 ^ (8 * (k % 4))) := by rw [hv, Nat.mul_add]
  have e4 : 4294967296 ^ (k / 4) * (m[i].toNat * 2 ^ (8 * (k % 4))) = 256 ^ k * m[i].toNat := by
    have e1 : (256 : Nat) = 2 ^ 8 := by decide
    have e2 : (4294967296 : Nat) = 2 ^ 32 := by decide
    rw [e1, e2, ← Nat.pow_mul, ← Nat.pow_mul, Nat.mul_comm m[i].toNat, ← Nat.mul_assoc, ← Nat.pow_add]
    have : 32 * (k / 4) + 8 * (k % 4) = 8 * k := by omega
    rw [this]
  have e5 : 256 ^ (k + 1) * mval (m.take i) = 256 ^ k * (256 * mval (m.take i)) := by rw [Nat.pow_succ, Nat.mul_assoc]
  rw [Nat.mul_add]
  omega
theorem abs_step' {l : List Nat} {m : List UInt8} {i n : Nat} {b : UInt8} (hl : Dl 4294967296 l) (hn : m.length = n) (hi : m[i]? = some b) (hlen : (n - 1 - i) / 4 < l.length)
    (h : val 4294967296 l = 256 ^ (n - i) * mval (m.take i)) :
    (l[(n - 1 - i) / 4]?.getD 0) ||| (b.toNat * 2 ^ (8 * ((n - 1 - i) % 4))) < 4294967296 ∧
      val 4294967296 (l.set ((n - 1 - i) / 4) ((l[(n - 1 - i) / 4]?.getD 0) ||| (b.toNat * 2 ^ (8 * ((n - 1 - i) % 4))))) = 256 ^ (n - (i + 1)) * mval (m.take (i + 1)) := by
  subst hn
  obtain ⟨hi', rfl⟩ := List.getElem?_eq_some_iff.1 hi
  exact abs_step hl hi' hlen h
/-- the four bytes of a word -/
def b4 (x : Nat) : List UInt8 := [UInt8.ofNat (x / 16777216), UInt8.ofNat (x / 65536), UInt8.ofNat (x / 256), UInt8.ofNat x]
theorem b4_length (x : Nat) : (b4 x).length = 4 := rfl
theorem b4_val {x : Nat} (hx : x < 4294967296) : mval (b4 x) = x := by
  simp [mval, b4, val]
  omega
theorem mval_words (l : List Nat) (h : Dl 4294967296 l) : mval (l.reverse.flatMap b4) = val 4294967296 l := by
  induction l with
  | nil => rfl
  | cons d l ih =>
    rw [List.reverse_cons, List.flatMap_append, mval_append, ih h.tail]
    simp only [List.flatMap_cons, List.flatMap_nil, List.append_nil, b4_length, b4_val h.head, val_cons]
    omega
theorem mval_drop (m : List UInt8) (k : Nat) (hk : k < m.length) : mval (m.drop k) = 256 ^ (m.length - k - 1) * m[k].toNat + mval (m.drop (k + 1)) := by
  rw [List.drop_eq_getElem_cons hk]
  have h := mval_append [m[k]] (m.drop (k + 1))
  simp only [List.singleton_append, List.length_drop] at h
  rw [h, show m.length - (k + 1) = m.length - k - 1 from by omega]
  simp [mval, val]
theorem val_snoc (B : Nat) (l : List Nat) (d : Nat) : val B (l ++ [d]) = val B l + B ^ l.length * d := by rw [val_append]; simp [val]
theorem pow_256_65536 (j : Nat) : 256 ^ (2 * j) = 65536 ^ j := by rw [Nat.pow_mul]
/-- two bytes more, the less significant ones first -/
theorem digits_two {m : List UInt8} {l : List Nat} {n j : Nat} {x y : UInt8} (hn : m.length = n) (hl : l.length = j) (hj : 2 * j + 2 ≤ n) (hx : m[n - 2 * j - 1]? = some x) (hy : m[n - 2 * j - 2]? = some y)
    (h : val 65536 l = mval (m.drop (n - 2 * j))) : val 65536 (l ++ [x.toNat + 256 * y.toNat]) = mval (m.drop (n - 2 * (j + 1))) := by
  subst hn
  obtain ⟨h1, rfl⟩ := List.getElem?_eq_some_iff.1 hx
  obtain ⟨h2, rfl⟩ := List.getElem?_eq_some_iff.1 hy
  rw [val_snoc, h, hl]
  have e1 := mval_drop m (m.length - 2 * j - 1) (by omega)
  have e2 := mval_drop m (m.length - 2 * j - 2) (by omega)
  rw [show m.length - 2 * j - 1 + 1 = m.length - 2 * j from by omega, show m.length - (m.length - 2 * j - 1) - 1 = 2 * j from by omega, pow_256_65536] at e1
  rw [show m.length - 2 * j - 2 + 1 = m.length - 2 * j - 1 from by omega, show m.length - (m.length - 2 * j - 2) - 1 = 2 * j + 1 from by omega, Nat.pow_succ, pow_256_65536] at e2
  rw [show m.length - 2 * (j + 1) = m.length - 2 * j - 2 from by omega, e2, e1, Nat.mul_add]
  have : 65536 ^ j * (256 * m[m.length - 2 * j - 2].toNat) = 65536 ^ j * 256 * m[m.length - 2 * j - 2].toNat := by rw [Nat.mul_assoc]
  omega
theorem digits_one {m : List UInt8} {l : List Nat} {n j : Nat} {x : UInt8} (hn : m.length = n) (hl : l.length = j) (hj : 2 * j + 1 = n) (hx : m[0]? = some x)
    (h : val 65536 l = mval (m.drop (n - 2 * j))) : val 65536 (l ++ [x.toNat]) = mval (m.drop (n - 2 * (j + 1))) := by
  subst hn
  obtain ⟨h1, rfl⟩ := List.getElem?_eq_some_iff.1 hx
  rw [val_snoc, h, hl]
  have e1 := mval_drop m 0 (by omega)
  rw [show m.length - 0 - 1 = 2 * j from by omega, pow_256_65536] at e1
  rw [show m.length - 2 * (j + 1) = 0 from by omega, show m.length - 2 * j = 0 + 1 from by omega, e1]
  omega
end Go.Proofs.YtapppahniablmaaDoor
