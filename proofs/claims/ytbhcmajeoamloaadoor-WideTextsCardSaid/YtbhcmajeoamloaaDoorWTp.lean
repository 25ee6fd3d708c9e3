/- Plain laws: a number written in decimal, read back. -/
import Derived.Test.YtbhcmajeoamloaaDoorNac
namespace Go.Proofs.YtbhcmajeoamloaaDoor
open Go.RowKit
set_option maxRecDepth 100000

theorem toList_mk (l : List UInt8) : (⟨l.toArray⟩ : ByteArray).toList = l := by rw [ByteArray.toList_eq]
theorem size_mk (l : List UInt8) : (⟨l.toArray⟩ : ByteArray).size = l.length := List.size_toArray
theorem parseG_cons (acc : Nat) (c : UInt8) (l : List UInt8) : parseG acc (c :: l) = if c.toNat < 48 ∨ 57 < c.toNat then none else parseG (acc * 10 + (c.toNat - 48)) l := rfl
theorem dash_list : dash.toList = [45] := toList_mk [45]
theorem parseG_append : ∀ (l m : List UInt8) (acc : Nat), parseG acc (l ++ m) = (match parseG acc l with | some a => parseG a m | none => none)
  | [], _, _ => rfl
  | c :: l, m, acc => by
    rw [List.cons_append, parseG_cons, parseG_cons]
    split
    · rfl
    · exact parseG_append l m _
theorem decC_nat {d : Nat} (h : d < 10) : (decC d).toNat = 48 + d := by unfold decC; rw [UInt8.toNat_ofNat']; omega
theorem parseG_digs : ∀ {l : List Nat}, Dl 10 l → parseG 0 ((l.map decC).reverse) = some (val 10 l)
  | [], _ => rfl
  | d :: l, h => by
    have hd : d < 10 := h.head
    rw [List.map_cons, List.reverse_cons, parseG_append, parseG_digs h.tail]
    show parseG (val 10 l) [decC d] = _
    have e := decC_nat hd
    unfold parseG
    rw [if_neg (by omega), e]
    unfold parseG
    rw [val_cons, show 48 + d - 48 = d by omega]
    congr 1; omega
theorem parseG_zeros : ∀ (k : Nat) (l : List UInt8), parseG 0 (List.replicate k 48 ++ l) = parseG 0 l
  | 0, _ => rfl
  | k + 1, l => by
    rw [List.replicate_succ, List.cons_append]
    conv => lhs; unfold parseG
    rw [if_neg (by decide)]
    exact parseG_zeros k l
/-- the digits of a number's text -/
def decT (z : Int) : List UInt8 := if z = 0 then [48] else decL z.natAbs
def sgT (z : Int) : List UInt8 := if z < 0 then [45] else []
theorem text_parts (z : Int) : textL z = sgT z ++ decT z := by
  unfold textL sgT decT
  by_cases h : z = 0
  · subst h; rfl
  · rw [if_neg h, if_neg h]
    split <;> rfl
theorem parse_decT (z : Int) : parseG 0 (decT z) = some z.natAbs := by
  unfold decT
  split
  · rename_i h; subst h; rfl
  · unfold decL
    rw [parseG_digs (dig_Dl (by decide) _), val_dig (by decide)]
theorem decT_cons (z : Int) : ∃ c r, decT z = c :: r ∧ c ≠ 45 := by
  unfold decT
  split
  · exact ⟨48, [], rfl, by decide⟩
  · rename_i h
    have h0 : (dig 10 z.natAbs).length ≠ 0 := fun e => by have := (dig_len_zero (by decide : 2 ≤ 10)).1 e; omega
    cases hl : decL z.natAbs with
    | nil =>
      unfold decL at hl
      rw [List.reverse_eq_nil_iff, List.map_eq_nil_iff] at hl
      rw [hl] at h0; exact absurd rfl h0
    | cons c r =>
      refine ⟨c, r, rfl, fun e => ?_⟩
      have hm : c ∈ decL z.natAbs := by rw [hl]; exact List.mem_cons_self
      unfold decL at hm
      rw [List.mem_reverse, List.mem_map] at hm
      obtain ⟨d, hd, hc⟩ := hm
      have h1 := decC_nat (dig_Dl (by decide : 2 ≤ 10) z.natAbs d hd)
      rw [hc, e] at h1
      simp at h1; omega
theorem ext_mk (l : List UInt8) (i j : Nat) : (⟨l.toArray⟩ : ByteArray).extract i j = ⟨((l.take j).drop i).toArray⟩ := by
  apply ByteArray.ext
  rw [ByteArray.data_extract]
  simp [List.extract_eq_take_drop, List.drop_take]
theorem cut_neg (l : List UInt8) : cutB ⟨(45 :: l).toArray⟩ dash = true ∧ cutS ⟨(45 :: l).toArray⟩ dash = ⟨l.toArray⟩ := by
  have hb : cutB ⟨(45 :: l).toArray⟩ dash = true := by
    rw [cut_eq (decide_eq_true (by rw [size_mk]; show (1 : Int) ≤ ((l.length + 1 : Nat) : Int); omega)), ext_mk, toList_mk]
    show (List.take 1 (45 :: l) == dash.toList) = true
    rw [dash_list]; simp
  refine ⟨hb, ?_⟩
  unfold cutS
  rw [hb]
  show ByteArray.extract _ 1 _ = _
  rw [ext_mk, size_mk, List.take_length]; rfl
theorem cut_pos {c : UInt8} {l : List UInt8} (h : c ≠ 45) : cutB ⟨(c :: l).toArray⟩ dash = false ∧ cutS ⟨(c :: l).toArray⟩ dash = ⟨(c :: l).toArray⟩ := by
  have hb : cutB ⟨(c :: l).toArray⟩ dash = false := by
    rw [cut_eq (decide_eq_true (by rw [size_mk]; show (1 : Int) ≤ ((l.length + 1 : Nat) : Int); omega)), ext_mk, toList_mk]
    show (List.take 1 (c :: l) == dash.toList) = false
    rw [dash_list]; simp [h]
  exact ⟨hb, by unfold cutS; rw [hb]; rfl⟩
/-- read back, with zeros in front -/
theorem parse_text (z : Int) (k : Nat) (hl : k + (decT z).length ≤ 10000) : parseZ ⟨(sgT z ++ (List.replicate k 48 ++ decT z)).toArray⟩ = z ∧ parseOk ⟨(sgT z ++ (List.replicate k 48 ++ decT z)).toArray⟩ = true := by
  obtain ⟨c, r, hc, hne⟩ := decT_cons z
  have hbody : ∃ c r, List.replicate k 48 ++ decT z = c :: r ∧ c ≠ 45 := by
    cases k with
    | zero => exact ⟨c, r, hc, hne⟩
    | succ k => exact ⟨48, List.replicate k 48 ++ decT z, rfl, by decide⟩
  have hcut : cutB ⟨(sgT z ++ (List.replicate k 48 ++ decT z)).toArray⟩ dash = decide (z < 0) ∧ cutS ⟨(sgT z ++ (List.replicate k 48 ++ decT z)).toArray⟩ dash = ⟨(List.replicate k 48 ++ decT z).toArray⟩ := by
    unfold sgT
    by_cases hz : z < 0
    · rw [if_pos hz, decide_eq_true hz]; exact cut_neg _
    · rw [if_neg hz, decide_eq_false hz, List.nil_append]
      obtain ⟨c', r', e, hne'⟩ := hbody
      rw [e]; exact cut_pos hne'
  obtain ⟨hb, hs⟩ := hcut
  have hN : parseN ⟨(sgT z ++ (List.replicate k 48 ++ decT z)).toArray⟩ = some z.natAbs := by
    unfold parseN parseT
    rw [hs]
    rw [if_pos (by show (List.replicate k 48 ++ decT z).length ≤ 10000; rw [List.length_append, List.length_replicate]; exact hl)]
    show parseG 0 (List.replicate k 48 ++ decT z) = _
    rw [parseG_zeros, parse_decT]
  constructor
  · unfold parseZ
    rw [hN, hb]
    simp only [decide_eq_true_eq]
    split <;> omega
  · unfold parseOk
    rw [hN, hs, toList_mk, toList_mk]
    obtain ⟨c', r', e, hne'⟩ := hbody
    rw [e]; rfl
end Go.Proofs.YtbhcmajeoamloaaDoor
