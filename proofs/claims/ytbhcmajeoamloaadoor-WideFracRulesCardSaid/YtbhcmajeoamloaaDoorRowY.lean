/- Rows: arrays of numbers as arguments. -/
import Derived.Test.YtbhcmajeoamloaaDoorRowX
namespace Go.Proofs.YtbhcmajeoamloaaDoor
open Go.ChangeShapes Go.WideShapes Go.ChangeAt Go.RowKit
set_option maxRecDepth 100000

section
variable {H : Type} {enc : TypeId × Value → H} {w : World} {held : Bool}
theorem okWide_array {t e : TypeId} {n : Nat} (ht : Tryd.prog.underlying t = some (.array n e)) {b0 : Nat} {v : Value} (h : Value.okWide Tryd.prog w .any b0 t v) : ∃ cs : Array Value, v = .agg cs := by
  unfold Value.okWide at h
  rw [ht] at h
  obtain ⟨cs, e, _⟩ := h
  exact ⟨cs, e⟩
theorem weights_all {P : Program} {e : TypeId} : ∀ {l : List (DataW H)} (_ : (DataW.weightsAll P e l).all (· ≤ reachBytes) = true), ∀ d ∈ l, (d.weights P e).all (· ≤ reachBytes) = true
  | [], _, d, hd => by cases hd
  | x :: l, h, d, hd => by
    unfold DataW.weightsAll at h
    rw [List.all_append, Bool.and_eq_true] at h
    rcases List.mem_cons.1 hd with rfl | hd
    · exact h.1
    · exact weights_all h.2 d hd
theorem cN3 : Tryd.prog.cellsOf 24 = 3 := by kernel_rfl
theorem cells_nums {t : TypeId} {n : Nat} (ht : Tryd.prog.underlying t = some (.array n 24)) {fuel : Nat} {l : List Value} {x : DataW H × List MemPlace} (h : DataW.trod enc Tryd.prog w 0 (fun _ => true) held fuel t l = some x) (hw : (x.1.weights Tryd.prog t).all (· ≤ reachBytes) = true) :
    l.length = Tryd.prog.cellsOf t ∧ ∀ i, i < n → NumC w ((l.drop (i * 3)).take 3) := by
  obtain ⟨xs, m, _, rfl, hl, hn, hf⟩ := DataW.trod_array ht h
  refine ⟨hl, fun i hi => ?_⟩
  have g := hf i hi
  rw [cN3] at g
  have hx : i < xs.length := by omega
  rw [List.getElem?_eq_getElem hx] at g
  refine cells_num g (weights_all ?_ _ (List.mem_map_of_mem (List.getElem_mem hx)))
  unfold DataW.weights at hw
  rw [ht] at hw
  exact hw
def Nums2At (W : World) (v : Value) : Prop := ∃ x0 x1 : List Value, v = .agg (x0 ++ x1).toArray ∧ NumC W x0 ∧ NumC W x1
def Nums3At (W : World) (v : Value) : Prop := ∃ x0 x1 x2 : List Value, v = .agg (x0 ++ (x1 ++ x2)).toArray ∧ NumC W x0 ∧ NumC W x1 ∧ NumC W x2
theorem open_nums2 {b0 : Nat} {v : Value} {d : DataW H} {ps : List MemPlace} (hval : Value.okWide Tryd.prog w .any b0 45 v) (hd : DataW.Trod enc Tryd.prog w 0 (fun _ => true) held 45 v d ps) (hw : (d.weights Tryd.prog 45).all (· ≤ reachBytes) = true) : Nums2At w v := by
  obtain ⟨cs, rfl⟩ := okWide_array Tryd.underlying45 hval
  obtain ⟨fuel, h⟩ := hd
  obtain ⟨hl, hf⟩ := cells_nums Tryd.underlying45 h hw
  have hc : Tryd.prog.cellsOf 45 = 6 := by kernel_rfl
  rw [hc] at hl
  have hl : cs.toList.length = 6 := hl
  refine ⟨_, _, ?_, hf 0 (by decide), hf 1 (by decide)⟩
  show Value.agg cs = Value.agg ((cs.toList.drop 0).take 3 ++ (cs.toList.drop 3).take 3).toArray
  rw [List.drop_zero, List.take_of_length_le (l := cs.toList.drop 3) (by rw [List.length_drop]; omega), List.take_append_drop, Array.toArray_toList]
theorem open_nums3 {b0 : Nat} {v : Value} {d : DataW H} {ps : List MemPlace} (hval : Value.okWide Tryd.prog w .any b0 54 v) (hd : DataW.Trod enc Tryd.prog w 0 (fun _ => true) held 54 v d ps) (hw : (d.weights Tryd.prog 54).all (· ≤ reachBytes) = true) : Nums3At w v := by
  obtain ⟨cs, rfl⟩ := okWide_array Tryd.underlying54 hval
  obtain ⟨fuel, h⟩ := hd
  obtain ⟨hl, hf⟩ := cells_nums Tryd.underlying54 h hw
  have hc : Tryd.prog.cellsOf 54 = 9 := by kernel_rfl
  rw [hc] at hl
  have hl : cs.toList.length = 9 := hl
  refine ⟨_, _, _, ?_, hf 0 (by decide), hf 1 (by decide), hf 2 (by decide)⟩
  show Value.agg cs = Value.agg ((cs.toList.drop 0).take 3 ++ ((cs.toList.drop 3).take 3 ++ (cs.toList.drop 6).take 3)).toArray
  have e : cs.toList.drop 6 = (cs.toList.drop 3).drop 3 := by rw [List.drop_drop]
  rw [List.drop_zero, e, List.take_of_length_le (l := (cs.toList.drop 3).drop 3) (by rw [List.length_drop, List.length_drop]; omega), List.take_append_drop, List.take_append_drop, Array.toArray_toList]
end
end Go.Proofs.YtbhcmajeoamloaaDoor
