/- Rows: strings, lists of bytes and bytes as arguments; the call of WideParses. -/
import Derived.Test.YtbhcmajeoamloaaDoorRowX
import Derived.Test.YtbhcmajeoamloaaDoorWP
namespace Go.Proofs.YtbhcmajeoamloaaDoor
open Go.ChangeShapes Go.WideShapes Go.ChangeAt Go.RowKit
set_option maxRecDepth 100000

def BytesAt (W : World) (v : Value) : Prop := (∃ (bs : List UInt8) (c : Nat) (p : Nat × Nat), v = .slice (some ⟨p.1, p.2, none⟩) bs.length c ∧ SliOk false bs.length c ∧ ∀ ρ, W.rangeAt p.1 p.2 (cellsL ρ (bsC bs))) ∨ ∃ a, v = .slice a 0 0
section
variable {H : Type} {enc : TypeId × Value → H} {w : World} {base : Nat} {sp : Nat → Bool} {held : Bool}
theorem open_str {b0 : Nat} {v : Value} {d : DataW H} {ps : List MemPlace} (hval : Value.okWide Tryd.prog w .any b0 9 v) (hd : DataW.Trod enc Tryd.prog w base sp held 9 v d ps) : ∃ s : ByteArray, v = .string s ∧ IR s.size := by
  obtain ⟨s, rfl⟩ := okWide_string (by kernel_rfl) hval
  obtain ⟨fuel, h⟩ := hd
  obtain ⟨s', e, _, hm⟩ := DataW.trod_string (by kernel_rfl) h
  have e2 : s = s' := by simpa [Value.cells] using e
  subst e2
  exact ⟨s, rfl, by unfold IR; unfold maxLen at hm; omega⟩
theorem open_byte {b0 : Nat} {v : Value} {d : DataW H} {ps : List MemPlace} (hval : Value.okWide Tryd.prog w .any b0 5 v) (hd : DataW.Trod enc Tryd.prog w base sp held 5 v d ps) : ∃ c : Int, v = .int .u8 c ∧ 0 ≤ c ∧ c < 256 := by
  obtain ⟨n, rfl, _, _, hw⟩ := open_int u_u8 hval hd
  refine ⟨n, rfl, ?_⟩
  simp [Lit.wf, IntKind.min, IntKind.max, IntKind.signed, IntKind.bits] at hw
  omega
theorem open_bytes {b0 : Nat} {v : Value} {d : DataW H} {ps : List MemPlace} (hval : Value.okWide Tryd.prog w .any b0 22 v) (hd : DataW.Trod enc Tryd.prog w 0 (fun _ => true) held 22 v d ps) : BytesAt w v := by
  obtain ⟨a1, len, cap, rfl⟩ := okWide_slice Tryd.underlying22 hval
  obtain ⟨fuel, hf⟩ := hd
  rcases open_ints Tryd.underlying22 u_u8 cU8 hf with ⟨hcs, _⟩ | ⟨a, len', cap', zs, hcs, _, hl, hm, hzl, _, hcell, hwz⟩
  · simp [Value.cells] at hcs
    obtain ⟨rfl, rfl, rfl⟩ := hcs
    exact .inr ⟨none, rfl⟩
  · simp [Value.cells] at hcs
    obtain ⟨rfl, rfl, rfl⟩ := hcs
    simp only [if_true] at hzl
    by_cases h0 : cap = 0
    · subst h0
      obtain rfl : len = 0 := by omega
      exact .inr ⟨some a, rfl⟩
    · obtain ⟨ab, ao, spot⟩ := a
      have hspot : spot = none := by simpa [Addr.add] using World.cell?_spot (hcell 0 (by omega))
      subst hspot
      have hu8 : ∀ z ∈ zs, 0 ≤ z ∧ z < 256 := fun z hz => by
        have := hwz z hz
        simp [Lit.wf, IntKind.min, IntKind.max, IntKind.signed, IntKind.bits] at this
        omega
      have elen : ((zs.take len).map fun z => UInt8.ofNat z.toNat).length = len := by rw [List.length_map, List.length_take]; omega
      refine .inl ⟨(zs.take len).map fun z => UInt8.ofNat z.toNat, cap, (ab, ao), by rw [elen], ⟨by rw [elen]; exact hl, hm, fun h => by cases h⟩, fun ρ j v hj => ?_⟩
      rw [bsC_cells, List.getElem?_map, List.getElem?_map, List.getElem?_take] at hj
      split at hj
      · rename_i hjl
        have hjz : j < zs.length := by omega
        rw [List.getElem?_eq_getElem hjz] at hj
        simp only [Option.map_some, Option.some.injEq] at hj
        subst hj
        have hc := hcell j hjz
        rw [Addr.add_lit] at hc
        show w.cell? ⟨ab, ao + j, none⟩ = _
        rw [hc, List.getD_eq_getElem?_getD, List.getElem?_eq_getElem hjz]
        have hb := hu8 zs[j] (List.getElem_mem hjz)
        have e : ((UInt8.ofNat (zs[j]).toNat).toNat : Int) = zs[j] := by
          rw [UInt8.toNat_ofNat']; omega
        rw [e]; rfl
      · cases hj
end
theorem callWideParses {W : World} {s : ByteArray} {v1 : Value} {c : Int} (hs : IR s.size) (n1 : BytesAt W v1) (hc : 0 ≤ c ∧ c < 256) : Calls Tryd.prog 6 #[.string s, v1, .int .u8 c] W fun e w' => e = .returned (.bool true) ∧ Below W.heap.size W w' := by
  have hfn : FnOk Tryd.prog 6 Tryd.f6 := ⟨Tryd.func6, by kernel_rfl, by kernel_rfl⟩
  rcases n1 with ⟨l, cap, p, rfl, g, r⟩ | ⟨a, rfl⟩
  · refine read_ok (P := Tryd.prog) envV_ok mixed noF_ok hfn (fun _ _ => rfl) (fun i c hi => ?_) (fun _ => p) (fun ρ' hρ => ?_) (vcWideParsesA s hs c hc l cap g) W (fun i c hi => ?_)
    · rcases i with _ | i <;> simp [nthO] at hi <;> subst hi <;> exact ⟨rfl, bsC_pure _⟩
    · have e : ρ' 0 = p := hρ 0 rfl
      simp only [List.map_cons, List.map_nil, SV.den, C.den, C.cells, e]
    · rcases i with _ | i
      · simp [nthO] at hi; subst hi; exact r _
      · simp [nthO] at hi
  · refine read_ok (P := Tryd.prog) envV_ok mixed noF_ok hfn (fun _ _ => rfl) (fun i c hi => by simp [nthO] at hi) (fun _ => (0, 0)) (fun ρ' hρ => rfl) (vcWideParsesB s hs c hc a) W (fun i c hi => by simp [nthO] at hi)
end Go.Proofs.YtbhcmajeoamloaaDoor
