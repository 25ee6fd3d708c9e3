/- law 05: lists of triangles and of faults compared. -/
import Derived.Test.YtdjpbccaglkafaaDoorH3
namespace Go.Proofs.YtdjpbccaglkafaaDoor
open Go.RowKit
set_option maxRecDepth 100000

theorem eqF_dec (s t : FT) : (decide (s.pl = t.pl) && decide (s.k = t.k)) = true ↔ s = t := by
  cases s; cases t; simp
def eqF (s t : FT) : Bool := decide (s.pl = t.pl) && decide (s.k = t.k)
theorem eqF_iff {s t : FT} : eqF s t = true ↔ s = t := eqF_dec s t
def eqTs : List TR → List TR → Bool
  | [], [] => true
  | x :: a, y :: b => eqT x y && eqTs a b
  | _, _ => false
theorem eqTs_iff : ∀ {a b : List TR}, eqTs a b = true ↔ a = b
  | [], [] => by simp [eqTs]
  | x :: a, y :: b => by simp [eqTs, eqT_iff, @eqTs_iff a b]
  | [], _ :: _ => by simp [eqTs]
  | _ :: _, [] => by simp [eqTs]
theorem eqTs_ne {a b : List TR} (h : a ≠ b) : eqTs a b = false := by
  cases hx : eqTs a b with
  | false => rfl
  | true => exact absurd (eqTs_iff.1 hx) h
theorem eqTs_step {a b : List TR} {k : Nat} (ha : k < a.length) (hb : k < b.length) (h : a.take k = b.take k) (he : (!eqT a[k] b[k]) = false) : a.take (k + 1) = b.take (k + 1) := by
  rw [List.take_succ_eq_append_getElem ha, List.take_succ_eq_append_getElem hb, h, show a[k] = b[k] from eqT_iff.1 (by simpa using he)]
theorem eqTs_no {a b : List TR} {k n : Nat} (ha : k < a.length) (hb : k < b.length) (hn : k < n) (he : (!eqT a[k] b[k]) = true) : eqTs (a.take n) (b.take n) = false := eqTs_ne fun e => by
  have h : (a.take n)[k]? = (b.take n)[k]? := by rw [e]
  rw [List.getElem?_take, if_pos hn, List.getElem?_take, if_pos hn, List.getElem?_eq_getElem ha, List.getElem?_eq_getElem hb] at h
  rw [show eqT a[k] b[k] = true from eqT_iff.2 (by simpa using h)] at he
  cases he
def eqFs : List FT → List FT → Bool
  | [], [] => true
  | x :: a, y :: b => eqF x y && eqFs a b
  | _, _ => false
theorem eqFs_iff : ∀ {a b : List FT}, eqFs a b = true ↔ a = b
  | [], [] => by simp [eqFs]
  | x :: a, y :: b => by simp [eqFs, eqF_iff, @eqFs_iff a b]
  | [], _ :: _ => by simp [eqFs]
  | _ :: _, [] => by simp [eqFs]
theorem eqFs_ne {a b : List FT} (h : a ≠ b) : eqFs a b = false := by
  cases hx : eqFs a b with
  | false => rfl
  | true => exact absurd (eqFs_iff.1 hx) h
theorem eqFs_step {a b : List FT} {k : Nat} (ha : k < a.length) (hb : k < b.length) (h : a.take k = b.take k) (he : (!eqF a[k] b[k]) = false) : a.take (k + 1) = b.take (k + 1) := by
  rw [List.take_succ_eq_append_getElem ha, List.take_succ_eq_append_getElem hb, h, show a[k] = b[k] from eqF_iff.1 (by simpa using he)]
theorem eqFs_no {a b : List FT} {k n : Nat} (ha : k < a.length) (hb : k < b.length) (hn : k < n) (he : (!eqF a[k] b[k]) = true) : eqFs (a.take n) (b.take n) = false := eqFs_ne fun e => by
  have h : (a.take n)[k]? = (b.take n)[k]? := by rw [e]
  rw [List.getElem?_take, if_pos hn, List.getElem?_take, if_pos hn, List.getElem?_eq_getElem ha, List.getElem?_eq_getElem hb] at h
  rw [show eqF a[k] b[k] = true from eqF_iff.2 (by simpa using h)] at he
  cases he
theorem eqT9 (s t : TR) : (decide (s.a.x = t.a.x) && (decide (s.a.y = t.a.y) && (decide (s.a.z = t.a.z) && (decide (s.b.x = t.b.x) && (decide (s.b.y = t.b.y) && (decide (s.b.z = t.b.z) && (decide (s.c.x = t.c.x) && (decide (s.c.y = t.c.y) && decide (s.c.z = t.c.z))))))))) = eqT s t := by unfold eqT eqP; exact and9 _ _ _ _ _ _ _ _ _
theorem wrap_z0 : IntKind.i64.wrap 0 = 0 := by decide
theorem ir_le3 {k n : Nat} (h : k ≤ n) (hn : IR (n : Nat)) : IR (k : Nat) := by unfold IR at *; omega
def cSame : NewC := fun args ros K => ∃ na ka ca ha nb kb cb hb ta tb la lb bb, args = [.c (.sli na 0 0 ka ca ha), .c (.sli nb 1 0 kb cb hb)] ∧ ros = [⟨.t ta, true, trsC la, 0⟩, ⟨.t tb, true, trsC lb, 0⟩] ∧ ka ≤ la.length ∧ kb ≤ lb.length ∧ eqTs (la.take ka) (lb.take kb) = bb ∧ K (.c (.val (.bool bb))) []
theorem csSame : CSp Tryd.prog 21 cSame := csp_of (envH_ok baseH_ok .nil 0) mixed (inl_ok (envH_ok baseH_ok .nil 0) mixed noF_ok 0) ⟨Tryd.func21, by kernel_rfl, by kernel_rfl⟩ fun args ros K hc => by
  obtain ⟨na, ka, ca, ha, nb, kb, cb, hb, ta, tb, la, lb, bb, rfl, rfl, hla, hlb, rfl, hc⟩ := hc
  refine ⟨fun ρ ρ' e => ?_, ?_⟩
  · have e0 := e 0 (Nat.zero_lt_succ _)
    have e1 := e 1 (Nat.succ_lt_succ (Nat.zero_lt_succ _))
    simp only [List.map, SV.den, C.den, C.cells, e0, e1]
  conv => whnf
  refine bcase_intro (fun h0 => ?_) (fun h0 => ?_)
  · have hne : ka ≠ kb := fun e => by subst e; simp at h0
    conv => whnf
    refine ⟨[0, 1], [0, 1], fun _ => ?_⟩
    conv => whnf
    refine ⟨trsC_pure la, trsC_pure lb, ?_⟩
    conv => whnf
    exact ⟨_, [], rfl, ⟨⟨rfl, rfl, rfl, fun _ => rfl⟩, ⟨rfl, rfl, rfl, fun _ => rfl⟩, trivial⟩, trivial, _, fun ρ => sbool_e ((eqTs_ne fun e => hne (by have e := congrArg List.length e; rw [List.length_take, List.length_take] at e; omega)).symm) ρ, hc⟩
  · obtain rfl : ka = kb := by simp at h0; omega
    conv => whnf
    refine loop_st (G := {k : Nat // k ≤ ka ∧ la.take k = lb.take k} × (Nat → Value)) (fun g => (.c (.sli na 0 0 ka ca ha) :: .c (.sli nb 1 0 ka cb hb) :: .c (.val (g.2 2)) :: .c (.val (g.2 3)) :: .c (.val (g.2 4)) :: .c (.int (g.1.1 : Nat) (ir_le3 g.1.2.1 ha.ir)) :: .c (.val (g.2 6)) :: .c (.val (g.2 7)) :: .c (.val (g.2 8)) :: .c (.val (g.2 9)) :: .c (.val (g.2 10)) :: .c (.val (g.2 11)) :: .c (.val (g.2 12)) :: .c (.val (g.2 13)) :: .c (.val (g.2 14)) :: .c (.val (g.2 15)) :: .c (.val (g.2 16)) :: .c (.val (g.2 17)) :: .c (.val (g.2 18)) :: .c (.val (g.2 19)) :: .c (.val (g.2 20)) :: .c (.val (g.2 21)) :: .c (.val (g.2 22)) :: .c (.val (g.2 23)) :: .c (.val (g.2 24)) :: .c (.val (g.2 25)) :: [])) (fun _ => [⟨.t ta, true, trsC la, 0⟩, ⟨.t tb, true, trsC lb, 0⟩]) (fun g => ka - g.1.1) ?_ ?_
    · refine ⟨[0, 1], [0, 1, 5], [0, 1], fun vs => ?_⟩
      conv => whnf
      refine ⟨trsC_pure la, trsC_pure lb, ?_⟩
      conv => whnf
      refine ⟨_, _, ?_, ?_, (⟨0, Nat.zero_le _, rfl⟩, vs), rfl, rfl⟩
      · exact stm _
      · exact ⟨⟨rfl, rfl, rfl, fun _ => rfl⟩, ⟨rfl, rfl, rfl, fun _ => rfl⟩, trivial⟩
    · rintro ⟨⟨k, hk, he⟩, vs⟩
      dsimp only
      conv => whnf
      refine bcase_intro (fun hlt => ?_) (fun hlt => ?_)
      · have hlt : k < ka := n_lt hlt
        have ha2 : k < la.length := by omega
        have hb2 : k < lb.length := by omega
        conv => whnf
        conv =>
          arg 2
          tactic' =>
            apply eff_index_sli (k := k) (hi := ir_le3 hk ha.ir) (ho := ?how1) (hT := ?hTw1) (hx := ?hxw1) (hk := ?hkw1) (hlt := ?hltw1)
            case how1 => rfl
            case hTw1 => rfl
            case hxw1 => rfl
            case hkw1 => rfl
            case hltw1 => exact hlt
        conv => whnf
        conv =>
          arg 2
          tactic' =>
            apply eff_load_sub (ho := ?how2) (hT := ?hTw2) (hx := ?hxw2) (hb := ?hbw2) (hm := ?hmw2) (hv := ?hvw2)
            case how2 => rfl
            case hTw2 => rfl
            case hxw2 => rfl
            case hbw2 => rfl
            case hmw2 => exact (by rw [Nat.zero_add]; exact subC_trs la (Nat.lt_of_lt_of_le hlt hla) : subC (trsC la) (0 + k * 9) 9 = some (trC (la[k]'(Nat.lt_of_lt_of_le hlt hla))))
            case hvw2 => rfl
        conv => whnf
        conv =>
          arg 2
          tactic' =>
            apply eff_index_sli (k := k) (hi := ir_le3 hk ha.ir) (ho := ?how3) (hT := ?hTw3) (hx := ?hxw3) (hk := ?hkw3) (hlt := ?hltw3)
            case how3 => rfl
            case hTw3 => rfl
            case hxw3 => rfl
            case hkw3 => rfl
            case hltw3 => exact hlt
        conv => whnf
        conv =>
          arg 2
          tactic' =>
            apply eff_load_sub (ho := ?how4) (hT := ?hTw4) (hx := ?hxw4) (hb := ?hbw4) (hm := ?hmw4) (hv := ?hvw4)
            case how4 => rfl
            case hTw4 => rfl
            case hxw4 => rfl
            case hbw4 => rfl
            case hmw4 => exact (by rw [Nat.zero_add]; exact subC_trs lb (Nat.lt_of_lt_of_le hlt hlb) : subC (trsC lb) (0 + k * 9) 9 = some (trC (lb[k]'(Nat.lt_of_lt_of_le hlt hlb))))
            case hvw4 => rfl
        conv => whnf
        refine bcase_intro (fun hE => ?_) (fun hE => ?_)
        · have hE : (!eqT la[k] lb[k]) = true := (eqT9 la[k] lb[k]) ▸ hE
          conv => whnf
          refine ⟨[0, 1], [0, 1], fun _ => ?_⟩
          conv => whnf
          refine ⟨trsC_pure la, trsC_pure lb, ?_⟩
          conv => whnf
          exact ⟨_, [], rfl, ⟨⟨rfl, rfl, rfl, fun _ => rfl⟩, ⟨rfl, rfl, rfl, fun _ => rfl⟩, trivial⟩, trivial, _, fun ρ => sbool_e ((eqTs_no ha2 hb2 hlt hE).symm) ρ, hc⟩
        · have hE : (!eqT la[k] lb[k]) = false := (eqT9 la[k] lb[k]) ▸ hE
          conv => whnf
          refine ⟨[0, 1], [0, 1, 5], [0, 1], fun vs2 => ?_⟩
          conv => whnf
          refine ⟨trsC_pure la, trsC_pure lb, ?_⟩
          conv => whnf
          refine ⟨_, _, ?_, ?_, (⟨k + 1, hlt, eqTs_step ha2 hb2 he hE⟩, vs2), (by omega : ka - (k + 1) < ka - k), rfl, rfl⟩
          · exact ⟨fun _ => rfl, fun _ => rfl, fun _ => rfl, fun _ => rfl, fun _ => rfl, fun ρ => sint_e (wrap_add1 hlt ha.ir) ρ, stm _⟩
          · exact ⟨⟨rfl, rfl, rfl, fun _ => rfl⟩, ⟨rfl, rfl, rfl, fun _ => rfl⟩, trivial⟩
      · have hlt : ka ≤ k := n_ge hlt
        obtain rfl : k = ka := by omega
        conv => whnf
        refine ⟨[0, 1], [0, 1], fun _ => ?_⟩
        conv => whnf
        refine ⟨trsC_pure la, trsC_pure lb, ?_⟩
        conv => whnf
        exact ⟨_, [], rfl, ⟨⟨rfl, rfl, rfl, fun _ => rfl⟩, ⟨rfl, rfl, rfl, fun _ => rfl⟩, trivial⟩, trivial, _, fun ρ => sbool_e ((eqTs_iff.2 he).symm) ρ, hc⟩
def cFaults : NewC := fun args ros K => ∃ na ka ca ha nb kb cb hb ta tb la lb bb, args = [.c (.sli na 0 0 ka ca ha), .c (.sli nb 1 0 kb cb hb)] ∧ ros = [⟨.t ta, true, ftsC la, 0⟩, ⟨.t tb, true, ftsC lb, 0⟩] ∧ ka ≤ la.length ∧ kb ≤ lb.length ∧ eqFs (la.take ka) (lb.take kb) = bb ∧ K (.c (.val (.bool bb))) []
theorem csFaults : CSp Tryd.prog 17 cFaults := csp_of (envH_ok baseH_ok .nil 0) mixed (inl_ok (envH_ok baseH_ok .nil 0) mixed noF_ok 0) ⟨Tryd.func17, by kernel_rfl, by kernel_rfl⟩ fun args ros K hc => by
  obtain ⟨na, ka, ca, ha, nb, kb, cb, hb, ta, tb, la, lb, bb, rfl, rfl, hla, hlb, rfl, hc⟩ := hc
  refine ⟨fun ρ ρ' e => ?_, ?_⟩
  · have e0 := e 0 (Nat.zero_lt_succ _)
    have e1 := e 1 (Nat.succ_lt_succ (Nat.zero_lt_succ _))
    simp only [List.map, SV.den, C.den, C.cells, e0, e1]
  conv => whnf
  refine bcase_intro (fun h0 => ?_) (fun h0 => ?_)
  · have hne : ka ≠ kb := fun e => by subst e; simp at h0
    conv => whnf
    refine ⟨[0, 1], [0, 1], fun _ => ?_⟩
    conv => whnf
    refine ⟨ftsC_pure la, ftsC_pure lb, ?_⟩
    conv => whnf
    exact ⟨_, [], rfl, ⟨⟨rfl, rfl, rfl, fun _ => rfl⟩, ⟨rfl, rfl, rfl, fun _ => rfl⟩, trivial⟩, trivial, _, fun ρ => sbool_e ((eqFs_ne fun e => hne (by have e := congrArg List.length e; rw [List.length_take, List.length_take] at e; omega)).symm) ρ, hc⟩
  · obtain rfl : ka = kb := by simp at h0; omega
    conv => whnf
    refine loop_st (G := {k : Nat // k ≤ ka ∧ la.take k = lb.take k} × (Nat → Value)) (fun g => (.c (.sli na 0 0 ka ca ha) :: .c (.sli nb 1 0 ka cb hb) :: .c (.val (g.2 2)) :: .c (.val (g.2 3)) :: .c (.val (g.2 4)) :: .c (.int (g.1.1 : Nat) (ir_le3 g.1.2.1 ha.ir)) :: .c (.val (g.2 6)) :: .c (.val (g.2 7)) :: .c (.val (g.2 8)) :: .c (.val (g.2 9)) :: .c (.val (g.2 10)) :: .c (.val (g.2 11)) :: .c (.val (g.2 12)) :: .c (.val (g.2 13)) :: .c (.val (g.2 14)) :: .c (.val (g.2 15)) :: .c (.val (g.2 16)) :: .c (.val (g.2 17)) :: .c (.val (g.2 18)) :: .c (.val (g.2 19)) :: .c (.val (g.2 20)) :: .c (.val (g.2 21)) :: .c (.val (g.2 22)) :: .c (.val (g.2 23)) :: .c (.val (g.2 24)) :: .c (.val (g.2 25)) :: [])) (fun _ => [⟨.t ta, true, ftsC la, 0⟩, ⟨.t tb, true, ftsC lb, 0⟩]) (fun g => ka - g.1.1) ?_ ?_
    · refine ⟨[0, 1], [0, 1, 5], [0, 1], fun vs => ?_⟩
      conv => whnf
      refine ⟨ftsC_pure la, ftsC_pure lb, ?_⟩
      conv => whnf
      refine ⟨_, _, ?_, ?_, (⟨0, Nat.zero_le _, rfl⟩, vs), rfl, rfl⟩
      · exact stm _
      · exact ⟨⟨rfl, rfl, rfl, fun _ => rfl⟩, ⟨rfl, rfl, rfl, fun _ => rfl⟩, trivial⟩
    · rintro ⟨⟨k, hk, he⟩, vs⟩
      dsimp only
      conv => whnf
      refine bcase_intro (fun hlt => ?_) (fun hlt => ?_)
      · have hlt : k < ka := n_lt hlt
        have ha2 : k < la.length := by omega
        have hb2 : k < lb.length := by omega
        conv => whnf
        conv =>
          arg 2
          tactic' =>
            apply eff_index_sli (k := k) (hi := ir_le3 hk ha.ir) (ho := ?how5) (hT := ?hTw5) (hx := ?hxw5) (hk := ?hkw5) (hlt := ?hltw5)
            case how5 => rfl
            case hTw5 => rfl
            case hxw5 => rfl
            case hkw5 => rfl
            case hltw5 => exact hlt
        conv => whnf
        conv =>
          arg 2
          tactic' =>
            apply eff_load_sub (ho := ?how6) (hT := ?hTw6) (hx := ?hxw6) (hb := ?hbw6) (hm := ?hmw6) (hv := ?hvw6)
            case how6 => rfl
            case hTw6 => rfl
            case hxw6 => rfl
            case hbw6 => rfl
            case hmw6 => exact (by rw [Nat.zero_add]; exact subC_fts la (Nat.lt_of_lt_of_le hlt hla) : subC (ftsC la) (0 + k * 2) 2 = some (ftC (la[k]'(Nat.lt_of_lt_of_le hlt hla))))
            case hvw6 => rfl
        conv => whnf
        conv =>
          arg 2
          tactic' =>
            apply eff_index_sli (k := k) (hi := ir_le3 hk ha.ir) (ho := ?how7) (hT := ?hTw7) (hx := ?hxw7) (hk := ?hkw7) (hlt := ?hltw7)
            case how7 => rfl
            case hTw7 => rfl
            case hxw7 => rfl
            case hkw7 => rfl
            case hltw7 => exact hlt
        conv => whnf
        conv =>
          arg 2
          tactic' =>
            apply eff_load_sub (ho := ?how8) (hT := ?hTw8) (hx := ?hxw8) (hb := ?hbw8) (hm := ?hmw8) (hv := ?hvw8)
            case how8 => rfl
            case hTw8 => rfl
            case hxw8 => rfl
            case hbw8 => rfl
            case hmw8 => exact (by rw [Nat.zero_add]; exact subC_fts lb (Nat.lt_of_lt_of_le hlt hlb) : subC (ftsC lb) (0 + k * 2) 2 = some (ftC (lb[k]'(Nat.lt_of_lt_of_le hlt hlb))))
            case hvw8 => rfl
        conv => whnf
        refine bcase_intro (fun hE => ?_) (fun hE => ?_)
        · have hE : (!eqF la[k] lb[k]) = true := hE
          conv => whnf
          refine ⟨[0, 1], [0, 1], fun _ => ?_⟩
          conv => whnf
          refine ⟨ftsC_pure la, ftsC_pure lb, ?_⟩
          conv => whnf
          exact ⟨_, [], rfl, ⟨⟨rfl, rfl, rfl, fun _ => rfl⟩, ⟨rfl, rfl, rfl, fun _ => rfl⟩, trivial⟩, trivial, _, fun ρ => sbool_e ((eqFs_no ha2 hb2 hlt hE).symm) ρ, hc⟩
        · have hE : (!eqF la[k] lb[k]) = false := hE
          conv => whnf
          refine ⟨[0, 1], [0, 1, 5], [0, 1], fun vs2 => ?_⟩
          conv => whnf
          refine ⟨ftsC_pure la, ftsC_pure lb, ?_⟩
          conv => whnf
          refine ⟨_, _, ?_, ?_, (⟨k + 1, hlt, eqFs_step ha2 hb2 he hE⟩, vs2), (by omega : ka - (k + 1) < ka - k), rfl, rfl⟩
          · exact ⟨fun _ => rfl, fun _ => rfl, fun _ => rfl, fun _ => rfl, fun _ => rfl, fun ρ => sint_e (wrap_add1 hlt ha.ir) ρ, stm _⟩
          · exact ⟨⟨rfl, rfl, rfl, fun _ => rfl⟩, ⟨rfl, rfl, rfl, fun _ => rfl⟩, trivial⟩
      · have hlt : ka ≤ k := n_ge hlt
        obtain rfl : k = ka := by omega
        conv => whnf
        refine ⟨[0, 1], [0, 1], fun _ => ?_⟩
        conv => whnf
        refine ⟨ftsC_pure la, ftsC_pure lb, ?_⟩
        conv => whnf
        exact ⟨_, [], rfl, ⟨⟨rfl, rfl, rfl, fun _ => rfl⟩, ⟨rfl, rfl, rfl, fun _ => rfl⟩, trivial⟩, trivial, _, fun ρ => sbool_e ((eqFs_iff.2 he).symm) ρ, hc⟩
end Go.Proofs.YtdjpbccaglkafaaDoor
