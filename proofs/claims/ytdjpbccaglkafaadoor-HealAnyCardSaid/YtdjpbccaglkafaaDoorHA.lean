/- law 05: HealAny. -/
import Derived.Test.YtdjpbccaglkafaaDoorHOw
import Derived.Test.YtdjpbccaglkafaaDoorHR4
namespace Go.Proofs.YtdjpbccaglkafaaDoor
open Go.RowKit
set_option maxRecDepth 100000

def anyX : List (FuncId × NewC) := [(14, cOwn), (12, cAgree)]
theorem anyX_ok : AllX Tryd.prog anyX := .cons csOwn <| .cons csAgree .nil
def hAny : FuncId → List SV → List Blk → (SV → List Blk → Prop) → Prop := hsm (hnewX anyX (mix lawC (envL 0) noF 0))
theorem hAny_ok : HOk Tryd.prog hAny := hsm_ok (hnewX_ok anyX_ok (mix_ok lawC_ok (envL_ok 0) mixed noF_ok 0))
theorem sameB2 (b : Blk) : b.ty = b.ty ∧ b.ro = b.ro ∧ b.tl = b.tl ∧ ∀ ρ, cellsL ρ b.cs = cellsL ρ b.cs := ⟨rfl, rfl, rfl, fun _ => rfl⟩
def okPw (args : List SV) (ros : List Blk) (v : C) (ty : TypeId) (fam : List Ent) (L : List PN) : Prop := args = [.c v] ∧ ros = [⟨.t ty, true, pnsC L, 0⟩, ⟨.x fam, true, [], 3⟩] ∧ ((∃ (nl : Bool) (cap : Nat) (hl : SliOk nl L.length cap), v = .sli nl 0 0 L.length cap hl) ∨ ∃ a c, v = .val (.slice a 0 c) ∧ L = []) ∧ ∀ p ∈ L, p.len * 3 ≤ 17592186044416 ∧ p.In fam
def cLawA : NewC := fun args ros K => (∃ v ty fam L, okPw args ros v ty fam L) ∧ K (.c (.val (.bool true))) []
theorem eff_slice_val {T : TypeId → Option TI} {op : Op} {ev : Operand → SV} {hp : Nat → Option Blk} {t : TypeId} {x y : Operand} (ho : op = .slice t x none (some y) none) {sz : Nat} {ag : Bool} {z : List C} {e : TypeId} {esz : Nat} {ez : List C} {eq : Option (List K)} (hT : T t = some ⟨sz, ag, z, .slice e esz ez, eq⟩)
    {a : Option Addr} {n c : Nat} (hx : ev x = .c (.val (.slice a n c))) {k : Nat} {hi : IR k} (hk : ev y = .c (.int k hi)) (hlt : k ≤ c) : eff T op ev hp = some (.val (.c (.val (.slice a k c)))) := by
  subst ho
  simp only [eff, hT, hx, Option.map, bndO, hk]
  show (if k ≤ c then _ else _) = _
  rw [if_pos hlt]
theorem min_30 (n : Nat) : minI (n : Int) 30 = ((min n 30 : Nat) : Int) := by unfold minI; split <;> omega
theorem ir_m30 (n : Nat) : IR (min n 30 : Nat) := by unfold IR; omega
def PY.cut (p : PY) : PY := ⟨p.nl, p.r, p.o, min p.len 30, p.cap, ⟨Nat.le_trans (Nat.min_le_left _ _) p.ok.1, p.ok.2⟩, p.full, Nat.le_trans (Nat.min_le_left _ _) p.hl, p.pl, p.hp⟩
def cutL (l : List PY) (k : Nat) : List PY := (l.take k).map PY.cut ++ l.drop k
theorem cutL_len (l : List PY) {k : Nat} (h : k ≤ l.length) : (cutL l k).length = l.length := by
  unfold cutL; rw [List.length_append, List.length_map, List.length_take, List.length_drop]; omega
theorem cutL_at (l : List PY) {k : Nat} (h : k < l.length) : cutL l k = (l.take k).map PY.cut ++ (l[k] :: l.drop (k + 1)) := by
  unfold cutL; rw [List.drop_eq_getElem_cons h]
theorem cutL_next (l : List PY) {k : Nat} (h : k < l.length) : cutL l (k + 1) = (l.take k).map PY.cut ++ (l[k].cut :: l.drop (k + 1)) := by
  unfold cutL
  rw [List.take_succ_eq_append_getElem h, List.map_append, List.append_assoc]; rfl
theorem subC_cut (l : List PY) {k : Nat} (h : k < l.length) : subC (pysC (cutL l k)) (0 + k * 2 + 0) 1 = some [.val l[k].val] := by
  have hk : k < (cutL l k).length := by rw [cutL_len l (Nat.le_of_lt h)]; exact h
  have e : (cutL l k)[k] = l[k] := by
    simp only [cutL_at l h]
    rw [List.getElem_append_right (by simp; omega)]
    simp [Nat.min_eq_left (Nat.le_of_lt h)]
  rw [Nat.zero_add]
  have := subC_sub (subC_pys (cutL l k) hk) (o := 0) (k := 1) (r := [.val (cutL l k)[k].val]) rfl
  rw [e] at this
  exact this
theorem put_cut (l : List PY) {k : Nat} (h : k < l.length) : spliceC (pysC (cutL l k)) (0 + k * 2 + 0) [.val l[k].cut.val] = some (pysC (cutL l (k + 1))) := by
  rw [cutL_at l h, cutL_next l h, pysC_append, pysC_append]
  have s : sizeC (pysC ((l.take k).map PY.cut)) = 0 + k * 2 + 0 := by rw [pysC_size]; simp; omega
  rw [← s]
  exact spliceC_app (pysC ((l.take k).map PY.cut)) [.val l[k].val] (.int l[k].pl l[k].hp :: pysC (l.drop (k + 1))) [.val l[k].cut.val] rfl
def cutB (o : OY) (k : Nat) : Blk := ⟨31, o.nl, pysC (cutL o.l k), (o.cap - o.l.length) * 2⟩
structure OwG (o : OY) (f2 : List Ent) : Prop where
  len : o.l.length ≤ 30
  at_ : ∀ p ∈ o.l, p.nl = false ∧ p.o = 0
  inn : ∀ p ∈ o.l, p.In f2
theorem OwG.of {L : List PN} {n : Nat} {o : OY} {f2 : List Ent} (h : OwI L n f2 o) (hn : n ≤ 30) : OwG o f2 := by
  have hlen := h.len
  have ha : ∀ p ∈ o.l, p.nl = false ∧ p.o = 0 := fun p hp => by
    obtain ⟨i, hi, rfl⟩ := List.mem_iff_getElem.1 hp
    obtain ⟨r, c, ok, e⟩ := h.eq i hi (by have := h.k1; omega)
    rw [e]; exact ⟨rfl, rfl⟩
  refine ⟨by omega, ha, fun p hp => .inr ⟨p.ent, by rw [h.fm]; exact List.mem_map_of_mem hp, ?_, rfl⟩⟩
  show (p.r, 0) = (p.r, p.o)
  rw [(ha p hp).2]
theorem ir_30 {k n : Nat} (h : k ≤ n) (hn : n ≤ 30) : IR (k : Nat) := by unfold IR; omega
theorem PY.val1' {p : PY} (h : p.nl = false ∧ p.o = 0) : p.val = .slice (some ⟨p.r, 0, none⟩) p.len p.cap := by unfold PY.val; rw [h.1, h.2]; rfl
theorem PY.valc {p : PY} (h : p.nl = false ∧ p.o = 0) : p.cut.val = .slice (some ⟨p.r, 0, none⟩) (min p.len 30) p.cap := by
  show Value.slice (nlA p.nl ⟨p.r, p.o, none⟩) (min p.len 30) p.cap = _
  rw [h.1, h.2]; rfl
theorem cut_ok {o : OY} : SliOk o.nl (cutL o.l o.l.length).length o.cap := by rw [cutL_len o.l (Nat.le_refl _)]; exact o.ok
theorem cut_sl {o : OY} {b : Nat} (ρ : Rho) : (o.sl b).den ρ = (SV.c (.sli o.nl b 0 (cutL o.l o.l.length).length o.cap cut_ok)).den ρ := by
  simp only [OY.sl, SV.den, C.den, C.cells, cutL_len o.l (Nat.le_refl _)]
set_option maxHeartbeats 16000000 in
theorem csAny : CSpX Tryd.prog 4 cLawA := csp_ofX (envL_ok 0) mixed hAny_ok ⟨Tryd.func4, by kernel_rfl, by kernel_rfl⟩ fun args ros K hc => by
  obtain ⟨⟨v, ty, fam, L, rfl, rfl, ⟨nl, cap, hl, rfl⟩ | ⟨a, c, rfl, rfl⟩, hin⟩, hc⟩ := hc
  · refine ⟨fun ρ ρ' e => ?_, ?_⟩
    · have := e 0 (Nat.zero_lt_succ _)
      simp only [List.map, SV.den, C.den, C.cells, this]
    conv => whnf
    refine .inl ?_
    conv => whnf
    refine ⟨trivial, ⟨rfl, rfl, ?_⟩⟩
    conv => whnf
    conv =>
      arg 2
      tactic' =>
        apply eff_slice_hi (k := min L.length 30) (hi := ir_m30 _) (h2 := sliOk_le2 hl (Nat.min_le_left _ _)) (ho := ?how1) (hT := ?hTw1) (hx := ?hxw1) (hk := ?hkw1) (hlt := ?hltw1)
        case how1 => rfl
        case hTw1 => rfl
        case hxw1 => rfl
        case hkw1 => exact cint (min_30 _) _
        case hltw1 => exact Nat.le_trans (Nat.min_le_left _ _) hl.1
    conv => whnf
    refine .inl ?_
    conv => whnf
    refine ⟨1, ?_⟩
    conv => whnf
    refine ⟨.inr rfl, ⟨pnsC_pure L, trivial⟩, .inl ⟨_, _, _, _, _, _, L, _, rfl, rfl, rfl, ⟨Nat.min_le_left _ _, Nat.le_trans (Nat.min_le_right _ _) (by decide)⟩, hin, fun o f2 hO => ?_⟩⟩
    have hG := OwG.of hO (Nat.min_le_right _ _)
    have h30 := hG.len
    conv => whnf
    refine loop_st (G := {k : Nat // k ≤ o.l.length} × (Nat → Value)) (fun g => (.c (.val (g.2 0)) :: .c (.val (g.2 1)) :: .c (.val (g.2 2)) :: .c (.val (.bool true)) :: o.sl 2 :: .c (.int (g.1.1 : Nat) (ir_30 g.1.2 h30)) :: .c (.val (g.2 6)) :: .c (.val (g.2 7)) :: .c (.val (g.2 8)) :: .c (.val (g.2 9)) :: .c (.val (g.2 10)) :: .c (.val (g.2 11)) :: .c (.val (g.2 12)) :: .c (.val (g.2 13)) :: .c (.val (g.2 14)) :: .c (.val (g.2 15)) :: .c (.val (g.2 16)) :: .c (.val (g.2 17)) :: .c (.val (g.2 18)) :: .c (.val (g.2 19)) :: .c (.val (g.2 20)) :: .c (.val (g.2 21)) :: .c (.val (g.2 22)) :: .c (.val (g.2 23)) :: .c (.val (g.2 24)) :: .c (.val (g.2 25)) :: .c (.val (g.2 26)) :: .c (.val (g.2 27)) :: .c (.val (g.2 28)) :: .c (.val (g.2 29)) :: .c (.val (g.2 30)) :: .c (.val (g.2 31)) :: .c (.val (g.2 32)) :: .c (.val (g.2 33)) :: .c (.val (g.2 34)) :: .c (.val (g.2 35)) :: .c (.val (g.2 36)) :: .c (.val (g.2 37)) :: .c (.val (g.2 38)) :: .c (.val (g.2 39)) :: .c (.val (g.2 40)) :: [])) (fun g => [⟨.t ty, true, pnsC L, 0⟩, ⟨.x fam, true, [], 3⟩, cutB o g.1.1, ⟨.x f2, true, [], 2⟩]) (fun g => o.l.length - g.1.1) ?_ ?_
    · refine ⟨[0, 1, 2, 3], [3, 4, 5], [0, 2], fun vs => ?_⟩
      conv => whnf
      refine ⟨pnsC_pure L, pysC_pure _, ?_⟩
      conv => whnf
      refine ⟨_, _, ?_, ?_, (⟨0, Nat.zero_le _⟩, vs), rfl, rfl⟩
      · exact ⟨fun _ => rfl, fun _ => rfl, fun _ => rfl, fun _ => rfl, fun _ => rfl, fun _ => rfl, stm _⟩
      · exact ⟨⟨rfl, rfl, rfl, fun _ => rfl⟩, ⟨rfl, rfl, rfl, fun _ => rfl⟩, ⟨rfl, rfl, rfl, fun _ => rfl⟩, ⟨rfl, rfl, rfl, fun _ => rfl⟩, trivial⟩
    · rintro ⟨⟨k, hk⟩, vs⟩
      have hk : k ≤ o.l.length := hk
      dsimp only
      conv => whnf
      refine bcase_intro (fun hlt => ?_) (fun hlt => ?_)
      · have hlt : k < o.l.length := n_lt hlt
        obtain ⟨p, hp⟩ : ∃ p, p = o.l[k] := ⟨_, rfl⟩
        have hpm := hG.at_ p (hp ▸ List.getElem_mem hlt)
        have pa : subC (pysC (cutL o.l k)) (0 + k * 2 + 0) 1 = some [.val (.slice (some ⟨p.r, 0, none⟩) p.len p.cap)] := by rw [← PY.val1' hpm]; subst hp; exact subC_cut o.l hlt
        have pp : spliceC (pysC (cutL o.l k)) (0 + k * 2 + 0) [.val (.slice (some ⟨p.r, 0, none⟩) (min p.len 30) p.cap)] = some (pysC (cutL o.l (k + 1))) := by rw [← PY.valc hpm]; subst hp; exact put_cut o.l hlt
        conv => whnf
        conv =>
          arg 2
          tactic' =>
            apply eff_index_sli (k := k) (hi := (ir_30 hk h30)) (ho := ?how2) (hT := ?hTw2) (hx := ?hxw2) (hk := ?hkw2) (hlt := ?hltw2)
            case how2 => rfl
            case hTw2 => rfl
            case hxw2 => rfl
            case hkw2 => rfl
            case hltw2 => exact hlt
        conv => whnf
        conv =>
          arg 2
          tactic' =>
            apply eff_load_sub (ho := ?how3) (hT := ?hTw3) (hx := ?hxw3) (hb := ?hbw3) (hm := ?hmw3) (hv := ?hvw3)
            case how3 => rfl
            case hTw3 => rfl
            case hxw3 => rfl
            case hbw3 => rfl
            case hmw3 => exact pa
            case hvw3 => rfl
        conv => whnf
        conv =>
          arg 2
          tactic' =>
            apply eff_index_sli (k := k) (hi := (ir_30 hk h30)) (ho := ?how2) (hT := ?hTw2) (hx := ?hxw2) (hk := ?hkw2) (hlt := ?hltw2)
            case how2 => rfl
            case hTw2 => rfl
            case hxw2 => rfl
            case hkw2 => rfl
            case hltw2 => exact hlt
        conv => whnf
        conv =>
          arg 2
          tactic' =>
            apply eff_load_sub (ho := ?how3) (hT := ?hTw3) (hx := ?hxw3) (hb := ?hbw3) (hm := ?hmw3) (hv := ?hvw3)
            case how3 => rfl
            case hTw3 => rfl
            case hxw3 => rfl
            case hbw3 => rfl
            case hmw3 => exact pa
            case hvw3 => rfl
        conv => whnf
        conv =>
          arg 2
          tactic' =>
            apply eff_len_val (hi := p.ok.ir) (ho := ?how4) (hc := ?hcw4) (ha := ?haw4) (ht := ?htw4) (hT := ?hTw4) (hx := ?hxw4)
            case how4 => rfl
            case hcw4 => rfl
            case haw4 => rfl
            case htw4 => rfl
            case hTw4 => rfl
            case hxw4 => rfl
        conv => whnf
        conv =>
          arg 2
          tactic' =>
            apply eff_slice_val (k := min p.len 30) (hi := ir_m30 _) (ho := ?how5) (hT := ?hTw5) (hx := ?hxw5) (hk := ?hkw5) (hlt := ?hltw5)
            case how5 => rfl
            case hTw5 => rfl
            case hxw5 => rfl
            case hkw5 => exact cint (min_30 _) _
            case hltw5 => exact Nat.le_trans (Nat.min_le_left _ _) p.ok.1
        conv => whnf
        conv =>
          arg 2
          tactic' =>
            apply eff_index_sli (k := k) (hi := (ir_30 hk h30)) (ho := ?how2) (hT := ?hTw2) (hx := ?hxw2) (hk := ?hkw2) (hlt := ?hltw2)
            case how2 => rfl
            case hTw2 => rfl
            case hxw2 => rfl
            case hkw2 => rfl
            case hltw2 => exact hlt
        conv => whnf
        conv =>
          arg 2
          tactic' =>
            apply eff_store_at (ho := ?how6) (hT := ?hTw6) (hx := ?hxw6) (hy := ?hyw6) (hl := ?hlw6) (hb := ?hbw6) (hro := ?hrow6) (hs := ?hsw6)
            case how6 => rfl
            case hTw6 => rfl
            case hxw6 => rfl
            case hyw6 => rfl
            case hlw6 => exact ⟨rfl, rfl⟩
            case hbw6 => rfl
            case hrow6 => exact o.ok.pos hlt
            case hsw6 => exact pp
        conv => whnf
        rw [forceL_eq]
        conv => whnf
        refine ⟨[0, 1, 2, 3], [3, 4, 5], [0, 2], fun vs3 => ?_⟩
        conv => whnf
        refine ⟨pnsC_pure L, pysC_pure _, ?_⟩
        conv => whnf
        refine ⟨_, _, ?_, ?_, (⟨k + 1, hlt⟩, vs3), (by omega : o.l.length - (k + 1) < o.l.length - k), rfl, rfl⟩
        · exact ⟨fun _ => rfl, fun _ => rfl, fun _ => rfl, fun _ => rfl, fun _ => rfl, fun ρ => sint_e (wrap_add1 hlt (ir_30 (Nat.le_refl _) h30)) ρ, stm _⟩
        · exact ⟨⟨rfl, rfl, rfl, fun _ => rfl⟩, ⟨rfl, rfl, rfl, fun _ => rfl⟩, ⟨rfl, rfl, rfl, fun _ => rfl⟩, ⟨rfl, rfl, rfl, fun _ => rfl⟩, trivial⟩
      · have hlt : o.l.length ≤ k := n_ge hlt
        obtain rfl : k = o.l.length := Nat.le_antisymm hk hlt
        conv => whnf
        have hcl := cutL_len o.l (Nat.le_refl o.l.length)
        refine .inr ⟨[.c (.sli o.nl 2 0 (cutL o.l o.l.length).length o.cap cut_ok)], [_, _, _, _], ⟨fun ρ => cut_sl ρ, trivial⟩, ⟨sameB2 _, sameB2 _, sameB2 _, sameB2 _, trivial⟩, ?_⟩
        conv => whnf
        refine ⟨3, ?_⟩
        conv => whnf
        refine ⟨.inl rfl, ⟨pysC_pure _, trivial⟩, ⟨_, _, _, _, cutL o.l o.l.length, _, rfl, rfl, ⟨by rw [hcl]; omega, fun q hq => ?_⟩, ?_⟩⟩
        · unfold cutL at hq
          rw [List.take_length, List.drop_length, List.append_nil] at hq
          obtain ⟨p, hp, rfl⟩ := List.mem_map.1 hq
          exact ⟨Nat.le_trans (Nat.min_le_right _ _) (by decide), hG.inn p hp⟩
        conv => whnf
        refine ⟨[0, 1], [0], fun _ => ?_⟩
        conv => whnf
        refine ⟨pnsC_pure L, ?_⟩
        conv => whnf
        exact ⟨_, [], rfl, ⟨⟨rfl, rfl, rfl, fun _ => rfl⟩, ⟨rfl, rfl, rfl, fun _ => rfl⟩, trivial⟩, trivial, _, fun _ => rfl, hc⟩
  · refine ⟨fun ρ ρ' e => rfl, ?_⟩
    conv => whnf
    refine .inl ?_
    conv => whnf
    refine ⟨trivial, ⟨rfl, rfl, ?_⟩⟩
    conv => whnf
    refine .inl ?_
    conv => whnf
    refine ⟨1, ?_⟩
    conv => whnf
    refine ⟨.inr rfl, trivial, .inr ⟨_, _, _, rfl, rfl, fun o f2 hO => ?_⟩⟩
    have hG := OwG.of hO (by decide)
    have h30 := hG.len
    conv => whnf
    refine loop_st (G := {k : Nat // k ≤ o.l.length} × (Nat → Value)) (fun g => (.c (.val (g.2 0)) :: .c (.val (g.2 1)) :: .c (.val (g.2 2)) :: .c (.val (.bool true)) :: o.sl 2 :: .c (.int (g.1.1 : Nat) (ir_30 g.1.2 h30)) :: .c (.val (g.2 6)) :: .c (.val (g.2 7)) :: .c (.val (g.2 8)) :: .c (.val (g.2 9)) :: .c (.val (g.2 10)) :: .c (.val (g.2 11)) :: .c (.val (g.2 12)) :: .c (.val (g.2 13)) :: .c (.val (g.2 14)) :: .c (.val (g.2 15)) :: .c (.val (g.2 16)) :: .c (.val (g.2 17)) :: .c (.val (g.2 18)) :: .c (.val (g.2 19)) :: .c (.val (g.2 20)) :: .c (.val (g.2 21)) :: .c (.val (g.2 22)) :: .c (.val (g.2 23)) :: .c (.val (g.2 24)) :: .c (.val (g.2 25)) :: .c (.val (g.2 26)) :: .c (.val (g.2 27)) :: .c (.val (g.2 28)) :: .c (.val (g.2 29)) :: .c (.val (g.2 30)) :: .c (.val (g.2 31)) :: .c (.val (g.2 32)) :: .c (.val (g.2 33)) :: .c (.val (g.2 34)) :: .c (.val (g.2 35)) :: .c (.val (g.2 36)) :: .c (.val (g.2 37)) :: .c (.val (g.2 38)) :: .c (.val (g.2 39)) :: .c (.val (g.2 40)) :: [])) (fun g => [⟨.t ty, true, pnsC [], 0⟩, ⟨.x fam, true, [], 3⟩, cutB o g.1.1, ⟨.x f2, true, [], 2⟩]) (fun g => o.l.length - g.1.1) ?_ ?_
    · refine ⟨[0, 1, 2, 3], [3, 4, 5], [2], fun vs => ?_⟩
      conv => whnf
      refine ⟨pysC_pure _, ?_⟩
      conv => whnf
      refine ⟨_, _, ?_, ?_, (⟨0, Nat.zero_le _⟩, vs), rfl, rfl⟩
      · exact ⟨fun _ => rfl, fun _ => rfl, fun _ => rfl, fun _ => rfl, fun _ => rfl, fun _ => rfl, stm _⟩
      · exact ⟨⟨rfl, rfl, rfl, fun _ => rfl⟩, ⟨rfl, rfl, rfl, fun _ => rfl⟩, ⟨rfl, rfl, rfl, fun _ => rfl⟩, ⟨rfl, rfl, rfl, fun _ => rfl⟩, trivial⟩
    · rintro ⟨⟨k, hk⟩, vs⟩
      have hk : k ≤ o.l.length := hk
      dsimp only
      conv => whnf
      refine bcase_intro (fun hlt => ?_) (fun hlt => ?_)
      · have hlt : k < o.l.length := n_lt hlt
        obtain ⟨p, hp⟩ : ∃ p, p = o.l[k] := ⟨_, rfl⟩
        have hpm := hG.at_ p (hp ▸ List.getElem_mem hlt)
        have pa : subC (pysC (cutL o.l k)) (0 + k * 2 + 0) 1 = some [.val (.slice (some ⟨p.r, 0, none⟩) p.len p.cap)] := by rw [← PY.val1' hpm]; subst hp; exact subC_cut o.l hlt
        have pp : spliceC (pysC (cutL o.l k)) (0 + k * 2 + 0) [.val (.slice (some ⟨p.r, 0, none⟩) (min p.len 30) p.cap)] = some (pysC (cutL o.l (k + 1))) := by rw [← PY.valc hpm]; subst hp; exact put_cut o.l hlt
        conv => whnf
        conv =>
          arg 2
          tactic' =>
            apply eff_index_sli (k := k) (hi := (ir_30 hk h30)) (ho := ?how7) (hT := ?hTw7) (hx := ?hxw7) (hk := ?hkw7) (hlt := ?hltw7)
            case how7 => rfl
            case hTw7 => rfl
            case hxw7 => rfl
            case hkw7 => rfl
            case hltw7 => exact hlt
        conv => whnf
        conv =>
          arg 2
          tactic' =>
            apply eff_load_sub (ho := ?how8) (hT := ?hTw8) (hx := ?hxw8) (hb := ?hbw8) (hm := ?hmw8) (hv := ?hvw8)
            case how8 => rfl
            case hTw8 => rfl
            case hxw8 => rfl
            case hbw8 => rfl
            case hmw8 => exact pa
            case hvw8 => rfl
        conv => whnf
        conv =>
          arg 2
          tactic' =>
            apply eff_index_sli (k := k) (hi := (ir_30 hk h30)) (ho := ?how7) (hT := ?hTw7) (hx := ?hxw7) (hk := ?hkw7) (hlt := ?hltw7)
            case how7 => rfl
            case hTw7 => rfl
            case hxw7 => rfl
            case hkw7 => rfl
            case hltw7 => exact hlt
        conv => whnf
        conv =>
          arg 2
          tactic' =>
            apply eff_load_sub (ho := ?how8) (hT := ?hTw8) (hx := ?hxw8) (hb := ?hbw8) (hm := ?hmw8) (hv := ?hvw8)
            case how8 => rfl
            case hTw8 => rfl
            case hxw8 => rfl
            case hbw8 => rfl
            case hmw8 => exact pa
            case hvw8 => rfl
        conv => whnf
        conv =>
          arg 2
          tactic' =>
            apply eff_len_val (hi := p.ok.ir) (ho := ?how9) (hc := ?hcw9) (ha := ?haw9) (ht := ?htw9) (hT := ?hTw9) (hx := ?hxw9)
            case how9 => rfl
            case hcw9 => rfl
            case haw9 => rfl
            case htw9 => rfl
            case hTw9 => rfl
            case hxw9 => rfl
        conv => whnf
        conv =>
          arg 2
          tactic' =>
            apply eff_slice_val (k := min p.len 30) (hi := ir_m30 _) (ho := ?how10) (hT := ?hTw10) (hx := ?hxw10) (hk := ?hkw10) (hlt := ?hltw10)
            case how10 => rfl
            case hTw10 => rfl
            case hxw10 => rfl
            case hkw10 => exact cint (min_30 _) _
            case hltw10 => exact Nat.le_trans (Nat.min_le_left _ _) p.ok.1
        conv => whnf
        conv =>
          arg 2
          tactic' =>
            apply eff_index_sli (k := k) (hi := (ir_30 hk h30)) (ho := ?how7) (hT := ?hTw7) (hx := ?hxw7) (hk := ?hkw7) (hlt := ?hltw7)
            case how7 => rfl
            case hTw7 => rfl
            case hxw7 => rfl
            case hkw7 => rfl
            case hltw7 => exact hlt
        conv => whnf
        conv =>
          arg 2
          tactic' =>
            apply eff_store_at (ho := ?how11) (hT := ?hTw11) (hx := ?hxw11) (hy := ?hyw11) (hl := ?hlw11) (hb := ?hbw11) (hro := ?hrow11) (hs := ?hsw11)
            case how11 => rfl
            case hTw11 => rfl
            case hxw11 => rfl
            case hyw11 => rfl
            case hlw11 => exact ⟨rfl, rfl⟩
            case hbw11 => rfl
            case hrow11 => exact o.ok.pos hlt
            case hsw11 => exact pp
        conv => whnf
        rw [forceL_eq]
        conv => whnf
        refine ⟨[0, 1, 2, 3], [3, 4, 5], [2], fun vs3 => ?_⟩
        conv => whnf
        refine ⟨pysC_pure _, ?_⟩
        conv => whnf
        refine ⟨_, _, ?_, ?_, (⟨k + 1, hlt⟩, vs3), (by omega : o.l.length - (k + 1) < o.l.length - k), rfl, rfl⟩
        · exact ⟨fun _ => rfl, fun _ => rfl, fun _ => rfl, fun _ => rfl, fun _ => rfl, fun ρ => sint_e (wrap_add1 hlt (ir_30 (Nat.le_refl _) h30)) ρ, stm _⟩
        · exact ⟨⟨rfl, rfl, rfl, fun _ => rfl⟩, ⟨rfl, rfl, rfl, fun _ => rfl⟩, ⟨rfl, rfl, rfl, fun _ => rfl⟩, ⟨rfl, rfl, rfl, fun _ => rfl⟩, trivial⟩
      · have hlt : o.l.length ≤ k := n_ge hlt
        obtain rfl : k = o.l.length := Nat.le_antisymm hk hlt
        conv => whnf
        have hcl := cutL_len o.l (Nat.le_refl o.l.length)
        refine .inr ⟨[.c (.sli o.nl 2 0 (cutL o.l o.l.length).length o.cap cut_ok)], [_, _, _, _], ⟨fun ρ => cut_sl ρ, trivial⟩, ⟨sameB2 _, sameB2 _, sameB2 _, sameB2 _, trivial⟩, ?_⟩
        conv => whnf
        refine ⟨3, ?_⟩
        conv => whnf
        refine ⟨.inl rfl, ⟨pysC_pure _, trivial⟩, ⟨_, _, _, _, cutL o.l o.l.length, _, rfl, rfl, ⟨by rw [hcl]; omega, fun q hq => ?_⟩, ?_⟩⟩
        · unfold cutL at hq
          rw [List.take_length, List.drop_length, List.append_nil] at hq
          obtain ⟨p, hp, rfl⟩ := List.mem_map.1 hq
          exact ⟨Nat.le_trans (Nat.min_le_right _ _) (by decide), hG.inn p hp⟩
        conv => whnf
        refine ⟨[0, 1], [], fun _ => ?_⟩
        conv => whnf
        exact ⟨_, [], rfl, ⟨⟨rfl, rfl, rfl, fun _ => rfl⟩, ⟨rfl, rfl, rfl, fun _ => rfl⟩, trivial⟩, trivial, _, fun _ => rfl, hc⟩
end Go.Proofs.YtdjpbccaglkafaaDoor
