/- law 05: Own: polygons of which nothing is shared. -/
import Derived.Test.YtdjpbccaglkafaaDoorHQ
import Derived.Test.YtdjpbccaglkafaaDoorSxThw2
namespace Go.Proofs.YtdjpbccaglkafaaDoor
open Go.RowKit
set_option maxRecDepth 100000

theorem OY.src (o : OY) : subC o.blk.cs 0 (o.l.length * 2) = some (pysC o.l) := by
  have h := subC_app [] (pysC o.l) []
  rw [pysC_size, List.append_nil, List.nil_append, Nat.mul_comm] at h
  exact h
/-- a polygon of the caller's: where its corners lie -/
structure PN where
  a : Option Addr
  nl : Bool
  r : Nat
  o : Nat
  len : Nat
  cap : Nat
  ok : SliOk nl len cap
  ha : cap ≠ 0 → a = nlA nl ⟨r, o, none⟩
  full : List PT
  hl : len ≤ full.length
  pl : Int
  hp : IR pl
def PN.val (p : PN) : Value := .slice p.a p.len p.cap
theorem PN.val_eq (p : PN) (h : p.cap ≠ 0) : p.val = .slice (nlA p.nl ⟨p.r, p.o, none⟩) p.len p.cap := by unfold PN.val; rw [p.ha h]
def PN.cor (p : PN) : List PT := p.full.take p.len
def PN.In (fam : List Ent) (p : PN) : Prop := ptsC p.full = [] ∨ InF fam (p.r, p.o) (ptsC p.full)
def pnsC : List PN → List C
  | [] => []
  | p :: l => [.val p.val, .int p.pl p.hp] ++ pnsC l
theorem pnsC_size : ∀ l : List PN, sizeC (pnsC l) = 2 * l.length
  | [] => rfl
  | _ :: l => by rw [pnsC, sizeC_append, pnsC_size l, List.length_cons]; show 2 + _ = _; omega
theorem pnsC_append : ∀ a b : List PN, pnsC (a ++ b) = pnsC a ++ pnsC b
  | [], _ => rfl
  | _ :: l, b => by rw [List.cons_append, pnsC, pnsC_append l b, pnsC, List.append_assoc]
theorem pnsC_pure : ∀ l : List PN, PureL (pnsC l)
  | [] => fun _ _ => rfl
  | _ :: l => pureL_append (fun _ _ => rfl) (pnsC_pure l)
theorem subC_pn (l : List PN) {k : Nat} (hk : k < l.length) : subC (pnsC l) (0 + k * 2) 2 = some [.val l[k].val, .int l[k].pl l[k].hp] := by
  have e : pnsC l = pnsC (l.take k) ++ ([.val l[k].val, .int l[k].pl l[k].hp] ++ pnsC (l.drop (k + 1))) := by
    have h : l = l.take k ++ (l[k] :: l.drop (k + 1)) := by rw [← List.drop_eq_getElem_cons hk, List.take_append_drop]
    rw [show pnsC l = pnsC (l.take k ++ (l[k] :: l.drop (k + 1))) by rw [← h], pnsC_append]
    rfl
  have s : sizeC (pnsC (l.take k)) = 0 + k * 2 := by rw [pnsC_size]; simp; omega
  rw [e, ← s]
  exact subC_app _ [.val l[k].val, .int l[k].pl l[k].hp] _
theorem subC_pn1 (l : List PN) {k : Nat} (hk : k < l.length) : subC (pnsC l) (0 + k * 2) 1 = some [.val l[k].val] := by
  have h := subC_sub (subC_pn l hk) (o := 0) (k := 1) (r := [.val l[k].val]) rfl
  exact h
theorem subC_pn2 (l : List PN) {k : Nat} (hk : k < l.length) : subC (pnsC l) (0 + k * 2 + 1) 1 = some [.int l[k].pl l[k].hp] := subC_sub (subC_pn l hk) (o := 1) (k := 1) (r := [.int l[k].pl l[k].hp]) rfl
theorem subC_cor (p : PN) : subC (ptsC p.full) 0 (p.len * 3) = some (ptsC p.cor) := by
  have h := subC_app [] (ptsC p.cor) (ptsC (p.full.drop p.len))
  rw [← ptsC_append, List.nil_append, PN.cor, List.take_append_drop, ptsC_size, List.length_take, Nat.min_eq_left p.hl, Nat.mul_comm] at h
  exact h
/-- a polygon of one's own with the corners -/
def PN.own (p : PN) (r c : Nat) (h : SliOk false p.len c) : PY := ⟨false, r, 0, p.len, c, h, p.cor, by unfold PN.cor; rw [List.length_take]; exact Nat.le_min.2 ⟨Nat.le_refl _, p.hl⟩, p.pl, p.hp⟩
theorem PN.len0 {p : PN} (h : p.cap = 0) : p.len = 0 := by have := p.ok.1; omega
theorem PN.val0 {p : PN} (h : p.cap = 0) : p.val = .slice p.a 0 0 := by unfold PN.val; rw [p.len0 h, h]
theorem PN.cor0 {p : PN} (h : p.cap = 0) : p.cor = [] := by unfold PN.cor; rw [p.len0 h]; rfl
theorem in_famN {hp : List Blk} {fb : Nat} {fam : List Ent} {b : Blk} {o : Bool} {p : PN} (h : p.In fam) (h1 : nthO hp fb = some b) (h2 : b.famOf = some (o, fam)) : ptsC p.full = [] ∨ famHas hp fb (p.r, p.o) (ptsC p.full) := h.imp id fun h => ⟨_, _, _, h1, h2, h⟩
/-- where a polygon's corners lie, if they are one's own -/
def PY.ent (p : PY) : Ent := ⟨(p.r, 0), ptsC p.full, 34, (p.cap - p.len) * 3⟩
structure OwI (L : List PN) (k : Nat) (fam : List Ent) (o : OY) : Prop where
  k1 : k ≤ L.length
  len : o.l.length = k
  eq : ∀ i (h : i < o.l.length) (h2 : i < L.length), ∃ (r c : Nat) (ok : SliOk false L[i].len c), o.l[i] = L[i].own r c ok
  fm : fam = o.l.map PY.ent
  nd : fam.Pairwise fun x y => x.a.1 ≠ y.a.1
theorem OwI.zero (L : List PN) : OwI L 0 [] OY.none := ⟨Nat.zero_le _, rfl, fun i h => (by simp [OY.none] at h), rfl, List.Pairwise.nil⟩
theorem PN.own_ent (p : PN) (r c : Nat) (h : SliOk false p.len c) : (p.own r c h).ent = ⟨(r, 0), ptsC p.cor, 34, (c - p.len) * 3⟩ := rfl
theorem OwI.next {L : List PN} {k : Nat} {fam : List Ent} {o : OY} (h : OwI L k fam o) (hk : k < L.length) {r : Nat} (hr : ∀ e, e ∈ fam → e.a.1 ≠ r) {c : Nat} {ok : SliOk false L[k].len c} {c2 : Nat} {k2 : SliOk (o.nl && decide (1 = 0)) (o.l.length + 1) c2} {x : Ent} (hx : x = (L[k].own r c ok).ent) : OwI L (k + 1) (fam ++ [x]) (o.push [L[k].own r c ok] rfl c2 k2) := by
  subst hx
  refine ⟨hk, ?_, fun i hi h2 => ?_, ?_, ?_⟩
  · show (o.l ++ [_]).length = _; rw [List.length_append, h.len]; rfl
  · have hi : i < (o.l ++ [L[k].own r c ok]).length := hi
    show ∃ (r' c' : Nat) (ok' : SliOk false L[i].len c'), (o.l ++ [L[k].own r c ok])[i] = _
    rw [List.length_append, h.len] at hi
    by_cases hik : i < o.l.length
    · rw [List.getElem_append_left hik]
      exact h.eq i hik h2
    · obtain rfl : i = k := by have := h.len; simp at hi; omega
      rw [List.getElem_append_right (by omega)]
      exact ⟨r, c, ok, by simp [h.len]⟩
  · show _ = (o.l ++ [_]).map PY.ent
    rw [List.map_append, ← h.fm]; rfl
  · rw [List.pairwise_append]
    exact ⟨h.nd, List.pairwise_singleton _ _, fun a ha b hb => by rw [List.mem_singleton.1 hb]; exact hr a ha⟩
/-- the reckoner's world in Own -/
def envOw : Env := { envH 0 baseH [] with O := oimp (envH 0 baseH []) hN (ofzD (oClr tyT (oMap Tryd.prog tyT)) 1) 1, ord := fun id => Nat.beq id 5 }
theorem envOw_ok : EOk Tryd.prog envOw := ⟨(envH_ok baseH_ok .nil 0).T, (envH_ok baseH_ok .nil 0).D, oimp_ok (envH_ok baseH_ok .nil 0) hN_ok (ofzD_ok (envH_ok baseH_ok .nil 0).O 1) 1, (envH_ok baseH_ok .nil 0).R⟩
theorem ir_th {k : Nat} (h : k ≤ 1000) : IR k := by unfold IR; omega
def cOwn : NewC := fun args ros K => (∃ (nl : Bool) (cap : Nat) (ty : TypeId) (cs : List C) (fam : List Ent) (n : Nat) (L : List PN) (hl : SliOk nl n cap), args = [.c (.sli nl 0 0 n cap hl)] ∧ ros = [⟨.t ty, true, cs, 0⟩, ⟨.x fam, true, [], 3⟩] ∧ cs = pnsC L ∧ (n ≤ L.length ∧ n ≤ 1000) ∧ (∀ p ∈ L, p.len * 3 ≤ 17592186044416 ∧ p.In fam) ∧
    ∀ (o : OY) (fam2 : List Ent), OwI L n fam2 o → K (o.sl 2) [o.blk, ⟨.x fam2, true, [], 2⟩]) ∨
  ∃ (a : Option Addr) (c : Nat) (fam : List Ent), args = [.c (.val (.slice a 0 c))] ∧ ros = [⟨.x fam, true, [], 3⟩] ∧ ∀ (o : OY) (fam2 : List Ent), OwI [] 0 fam2 o → K (o.sl 1) [o.blk, ⟨.x fam2, true, [], 2⟩]
theorem own_okZ {p : PN} (h : p.cap = 0) {c : Nat} (h2 : SliOk (false && decide (0 = 0)) (0 + 0) c) : SliOk false p.len c := by rw [p.len0 h]; exact h2
theorem own_okN {p : PN} {x : Bool} {c : Nat} (h2 : SliOk (false && x) (0 + p.len) c) : SliOk false p.len c := by rw [Nat.zero_add] at h2; exact h2
theorem entZ {p : PN} (h : p.cap = 0) {r c : Nat} {ok : SliOk false p.len c} : (⟨(r, 0), [] ++ [], 34, (c - (0 + 0)) * 3⟩ : Ent) = (p.own r c ok).ent := by
  rw [PN.own_ent, p.cor0 h, p.len0 h]; rfl
theorem entN {p : PN} {r c : Nat} {ok : SliOk false p.len c} : (⟨(r, 0), [] ++ ptsC p.cor, 34, (c - (0 + p.len)) * 3⟩ : Ent) = (p.own r c ok).ent := by
  rw [PN.own_ent, Nat.zero_add]; rfl
theorem pushZ {p : PN} (h : p.cap = 0) {r c : Nat} {ok : SliOk false p.len c} (ρ : Rho) : cellsL ρ [.val (.slice (nlA (false && decide (0 = 0)) ⟨r, 0, none⟩) (0 + 0) c), .int p.pl p.hp] = cellsL ρ (pysC [p.own r c ok]) := by
  show [Value.slice (some ⟨r, 0, none⟩) 0 c, .int .i64 p.pl] = [Value.slice (some ⟨r, 0, none⟩) p.len c, .int .i64 p.pl]
  rw [p.len0 h]
theorem pushN {p : PN} {x : Bool} {r c : Nat} {ok : SliOk false p.len c} (ρ : Rho) : cellsL ρ [.val (.slice (nlA (false && x) ⟨r, 0, none⟩) (0 + p.len) c), .int p.pl p.hp] = cellsL ρ (pysC [p.own r c ok]) := by
  show [Value.slice (some ⟨r, 0, none⟩) (0 + p.len) c, .int .i64 p.pl] = [Value.slice (some ⟨r, 0, none⟩) p.len c, .int .i64 p.pl]
  rw [Nat.zero_add]
set_option maxHeartbeats 16000000 in
theorem csOwn : CSpX Tryd.prog 14 cOwn := csp_ofX envOw_ok mixed hN_ok ⟨Tryd.func14, by kernel_rfl, by kernel_rfl⟩ fun args ros K hc => by
  obtain ⟨nl, cap, ty, cs, fam, n, L, hl, rfl, rfl, rfl, ⟨hnL, hn1⟩, hin, hc⟩ | ⟨a, c, fam, rfl, rfl, hc⟩ := hc
  · refine ⟨fun ρ ρ' e => ?_, ?_⟩
    · have := e 0 (Nat.zero_lt_succ _)
      simp only [List.map, SV.den, C.den, C.cells, this]
    conv => whnf
    refine loop_st (G := {g : Nat × List Ent × OY // g.1 ≤ n ∧ OwI L g.1 g.2.1 g.2.2} × (Nat → Value)) (fun g => (.c (.sli nl 0 0 n cap hl) :: .c (.val (g.2 1)) :: .c (.val (g.2 2)) :: g.1.1.2.2.sl 3 :: .c (.int (g.1.1.1 : Nat) (ir_th (Nat.le_trans g.1.2.1 hn1))) :: .c (.val (g.2 5)) :: .c (.val (g.2 6)) :: .c (.val (g.2 7)) :: .c (.val (g.2 8)) :: .c (.val (g.2 9)) :: .c (.val (g.2 10)) :: .c (.val (g.2 11)) :: .c (.val (g.2 12)) :: .c (.val (g.2 13)) :: .c (.val (g.2 14)) :: .c (.val (g.2 15)) :: .c (.val (g.2 16)) :: .c (.val (g.2 17)) :: .c (.val (g.2 18)) :: .c (.val (g.2 19)) :: .c (.val (g.2 20)) :: .c (.val (g.2 21)) :: .c (.val (g.2 22)) :: .c (.val (g.2 23)) :: .c (.val (g.2 24)) :: .c (.val (g.2 25)) :: .c (.val (g.2 26)) :: .c (.val (g.2 27)) :: [])) (fun g => [⟨.t ty, true, pnsC L, 0⟩, ⟨.x fam, true, [], 3⟩, ⟨.x g.1.1.2.1, true, [], 2⟩, g.1.1.2.2.blk]) (fun g => n - g.1.1.1) ?_ ?_
    · refine ⟨[0, 1, 1000000, 1000 + 31], [0, 3, 4], [0], fun vs => ?_⟩
      conv => whnf
      refine ⟨pnsC_pure L, ?_⟩
      conv => whnf
      refine ⟨_, _, ?_, ?_, (⟨(0, [], OY.none), Nat.zero_le _, OwI.zero L⟩, vs), rfl, rfl⟩
      · exact ⟨fun _ => rfl, fun _ => rfl, fun _ => rfl, fun _ => rfl, fun _ => rfl, stm _⟩
      · exact ⟨⟨rfl, rfl, rfl, fun _ => rfl⟩, ⟨rfl, rfl, rfl, fun _ => rfl⟩, ⟨rfl, rfl, rfl, fun _ => rfl⟩, ⟨rfl, rfl, rfl, fun _ => rfl⟩, trivial⟩
    · rintro ⟨⟨⟨k, fam2, o⟩, hkn, hI⟩, vs⟩
      have hkn : k ≤ n := hkn
      have hI : OwI L k fam2 o := hI
      dsimp only
      conv => whnf
      refine bcase_intro (fun hlt => ?_) (fun hlt => ?_)
      · have hlt : k < n := n_lt hlt
        have hlF : k < L.length := Nat.lt_of_lt_of_le hlt hnL
        obtain ⟨p, hp⟩ : ∃ p, p = L[k] := ⟨_, rfl⟩
        have hpm := hin p (hp ▸ List.getElem_mem hlF)
        have pb : subC (pnsC L) (0 + k * 2 + 1) 1 = some [.int p.pl p.hp] := by subst hp; exact subC_pn2 L hlF
        by_cases hc0 : p.cap = 0
        · have pa : subC (pnsC L) (0 + k * 2 + 0) 1 = some [.val (.slice p.a 0 0)] := by rw [← p.val0 hc0]; subst hp; exact subC_pn1 L hlF
          conv => whnf
          conv =>
            arg 2
            tactic' =>
              apply eff_index_sli (k := k) (hi := (ir_th (Nat.le_trans hkn hn1))) (ho := ?how1) (hT := ?hTw1) (hx := ?hxw1) (hk := ?hkw1) (hlt := ?hltw1)
              case how1 => rfl
              case hTw1 => rfl
              case hxw1 => rfl
              case hkw1 => rfl
              case hltw1 => exact hlt
          conv => whnf
          conv =>
            arg 2
            tactic' =>
              apply eff_index_sli (k := k) (hi := (ir_th (Nat.le_trans hkn hn1))) (ho := ?how1) (hT := ?hTw1) (hx := ?hxw1) (hk := ?hkw1) (hlt := ?hltw1)
              case how1 => rfl
              case hTw1 => rfl
              case hxw1 => rfl
              case hkw1 => rfl
              case hltw1 => exact hlt
          conv => whnf
          refine ⟨?_, ?_, ?_, trivial⟩
          · conv => whnf
            conv =>
              arg 2
              tactic' =>
                apply eff_load_sub (ho := ?how2) (hT := ?hTw2) (hx := ?hxw2) (hb := ?hbw2) (hm := ?hmw2) (hv := ?hvw2)
                case how2 => rfl
                case hTw2 => rfl
                case hxw2 => rfl
                case hbw2 => rfl
                case hmw2 => exact pb
                case hvw2 => rfl
            conv => whnf
            refine ⟨?_, ?_, trivial⟩
            · conv => whnf
              refine ⟨?_, trivial⟩
              · conv => whnf
                conv =>
                  arg 2
                  tactic' =>
                    apply eff_load_sub (ho := ?how3) (hT := ?hTw3) (hx := ?hxw3) (hb := ?hbw3) (hm := ?hmw3) (hv := ?hvw3)
                    case how3 => rfl
                    case hTw3 => rfl
                    case hxw3 => rfl
                    case hbw3 => rfl
                    case hmw3 => exact pa
                    case hvw3 => rfl
                conv => whnf
                refine ⟨?_, trivial⟩
                · conv => whnf
                  refine .inl ?_
                  conv => whnf
                  refine .inl ?_
                  conv => whnf
                  refine .inl ?_
                  conv => whnf
                  refine ⟨⟨rfl, rfl, rfl, fun _ => rfl, by decide⟩, fun c2 k2 => ?_⟩
                  conv => whnf
                  refine ⟨?_, trivial⟩
                  conv => whnf
                  refine .inl ?_
                  conv => whnf
                  refine .inr ⟨2, 5, 6, ?_⟩
                  conv => whnf
                  refine ⟨⟨fun _ _ => rfl, rfl, rfl⟩, fun r hr => ?_⟩
                  have hr2 : ∀ e, e ∈ fam2 → e.a.1 ≠ r := hr.2.2.1
                  conv => whnf
                  refine .inl ?_
                  conv => whnf
                  refine ⟨rfl, ?_⟩
                  conv => whnf
                  refine ⟨OY.app o (m := 1) (by rw [hI.len]; omega), fun c3 k3 => ?_⟩
                  conv => whnf
                  subst hp
                  refine ⟨[0, 1, 2, 7], [0, 3, 4], [0, 3], fun vs3 => ?_⟩
                  conv => whnf
                  refine ⟨pnsC_pure L, pureL_append (pysC_pure _) (fun _ _ => rfl), ?_⟩
                  conv => whnf
                  have hnx : OwI L (k + 1) (fam2 ++ [(L[k].own r c2 (own_okZ hc0 k2)).ent]) (o.push [L[k].own r c2 (own_okZ hc0 k2)] rfl c3 k3) := hI.next hlF hr2 rfl
                  refine ⟨_, _, ?_, ?_, (⟨(k + 1, fam2 ++ [(L[k].own r c2 (own_okZ hc0 k2)).ent], o.push [L[k].own r c2 (own_okZ hc0 k2)] rfl c3 k3), hlt, hnx⟩, vs3), (by omega : n - (k + 1) < n - k), rfl, rfl⟩
                  · exact ⟨fun _ => rfl, fun _ => rfl, fun _ => rfl, fun ρ => o.push_sl (n := 1) [L[k].own r c2 (own_okZ hc0 k2)] rfl c3 k3 3 ρ, fun ρ => sint_e (wrap_add1 hlt (ir_th hn1)) ρ, stm _⟩
                  · exact ⟨⟨rfl, rfl, rfl, fun _ => rfl⟩, ⟨rfl, rfl, rfl, fun _ => rfl⟩, ⟨congrArg (fun x => TyX.x (fam2 ++ [x])) (entZ hc0), rfl, rfl, fun _ => rfl⟩, o.push_blk (n := 1) [L[k].own r c2 (own_okZ hc0 k2)] rfl c3 k3 (fun ρ => pushZ hc0 ρ), trivial⟩
            · conv => whnf
              conv =>
                arg 2
                tactic' =>
                  apply eff_load_sub (ho := ?how3) (hT := ?hTw3) (hx := ?hxw3) (hb := ?hbw3) (hm := ?hmw3) (hv := ?hvw3)
                  case how3 => rfl
                  case hTw3 => rfl
                  case hxw3 => rfl
                  case hbw3 => rfl
                  case hmw3 => exact pa
                  case hvw3 => rfl
              conv => whnf
              refine ⟨?_, trivial⟩
              · conv => whnf
                refine ⟨?_, trivial⟩
                · conv => whnf
                  refine .inl ?_
                  conv => whnf
                  refine .inl ?_
                  conv => whnf
                  refine .inl ?_
                  conv => whnf
                  refine ⟨⟨rfl, rfl, rfl, fun _ => rfl, by decide⟩, fun c2 k2 => ?_⟩
                  conv => whnf
                  refine ⟨?_, trivial⟩
                  conv => whnf
                  refine .inl ?_
                  conv => whnf
                  refine .inr ⟨2, 5, 6, ?_⟩
                  conv => whnf
                  refine ⟨⟨fun _ _ => rfl, rfl, rfl⟩, fun r hr => ?_⟩
                  have hr2 : ∀ e, e ∈ fam2 → e.a.1 ≠ r := hr.2.2.1
                  conv => whnf
                  refine .inl ?_
                  conv => whnf
                  refine ⟨rfl, ?_⟩
                  conv => whnf
                  refine ⟨OY.app o (m := 1) (by rw [hI.len]; omega), fun c3 k3 => ?_⟩
                  conv => whnf
                  subst hp
                  refine ⟨[0, 1, 2, 7], [0, 3, 4], [0, 3], fun vs3 => ?_⟩
                  conv => whnf
                  refine ⟨pnsC_pure L, pureL_append (pysC_pure _) (fun _ _ => rfl), ?_⟩
                  conv => whnf
                  have hnx : OwI L (k + 1) (fam2 ++ [(L[k].own r c2 (own_okZ hc0 k2)).ent]) (o.push [L[k].own r c2 (own_okZ hc0 k2)] rfl c3 k3) := hI.next hlF hr2 rfl
                  refine ⟨_, _, ?_, ?_, (⟨(k + 1, fam2 ++ [(L[k].own r c2 (own_okZ hc0 k2)).ent], o.push [L[k].own r c2 (own_okZ hc0 k2)] rfl c3 k3), hlt, hnx⟩, vs3), (by omega : n - (k + 1) < n - k), rfl, rfl⟩
                  · exact ⟨fun _ => rfl, fun _ => rfl, fun _ => rfl, fun ρ => o.push_sl (n := 1) [L[k].own r c2 (own_okZ hc0 k2)] rfl c3 k3 3 ρ, fun ρ => sint_e (wrap_add1 hlt (ir_th hn1)) ρ, stm _⟩
                  · exact ⟨⟨rfl, rfl, rfl, fun _ => rfl⟩, ⟨rfl, rfl, rfl, fun _ => rfl⟩, ⟨congrArg (fun x => TyX.x (fam2 ++ [x])) (entZ hc0), rfl, rfl, fun _ => rfl⟩, o.push_blk (n := 1) [L[k].own r c2 (own_okZ hc0 k2)] rfl c3 k3 (fun ρ => pushZ hc0 ρ), trivial⟩
          · conv => whnf
            refine ⟨?_, ?_, trivial⟩
            · conv => whnf
              conv =>
                arg 2
                tactic' =>
                  apply eff_load_sub (ho := ?how2) (hT := ?hTw2) (hx := ?hxw2) (hb := ?hbw2) (hm := ?hmw2) (hv := ?hvw2)
                  case how2 => rfl
                  case hTw2 => rfl
                  case hxw2 => rfl
                  case hbw2 => rfl
                  case hmw2 => exact pb
                  case hvw2 => rfl
              conv => whnf
              refine ⟨?_, trivial⟩
              · conv => whnf
                conv =>
                  arg 2
                  tactic' =>
                    apply eff_load_sub (ho := ?how3) (hT := ?hTw3) (hx := ?hxw3) (hb := ?hbw3) (hm := ?hmw3) (hv := ?hvw3)
                    case how3 => rfl
                    case hTw3 => rfl
                    case hxw3 => rfl
                    case hbw3 => rfl
                    case hmw3 => exact pa
                    case hvw3 => rfl
                conv => whnf
                refine ⟨?_, trivial⟩
                · conv => whnf
                  refine .inl ?_
                  conv => whnf
                  refine .inl ?_
                  conv => whnf
                  refine .inl ?_
                  conv => whnf
                  refine ⟨⟨rfl, rfl, rfl, fun _ => rfl, by decide⟩, fun c2 k2 => ?_⟩
                  conv => whnf
                  refine ⟨?_, trivial⟩
                  conv => whnf
                  refine .inl ?_
                  conv => whnf
                  refine .inr ⟨2, 5, 6, ?_⟩
                  conv => whnf
                  refine ⟨⟨fun _ _ => rfl, rfl, rfl⟩, fun r hr => ?_⟩
                  have hr2 : ∀ e, e ∈ fam2 → e.a.1 ≠ r := hr.2.2.1
                  conv => whnf
                  refine .inl ?_
                  conv => whnf
                  refine ⟨rfl, ?_⟩
                  conv => whnf
                  refine ⟨OY.app o (m := 1) (by rw [hI.len]; omega), fun c3 k3 => ?_⟩
                  conv => whnf
                  subst hp
                  refine ⟨[0, 1, 2, 7], [0, 3, 4], [0, 3], fun vs3 => ?_⟩
                  conv => whnf
                  refine ⟨pnsC_pure L, pureL_append (pysC_pure _) (fun _ _ => rfl), ?_⟩
                  conv => whnf
                  have hnx : OwI L (k + 1) (fam2 ++ [(L[k].own r c2 (own_okZ hc0 k2)).ent]) (o.push [L[k].own r c2 (own_okZ hc0 k2)] rfl c3 k3) := hI.next hlF hr2 rfl
                  refine ⟨_, _, ?_, ?_, (⟨(k + 1, fam2 ++ [(L[k].own r c2 (own_okZ hc0 k2)).ent], o.push [L[k].own r c2 (own_okZ hc0 k2)] rfl c3 k3), hlt, hnx⟩, vs3), (by omega : n - (k + 1) < n - k), rfl, rfl⟩
                  · exact ⟨fun _ => rfl, fun _ => rfl, fun _ => rfl, fun ρ => o.push_sl (n := 1) [L[k].own r c2 (own_okZ hc0 k2)] rfl c3 k3 3 ρ, fun ρ => sint_e (wrap_add1 hlt (ir_th hn1)) ρ, stm _⟩
                  · exact ⟨⟨rfl, rfl, rfl, fun _ => rfl⟩, ⟨rfl, rfl, rfl, fun _ => rfl⟩, ⟨congrArg (fun x => TyX.x (fam2 ++ [x])) (entZ hc0), rfl, rfl, fun _ => rfl⟩, o.push_blk (n := 1) [L[k].own r c2 (own_okZ hc0 k2)] rfl c3 k3 (fun ρ => pushZ hc0 ρ), trivial⟩
            · conv => whnf
              conv =>
                arg 2
                tactic' =>
                  apply eff_load_sub (ho := ?how3) (hT := ?hTw3) (hx := ?hxw3) (hb := ?hbw3) (hm := ?hmw3) (hv := ?hvw3)
                  case how3 => rfl
                  case hTw3 => rfl
                  case hxw3 => rfl
                  case hbw3 => rfl
                  case hmw3 => exact pa
                  case hvw3 => rfl
              conv => whnf
              refine ⟨?_, ?_, trivial⟩
              · conv => whnf
                conv =>
                  arg 2
                  tactic' =>
                    apply eff_load_sub (ho := ?how2) (hT := ?hTw2) (hx := ?hxw2) (hb := ?hbw2) (hm := ?hmw2) (hv := ?hvw2)
                    case how2 => rfl
                    case hTw2 => rfl
                    case hxw2 => rfl
                    case hbw2 => rfl
                    case hmw2 => exact pb
                    case hvw2 => rfl
                conv => whnf
                refine ⟨?_, trivial⟩
                · conv => whnf
                  refine .inl ?_
                  conv => whnf
                  refine .inl ?_
                  conv => whnf
                  refine .inl ?_
                  conv => whnf
                  refine ⟨⟨rfl, rfl, rfl, fun _ => rfl, by decide⟩, fun c2 k2 => ?_⟩
                  conv => whnf
                  refine ⟨?_, trivial⟩
                  conv => whnf
                  refine .inl ?_
                  conv => whnf
                  refine .inr ⟨2, 5, 6, ?_⟩
                  conv => whnf
                  refine ⟨⟨fun _ _ => rfl, rfl, rfl⟩, fun r hr => ?_⟩
                  have hr2 : ∀ e, e ∈ fam2 → e.a.1 ≠ r := hr.2.2.1
                  conv => whnf
                  refine .inl ?_
                  conv => whnf
                  refine ⟨rfl, ?_⟩
                  conv => whnf
                  refine ⟨OY.app o (m := 1) (by rw [hI.len]; omega), fun c3 k3 => ?_⟩
                  conv => whnf
                  subst hp
                  refine ⟨[0, 1, 2, 7], [0, 3, 4], [0, 3], fun vs3 => ?_⟩
                  conv => whnf
                  refine ⟨pnsC_pure L, pureL_append (pysC_pure _) (fun _ _ => rfl), ?_⟩
                  conv => whnf
                  have hnx : OwI L (k + 1) (fam2 ++ [(L[k].own r c2 (own_okZ hc0 k2)).ent]) (o.push [L[k].own r c2 (own_okZ hc0 k2)] rfl c3 k3) := hI.next hlF hr2 rfl
                  refine ⟨_, _, ?_, ?_, (⟨(k + 1, fam2 ++ [(L[k].own r c2 (own_okZ hc0 k2)).ent], o.push [L[k].own r c2 (own_okZ hc0 k2)] rfl c3 k3), hlt, hnx⟩, vs3), (by omega : n - (k + 1) < n - k), rfl, rfl⟩
                  · exact ⟨fun _ => rfl, fun _ => rfl, fun _ => rfl, fun ρ => o.push_sl (n := 1) [L[k].own r c2 (own_okZ hc0 k2)] rfl c3 k3 3 ρ, fun ρ => sint_e (wrap_add1 hlt (ir_th hn1)) ρ, stm _⟩
                  · exact ⟨⟨rfl, rfl, rfl, fun _ => rfl⟩, ⟨rfl, rfl, rfl, fun _ => rfl⟩, ⟨congrArg (fun x => TyX.x (fam2 ++ [x])) (entZ hc0), rfl, rfl, fun _ => rfl⟩, o.push_blk (n := 1) [L[k].own r c2 (own_okZ hc0 k2)] rfl c3 k3 (fun ρ => pushZ hc0 ρ), trivial⟩
              · conv => whnf
                refine .inl ?_
                conv => whnf
                refine .inl ?_
                conv => whnf
                refine .inl ?_
                conv => whnf
                refine ⟨⟨rfl, rfl, rfl, fun _ => rfl, by decide⟩, fun c2 k2 => ?_⟩
                conv => whnf
                refine ⟨?_, trivial⟩
                · conv => whnf
                  conv =>
                    arg 2
                    tactic' =>
                      apply eff_load_sub (ho := ?how2) (hT := ?hTw2) (hx := ?hxw2) (hb := ?hbw2) (hm := ?hmw2) (hv := ?hvw2)
                      case how2 => rfl
                      case hTw2 => rfl
                      case hxw2 => rfl
                      case hbw2 => rfl
                      case hmw2 => exact pb
                      case hvw2 => rfl
                  conv => whnf
                  refine ⟨?_, trivial⟩
                  conv => whnf
                  refine .inl ?_
                  conv => whnf
                  refine .inr ⟨2, 5, 6, ?_⟩
                  conv => whnf
                  refine ⟨⟨fun _ _ => rfl, rfl, rfl⟩, fun r hr => ?_⟩
                  have hr2 : ∀ e, e ∈ fam2 → e.a.1 ≠ r := hr.2.2.1
                  conv => whnf
                  refine .inl ?_
                  conv => whnf
                  refine ⟨rfl, ?_⟩
                  conv => whnf
                  refine ⟨OY.app o (m := 1) (by rw [hI.len]; omega), fun c3 k3 => ?_⟩
                  conv => whnf
                  subst hp
                  refine ⟨[0, 1, 2, 7], [0, 3, 4], [0, 3], fun vs3 => ?_⟩
                  conv => whnf
                  refine ⟨pnsC_pure L, pureL_append (pysC_pure _) (fun _ _ => rfl), ?_⟩
                  conv => whnf
                  have hnx : OwI L (k + 1) (fam2 ++ [(L[k].own r c2 (own_okZ hc0 k2)).ent]) (o.push [L[k].own r c2 (own_okZ hc0 k2)] rfl c3 k3) := hI.next hlF hr2 rfl
                  refine ⟨_, _, ?_, ?_, (⟨(k + 1, fam2 ++ [(L[k].own r c2 (own_okZ hc0 k2)).ent], o.push [L[k].own r c2 (own_okZ hc0 k2)] rfl c3 k3), hlt, hnx⟩, vs3), (by omega : n - (k + 1) < n - k), rfl, rfl⟩
                  · exact ⟨fun _ => rfl, fun _ => rfl, fun _ => rfl, fun ρ => o.push_sl (n := 1) [L[k].own r c2 (own_okZ hc0 k2)] rfl c3 k3 3 ρ, fun ρ => sint_e (wrap_add1 hlt (ir_th hn1)) ρ, stm _⟩
                  · exact ⟨⟨rfl, rfl, rfl, fun _ => rfl⟩, ⟨rfl, rfl, rfl, fun _ => rfl⟩, ⟨congrArg (fun x => TyX.x (fam2 ++ [x])) (entZ hc0), rfl, rfl, fun _ => rfl⟩, o.push_blk (n := 1) [L[k].own r c2 (own_okZ hc0 k2)] rfl c3 k3 (fun ρ => pushZ hc0 ρ), trivial⟩
          · conv => whnf
            conv =>
              arg 2
              tactic' =>
                apply eff_load_sub (ho := ?how3) (hT := ?hTw3) (hx := ?hxw3) (hb := ?hbw3) (hm := ?hmw3) (hv := ?hvw3)
                case how3 => rfl
                case hTw3 => rfl
                case hxw3 => rfl
                case hbw3 => rfl
                case hmw3 => exact pa
                case hvw3 => rfl
            conv => whnf
            refine ⟨?_, ?_, trivial⟩
            · conv => whnf
              conv =>
                arg 2
                tactic' =>
                  apply eff_load_sub (ho := ?how2) (hT := ?hTw2) (hx := ?hxw2) (hb := ?hbw2) (hm := ?hmw2) (hv := ?hvw2)
                  case how2 => rfl
                  case hTw2 => rfl
                  case hxw2 => rfl
                  case hbw2 => rfl
                  case hmw2 => exact pb
                  case hvw2 => rfl
              conv => whnf
              refine ⟨?_, trivial⟩
              · conv => whnf
                refine ⟨?_, trivial⟩
                · conv => whnf
                  refine .inl ?_
                  conv => whnf
                  refine .inl ?_
                  conv => whnf
                  refine .inl ?_
                  conv => whnf
                  refine ⟨⟨rfl, rfl, rfl, fun _ => rfl, by decide⟩, fun c2 k2 => ?_⟩
                  conv => whnf
                  refine ⟨?_, trivial⟩
                  conv => whnf
                  refine .inl ?_
                  conv => whnf
                  refine .inr ⟨2, 5, 6, ?_⟩
                  conv => whnf
                  refine ⟨⟨fun _ _ => rfl, rfl, rfl⟩, fun r hr => ?_⟩
                  have hr2 : ∀ e, e ∈ fam2 → e.a.1 ≠ r := hr.2.2.1
                  conv => whnf
                  refine .inl ?_
                  conv => whnf
                  refine ⟨rfl, ?_⟩
                  conv => whnf
                  refine ⟨OY.app o (m := 1) (by rw [hI.len]; omega), fun c3 k3 => ?_⟩
                  conv => whnf
                  subst hp
                  refine ⟨[0, 1, 2, 7], [0, 3, 4], [0, 3], fun vs3 => ?_⟩
                  conv => whnf
                  refine ⟨pnsC_pure L, pureL_append (pysC_pure _) (fun _ _ => rfl), ?_⟩
                  conv => whnf
                  have hnx : OwI L (k + 1) (fam2 ++ [(L[k].own r c2 (own_okZ hc0 k2)).ent]) (o.push [L[k].own r c2 (own_okZ hc0 k2)] rfl c3 k3) := hI.next hlF hr2 rfl
                  refine ⟨_, _, ?_, ?_, (⟨(k + 1, fam2 ++ [(L[k].own r c2 (own_okZ hc0 k2)).ent], o.push [L[k].own r c2 (own_okZ hc0 k2)] rfl c3 k3), hlt, hnx⟩, vs3), (by omega : n - (k + 1) < n - k), rfl, rfl⟩
                  · exact ⟨fun _ => rfl, fun _ => rfl, fun _ => rfl, fun ρ => o.push_sl (n := 1) [L[k].own r c2 (own_okZ hc0 k2)] rfl c3 k3 3 ρ, fun ρ => sint_e (wrap_add1 hlt (ir_th hn1)) ρ, stm _⟩
                  · exact ⟨⟨rfl, rfl, rfl, fun _ => rfl⟩, ⟨rfl, rfl, rfl, fun _ => rfl⟩, ⟨congrArg (fun x => TyX.x (fam2 ++ [x])) (entZ hc0), rfl, rfl, fun _ => rfl⟩, o.push_blk (n := 1) [L[k].own r c2 (own_okZ hc0 k2)] rfl c3 k3 (fun ρ => pushZ hc0 ρ), trivial⟩
            · conv => whnf
              refine ⟨?_, ?_, trivial⟩
              · conv => whnf
                conv =>
                  arg 2
                  tactic' =>
                    apply eff_load_sub (ho := ?how2) (hT := ?hTw2) (hx := ?hxw2) (hb := ?hbw2) (hm := ?hmw2) (hv := ?hvw2)
                    case how2 => rfl
                    case hTw2 => rfl
                    case hxw2 => rfl
                    case hbw2 => rfl
                    case hmw2 => exact pb
                    case hvw2 => rfl
                conv => whnf
                refine ⟨?_, trivial⟩
                · conv => whnf
                  refine .inl ?_
                  conv => whnf
                  refine .inl ?_
                  conv => whnf
                  refine .inl ?_
                  conv => whnf
                  refine ⟨⟨rfl, rfl, rfl, fun _ => rfl, by decide⟩, fun c2 k2 => ?_⟩
                  conv => whnf
                  refine ⟨?_, trivial⟩
                  conv => whnf
                  refine .inl ?_
                  conv => whnf
                  refine .inr ⟨2, 5, 6, ?_⟩
                  conv => whnf
                  refine ⟨⟨fun _ _ => rfl, rfl, rfl⟩, fun r hr => ?_⟩
                  have hr2 : ∀ e, e ∈ fam2 → e.a.1 ≠ r := hr.2.2.1
                  conv => whnf
                  refine .inl ?_
                  conv => whnf
                  refine ⟨rfl, ?_⟩
                  conv => whnf
                  refine ⟨OY.app o (m := 1) (by rw [hI.len]; omega), fun c3 k3 => ?_⟩
                  conv => whnf
                  subst hp
                  refine ⟨[0, 1, 2, 7], [0, 3, 4], [0, 3], fun vs3 => ?_⟩
                  conv => whnf
                  refine ⟨pnsC_pure L, pureL_append (pysC_pure _) (fun _ _ => rfl), ?_⟩
                  conv => whnf
                  have hnx : OwI L (k + 1) (fam2 ++ [(L[k].own r c2 (own_okZ hc0 k2)).ent]) (o.push [L[k].own r c2 (own_okZ hc0 k2)] rfl c3 k3) := hI.next hlF hr2 rfl
                  refine ⟨_, _, ?_, ?_, (⟨(k + 1, fam2 ++ [(L[k].own r c2 (own_okZ hc0 k2)).ent], o.push [L[k].own r c2 (own_okZ hc0 k2)] rfl c3 k3), hlt, hnx⟩, vs3), (by omega : n - (k + 1) < n - k), rfl, rfl⟩
                  · exact ⟨fun _ => rfl, fun _ => rfl, fun _ => rfl, fun ρ => o.push_sl (n := 1) [L[k].own r c2 (own_okZ hc0 k2)] rfl c3 k3 3 ρ, fun ρ => sint_e (wrap_add1 hlt (ir_th hn1)) ρ, stm _⟩
                  · exact ⟨⟨rfl, rfl, rfl, fun _ => rfl⟩, ⟨rfl, rfl, rfl, fun _ => rfl⟩, ⟨congrArg (fun x => TyX.x (fam2 ++ [x])) (entZ hc0), rfl, rfl, fun _ => rfl⟩, o.push_blk (n := 1) [L[k].own r c2 (own_okZ hc0 k2)] rfl c3 k3 (fun ρ => pushZ hc0 ρ), trivial⟩
              · conv => whnf
                refine .inl ?_
                conv => whnf
                refine .inl ?_
                conv => whnf
                refine .inl ?_
                conv => whnf
                refine ⟨⟨rfl, rfl, rfl, fun _ => rfl, by decide⟩, fun c2 k2 => ?_⟩
                conv => whnf
                refine ⟨?_, trivial⟩
                · conv => whnf
                  conv =>
                    arg 2
                    tactic' =>
                      apply eff_load_sub (ho := ?how2) (hT := ?hTw2) (hx := ?hxw2) (hb := ?hbw2) (hm := ?hmw2) (hv := ?hvw2)
                      case how2 => rfl
                      case hTw2 => rfl
                      case hxw2 => rfl
                      case hbw2 => rfl
                      case hmw2 => exact pb
                      case hvw2 => rfl
                  conv => whnf
                  refine ⟨?_, trivial⟩
                  conv => whnf
                  refine .inl ?_
                  conv => whnf
                  refine .inr ⟨2, 5, 6, ?_⟩
                  conv => whnf
                  refine ⟨⟨fun _ _ => rfl, rfl, rfl⟩, fun r hr => ?_⟩
                  have hr2 : ∀ e, e ∈ fam2 → e.a.1 ≠ r := hr.2.2.1
                  conv => whnf
                  refine .inl ?_
                  conv => whnf
                  refine ⟨rfl, ?_⟩
                  conv => whnf
                  refine ⟨OY.app o (m := 1) (by rw [hI.len]; omega), fun c3 k3 => ?_⟩
                  conv => whnf
                  subst hp
                  refine ⟨[0, 1, 2, 7], [0, 3, 4], [0, 3], fun vs3 => ?_⟩
                  conv => whnf
                  refine ⟨pnsC_pure L, pureL_append (pysC_pure _) (fun _ _ => rfl), ?_⟩
                  conv => whnf
                  have hnx : OwI L (k + 1) (fam2 ++ [(L[k].own r c2 (own_okZ hc0 k2)).ent]) (o.push [L[k].own r c2 (own_okZ hc0 k2)] rfl c3 k3) := hI.next hlF hr2 rfl
                  refine ⟨_, _, ?_, ?_, (⟨(k + 1, fam2 ++ [(L[k].own r c2 (own_okZ hc0 k2)).ent], o.push [L[k].own r c2 (own_okZ hc0 k2)] rfl c3 k3), hlt, hnx⟩, vs3), (by omega : n - (k + 1) < n - k), rfl, rfl⟩
                  · exact ⟨fun _ => rfl, fun _ => rfl, fun _ => rfl, fun ρ => o.push_sl (n := 1) [L[k].own r c2 (own_okZ hc0 k2)] rfl c3 k3 3 ρ, fun ρ => sint_e (wrap_add1 hlt (ir_th hn1)) ρ, stm _⟩
                  · exact ⟨⟨rfl, rfl, rfl, fun _ => rfl⟩, ⟨rfl, rfl, rfl, fun _ => rfl⟩, ⟨congrArg (fun x => TyX.x (fam2 ++ [x])) (entZ hc0), rfl, rfl, fun _ => rfl⟩, o.push_blk (n := 1) [L[k].own r c2 (own_okZ hc0 k2)] rfl c3 k3 (fun ρ => pushZ hc0 ρ), trivial⟩
        · have pa : subC (pnsC L) (0 + k * 2 + 0) 1 = some [.val p.val] := by subst hp; exact subC_pn1 L hlF
          conv => whnf
          conv =>
            arg 2
            tactic' =>
              apply eff_index_sli (k := k) (hi := (ir_th (Nat.le_trans hkn hn1))) (ho := ?how1) (hT := ?hTw1) (hx := ?hxw1) (hk := ?hkw1) (hlt := ?hltw1)
              case how1 => rfl
              case hTw1 => rfl
              case hxw1 => rfl
              case hkw1 => rfl
              case hltw1 => exact hlt
          conv => whnf
          conv =>
            arg 2
            tactic' =>
              apply eff_index_sli (k := k) (hi := (ir_th (Nat.le_trans hkn hn1))) (ho := ?how1) (hT := ?hTw1) (hx := ?hxw1) (hk := ?hkw1) (hlt := ?hltw1)
              case how1 => rfl
              case hTw1 => rfl
              case hxw1 => rfl
              case hkw1 => rfl
              case hltw1 => exact hlt
          conv => whnf
          refine ⟨?_, ?_, ?_, trivial⟩
          · conv => whnf
            conv =>
              arg 2
              tactic' =>
                apply eff_load_sub (ho := ?how4) (hT := ?hTw4) (hx := ?hxw4) (hb := ?hbw4) (hm := ?hmw4) (hv := ?hvw4)
                case how4 => rfl
                case hTw4 => rfl
                case hxw4 => rfl
                case hbw4 => rfl
                case hmw4 => exact pb
                case hvw4 => rfl
            conv => whnf
            refine ⟨?_, ?_, trivial⟩
            · conv => whnf
              refine ⟨?_, trivial⟩
              · conv => whnf
                conv =>
                  arg 2
                  tactic' =>
                    apply eff_load_sub (ho := ?how5) (hT := ?hTw5) (hx := ?hxw5) (hb := ?hbw5) (hm := ?hmw5) (hv := ?hvw5)
                    case how5 => rfl
                    case hTw5 => rfl
                    case hxw5 => rfl
                    case hbw5 => rfl
                    case hmw5 => exact pa
                    case hvw5 => rfl
                conv => whnf
                refine ⟨?_, trivial⟩
                · conv => whnf
                  refine .inr ⟨22, ?_⟩
                  conv => whnf
                  refine ⟨p.nl, p.r, p.o, p.len, p.cap, p.ok, 34, ptsC p.full, 1, p.val_eq hc0, in_famN hpm.2 rfl rfl, ?_⟩
                  conv => whnf
                  refine .inl ?_
                  conv => whnf
                  refine .inl ?_
                  conv => whnf
                  conv =>
                    arg 2
                    tactic' => exact subC_cor p
                  conv => whnf
                  refine ⟨allOne_pts _, ?_⟩
                  conv => whnf
                  refine ⟨⟨rfl, rfl, rfl, fun _ => rfl, by have := hpm.1; omega⟩, fun c2 k2 => ?_⟩
                  conv => whnf
                  refine ⟨?_, trivial⟩
                  conv => whnf
                  refine .inl ?_
                  conv => whnf
                  refine .inr ⟨2, 6, 7, ?_⟩
                  conv => whnf
                  refine ⟨⟨pureL_append (fun _ _ => rfl) (ptsC_pure _), rfl, rfl⟩, fun r hr => ?_⟩
                  have hr2 : ∀ e, e ∈ fam2 → e.a.1 ≠ r := hr.2.2.1
                  conv => whnf
                  refine .inl ?_
                  conv => whnf
                  refine ⟨rfl, ?_⟩
                  conv => whnf
                  refine ⟨OY.app o (m := 1) (by rw [hI.len]; omega), fun c3 k3 => ?_⟩
                  conv => whnf
                  subst hp
                  refine ⟨[0, 1, 2, 8], [0, 3, 4], [0, 3], fun vs3 => ?_⟩
                  conv => whnf
                  refine ⟨pnsC_pure L, pureL_append (pysC_pure _) (fun _ _ => rfl), ?_⟩
                  conv => whnf
                  have hnx : OwI L (k + 1) (fam2 ++ [(L[k].own r c2 (own_okN k2)).ent]) (o.push [L[k].own r c2 (own_okN k2)] rfl c3 k3) := hI.next hlF hr2 rfl
                  refine ⟨_, _, ?_, ?_, (⟨(k + 1, fam2 ++ [(L[k].own r c2 (own_okN k2)).ent], o.push [L[k].own r c2 (own_okN k2)] rfl c3 k3), hlt, hnx⟩, vs3), (by omega : n - (k + 1) < n - k), rfl, rfl⟩
                  · exact ⟨fun _ => rfl, fun _ => rfl, fun _ => rfl, fun ρ => o.push_sl (n := 1) [L[k].own r c2 (own_okN k2)] rfl c3 k3 3 ρ, fun ρ => sint_e (wrap_add1 hlt (ir_th hn1)) ρ, stm _⟩
                  · exact ⟨⟨rfl, rfl, rfl, fun _ => rfl⟩, ⟨rfl, rfl, rfl, fun _ => rfl⟩, ⟨congrArg (fun x => TyX.x (fam2 ++ [x])) (entN), rfl, rfl, fun _ => rfl⟩, o.push_blk (n := 1) [L[k].own r c2 (own_okN k2)] rfl c3 k3 (fun ρ => pushN ρ), trivial⟩
            · conv => whnf
              conv =>
                arg 2
                tactic' =>
                  apply eff_load_sub (ho := ?how5) (hT := ?hTw5) (hx := ?hxw5) (hb := ?hbw5) (hm := ?hmw5) (hv := ?hvw5)
                  case how5 => rfl
                  case hTw5 => rfl
                  case hxw5 => rfl
                  case hbw5 => rfl
                  case hmw5 => exact pa
                  case hvw5 => rfl
              conv => whnf
              refine ⟨?_, trivial⟩
              · conv => whnf
                refine ⟨?_, trivial⟩
                · conv => whnf
                  refine .inr ⟨22, ?_⟩
                  conv => whnf
                  refine ⟨p.nl, p.r, p.o, p.len, p.cap, p.ok, 34, ptsC p.full, 1, p.val_eq hc0, in_famN hpm.2 rfl rfl, ?_⟩
                  conv => whnf
                  refine .inl ?_
                  conv => whnf
                  refine .inl ?_
                  conv => whnf
                  conv =>
                    arg 2
                    tactic' => exact subC_cor p
                  conv => whnf
                  refine ⟨allOne_pts _, ?_⟩
                  conv => whnf
                  refine ⟨⟨rfl, rfl, rfl, fun _ => rfl, by have := hpm.1; omega⟩, fun c2 k2 => ?_⟩
                  conv => whnf
                  refine ⟨?_, trivial⟩
                  conv => whnf
                  refine .inl ?_
                  conv => whnf
                  refine .inr ⟨2, 6, 7, ?_⟩
                  conv => whnf
                  refine ⟨⟨pureL_append (fun _ _ => rfl) (ptsC_pure _), rfl, rfl⟩, fun r hr => ?_⟩
                  have hr2 : ∀ e, e ∈ fam2 → e.a.1 ≠ r := hr.2.2.1
                  conv => whnf
                  refine .inl ?_
                  conv => whnf
                  refine ⟨rfl, ?_⟩
                  conv => whnf
                  refine ⟨OY.app o (m := 1) (by rw [hI.len]; omega), fun c3 k3 => ?_⟩
                  conv => whnf
                  subst hp
                  refine ⟨[0, 1, 2, 8], [0, 3, 4], [0, 3], fun vs3 => ?_⟩
                  conv => whnf
                  refine ⟨pnsC_pure L, pureL_append (pysC_pure _) (fun _ _ => rfl), ?_⟩
                  conv => whnf
                  have hnx : OwI L (k + 1) (fam2 ++ [(L[k].own r c2 (own_okN k2)).ent]) (o.push [L[k].own r c2 (own_okN k2)] rfl c3 k3) := hI.next hlF hr2 rfl
                  refine ⟨_, _, ?_, ?_, (⟨(k + 1, fam2 ++ [(L[k].own r c2 (own_okN k2)).ent], o.push [L[k].own r c2 (own_okN k2)] rfl c3 k3), hlt, hnx⟩, vs3), (by omega : n - (k + 1) < n - k), rfl, rfl⟩
                  · exact ⟨fun _ => rfl, fun _ => rfl, fun _ => rfl, fun ρ => o.push_sl (n := 1) [L[k].own r c2 (own_okN k2)] rfl c3 k3 3 ρ, fun ρ => sint_e (wrap_add1 hlt (ir_th hn1)) ρ, stm _⟩
                  · exact ⟨⟨rfl, rfl, rfl, fun _ => rfl⟩, ⟨rfl, rfl, rfl, fun _ => rfl⟩, ⟨congrArg (fun x => TyX.x (fam2 ++ [x])) (entN), rfl, rfl, fun _ => rfl⟩, o.push_blk (n := 1) [L[k].own r c2 (own_okN k2)] rfl c3 k3 (fun ρ => pushN ρ), trivial⟩
          · conv => whnf
            refine ⟨?_, ?_, trivial⟩
            · conv => whnf
              conv =>
                arg 2
                tactic' =>
                  apply eff_load_sub (ho := ?how4) (hT := ?hTw4) (hx := ?hxw4) (hb := ?hbw4) (hm := ?hmw4) (hv := ?hvw4)
                  case how4 => rfl
                  case hTw4 => rfl
                  case hxw4 => rfl
                  case hbw4 => rfl
                  case hmw4 => exact pb
                  case hvw4 => rfl
              conv => whnf
              refine ⟨?_, trivial⟩
              · conv => whnf
                conv =>
                  arg 2
                  tactic' =>
                    apply eff_load_sub (ho := ?how5) (hT := ?hTw5) (hx := ?hxw5) (hb := ?hbw5) (hm := ?hmw5) (hv := ?hvw5)
                    case how5 => rfl
                    case hTw5 => rfl
                    case hxw5 => rfl
                    case hbw5 => rfl
                    case hmw5 => exact pa
                    case hvw5 => rfl
                conv => whnf
                refine ⟨?_, trivial⟩
                · conv => whnf
                  refine .inr ⟨22, ?_⟩
                  conv => whnf
                  refine ⟨p.nl, p.r, p.o, p.len, p.cap, p.ok, 34, ptsC p.full, 1, p.val_eq hc0, in_famN hpm.2 rfl rfl, ?_⟩
                  conv => whnf
                  refine .inl ?_
                  conv => whnf
                  refine .inl ?_
                  conv => whnf
                  conv =>
                    arg 2
                    tactic' => exact subC_cor p
                  conv => whnf
                  refine ⟨allOne_pts _, ?_⟩
                  conv => whnf
                  refine ⟨⟨rfl, rfl, rfl, fun _ => rfl, by have := hpm.1; omega⟩, fun c2 k2 => ?_⟩
                  conv => whnf
                  refine ⟨?_, trivial⟩
                  conv => whnf
                  refine .inl ?_
                  conv => whnf
                  refine .inr ⟨2, 6, 7, ?_⟩
                  conv => whnf
                  refine ⟨⟨pureL_append (fun _ _ => rfl) (ptsC_pure _), rfl, rfl⟩, fun r hr => ?_⟩
                  have hr2 : ∀ e, e ∈ fam2 → e.a.1 ≠ r := hr.2.2.1
                  conv => whnf
                  refine .inl ?_
                  conv => whnf
                  refine ⟨rfl, ?_⟩
                  conv => whnf
                  refine ⟨OY.app o (m := 1) (by rw [hI.len]; omega), fun c3 k3 => ?_⟩
                  conv => whnf
                  subst hp
                  refine ⟨[0, 1, 2, 8], [0, 3, 4], [0, 3], fun vs3 => ?_⟩
                  conv => whnf
                  refine ⟨pnsC_pure L, pureL_append (pysC_pure _) (fun _ _ => rfl), ?_⟩
                  conv => whnf
                  have hnx : OwI L (k + 1) (fam2 ++ [(L[k].own r c2 (own_okN k2)).ent]) (o.push [L[k].own r c2 (own_okN k2)] rfl c3 k3) := hI.next hlF hr2 rfl
                  refine ⟨_, _, ?_, ?_, (⟨(k + 1, fam2 ++ [(L[k].own r c2 (own_okN k2)).ent], o.push [L[k].own r c2 (own_okN k2)] rfl c3 k3), hlt, hnx⟩, vs3), (by omega : n - (k + 1) < n - k), rfl, rfl⟩
                  · exact ⟨fun _ => rfl, fun _ => rfl, fun _ => rfl, fun ρ => o.push_sl (n := 1) [L[k].own r c2 (own_okN k2)] rfl c3 k3 3 ρ, fun ρ => sint_e (wrap_add1 hlt (ir_th hn1)) ρ, stm _⟩
                  · exact ⟨⟨rfl, rfl, rfl, fun _ => rfl⟩, ⟨rfl, rfl, rfl, fun _ => rfl⟩, ⟨congrArg (fun x => TyX.x (fam2 ++ [x])) (entN), rfl, rfl, fun _ => rfl⟩, o.push_blk (n := 1) [L[k].own r c2 (own_okN k2)] rfl c3 k3 (fun ρ => pushN ρ), trivial⟩
            · conv => whnf
              conv =>
                arg 2
                tactic' =>
                  apply eff_load_sub (ho := ?how5) (hT := ?hTw5) (hx := ?hxw5) (hb := ?hbw5) (hm := ?hmw5) (hv := ?hvw5)
                  case how5 => rfl
                  case hTw5 => rfl
                  case hxw5 => rfl
                  case hbw5 => rfl
                  case hmw5 => exact pa
                  case hvw5 => rfl
              conv => whnf
              refine ⟨?_, ?_, trivial⟩
              · conv => whnf
                conv =>
                  arg 2
                  tactic' =>
                    apply eff_load_sub (ho := ?how4) (hT := ?hTw4) (hx := ?hxw4) (hb := ?hbw4) (hm := ?hmw4) (hv := ?hvw4)
                    case how4 => rfl
                    case hTw4 => rfl
                    case hxw4 => rfl
                    case hbw4 => rfl
                    case hmw4 => exact pb
                    case hvw4 => rfl
                conv => whnf
                refine ⟨?_, trivial⟩
                · conv => whnf
                  refine .inr ⟨22, ?_⟩
                  conv => whnf
                  refine ⟨p.nl, p.r, p.o, p.len, p.cap, p.ok, 34, ptsC p.full, 1, p.val_eq hc0, in_famN hpm.2 rfl rfl, ?_⟩
                  conv => whnf
                  refine .inl ?_
                  conv => whnf
                  refine .inl ?_
                  conv => whnf
                  conv =>
                    arg 2
                    tactic' => exact subC_cor p
                  conv => whnf
                  refine ⟨allOne_pts _, ?_⟩
                  conv => whnf
                  refine ⟨⟨rfl, rfl, rfl, fun _ => rfl, by have := hpm.1; omega⟩, fun c2 k2 => ?_⟩
                  conv => whnf
                  refine ⟨?_, trivial⟩
                  conv => whnf
                  refine .inl ?_
                  conv => whnf
                  refine .inr ⟨2, 6, 7, ?_⟩
                  conv => whnf
                  refine ⟨⟨pureL_append (fun _ _ => rfl) (ptsC_pure _), rfl, rfl⟩, fun r hr => ?_⟩
                  have hr2 : ∀ e, e ∈ fam2 → e.a.1 ≠ r := hr.2.2.1
                  conv => whnf
                  refine .inl ?_
                  conv => whnf
                  refine ⟨rfl, ?_⟩
                  conv => whnf
                  refine ⟨OY.app o (m := 1) (by rw [hI.len]; omega), fun c3 k3 => ?_⟩
                  conv => whnf
                  subst hp
                  refine ⟨[0, 1, 2, 8], [0, 3, 4], [0, 3], fun vs3 => ?_⟩
                  conv => whnf
                  refine ⟨pnsC_pure L, pureL_append (pysC_pure _) (fun _ _ => rfl), ?_⟩
                  conv => whnf
                  have hnx : OwI L (k + 1) (fam2 ++ [(L[k].own r c2 (own_okN k2)).ent]) (o.push [L[k].own r c2 (own_okN k2)] rfl c3 k3) := hI.next hlF hr2 rfl
                  refine ⟨_, _, ?_, ?_, (⟨(k + 1, fam2 ++ [(L[k].own r c2 (own_okN k2)).ent], o.push [L[k].own r c2 (own_okN k2)] rfl c3 k3), hlt, hnx⟩, vs3), (by omega : n - (k + 1) < n - k), rfl, rfl⟩
                  · exact ⟨fun _ => rfl, fun _ => rfl, fun _ => rfl, fun ρ => o.push_sl (n := 1) [L[k].own r c2 (own_okN k2)] rfl c3 k3 3 ρ, fun ρ => sint_e (wrap_add1 hlt (ir_th hn1)) ρ, stm _⟩
                  · exact ⟨⟨rfl, rfl, rfl, fun _ => rfl⟩, ⟨rfl, rfl, rfl, fun _ => rfl⟩, ⟨congrArg (fun x => TyX.x (fam2 ++ [x])) (entN), rfl, rfl, fun _ => rfl⟩, o.push_blk (n := 1) [L[k].own r c2 (own_okN k2)] rfl c3 k3 (fun ρ => pushN ρ), trivial⟩
              · conv => whnf
                refine .inr ⟨22, ?_⟩
                conv => whnf
                refine ⟨p.nl, p.r, p.o, p.len, p.cap, p.ok, 34, ptsC p.full, 1, p.val_eq hc0, in_famN hpm.2 rfl rfl, ?_⟩
                conv => whnf
                refine .inl ?_
                conv => whnf
                refine .inl ?_
                conv => whnf
                conv =>
                  arg 2
                  tactic' => exact subC_cor p
                conv => whnf
                refine ⟨allOne_pts _, ?_⟩
                conv => whnf
                refine ⟨⟨rfl, rfl, rfl, fun _ => rfl, by have := hpm.1; omega⟩, fun c2 k2 => ?_⟩
                conv => whnf
                refine ⟨?_, trivial⟩
                · conv => whnf
                  conv =>
                    arg 2
                    tactic' =>
                      apply eff_load_sub (ho := ?how4) (hT := ?hTw4) (hx := ?hxw4) (hb := ?hbw4) (hm := ?hmw4) (hv := ?hvw4)
                      case how4 => rfl
                      case hTw4 => rfl
                      case hxw4 => rfl
                      case hbw4 => rfl
                      case hmw4 => exact pb
                      case hvw4 => rfl
                  conv => whnf
                  refine ⟨?_, trivial⟩
                  conv => whnf
                  refine .inl ?_
                  conv => whnf
                  refine .inr ⟨2, 6, 7, ?_⟩
                  conv => whnf
                  refine ⟨⟨pureL_append (fun _ _ => rfl) (ptsC_pure _), rfl, rfl⟩, fun r hr => ?_⟩
                  have hr2 : ∀ e, e ∈ fam2 → e.a.1 ≠ r := hr.2.2.1
                  conv => whnf
                  refine .inl ?_
                  conv => whnf
                  refine ⟨rfl, ?_⟩
                  conv => whnf
                  refine ⟨OY.app o (m := 1) (by rw [hI.len]; omega), fun c3 k3 => ?_⟩
                  conv => whnf
                  subst hp
                  refine ⟨[0, 1, 2, 8], [0, 3, 4], [0, 3], fun vs3 => ?_⟩
                  conv => whnf
                  refine ⟨pnsC_pure L, pureL_append (pysC_pure _) (fun _ _ => rfl), ?_⟩
                  conv => whnf
                  have hnx : OwI L (k + 1) (fam2 ++ [(L[k].own r c2 (own_okN k2)).ent]) (o.push [L[k].own r c2 (own_okN k2)] rfl c3 k3) := hI.next hlF hr2 rfl
                  refine ⟨_, _, ?_, ?_, (⟨(k + 1, fam2 ++ [(L[k].own r c2 (own_okN k2)).ent], o.push [L[k].own r c2 (own_okN k2)] rfl c3 k3), hlt, hnx⟩, vs3), (by omega : n - (k + 1) < n - k), rfl, rfl⟩
                  · exact ⟨fun _ => rfl, fun _ => rfl, fun _ => rfl, fun ρ => o.push_sl (n := 1) [L[k].own r c2 (own_okN k2)] rfl c3 k3 3 ρ, fun ρ => sint_e (wrap_add1 hlt (ir_th hn1)) ρ, stm _⟩
                  · exact ⟨⟨rfl, rfl, rfl, fun _ => rfl⟩, ⟨rfl, rfl, rfl, fun _ => rfl⟩, ⟨congrArg (fun x => TyX.x (fam2 ++ [x])) (entN), rfl, rfl, fun _ => rfl⟩, o.push_blk (n := 1) [L[k].own r c2 (own_okN k2)] rfl c3 k3 (fun ρ => pushN ρ), trivial⟩
          · conv => whnf
            conv =>
              arg 2
              tactic' =>
                apply eff_load_sub (ho := ?how5) (hT := ?hTw5) (hx := ?hxw5) (hb := ?hbw5) (hm := ?hmw5) (hv := ?hvw5)
                case how5 => rfl
                case hTw5 => rfl
                case hxw5 => rfl
                case hbw5 => rfl
                case hmw5 => exact pa
                case hvw5 => rfl
            conv => whnf
            refine ⟨?_, ?_, trivial⟩
            · conv => whnf
              conv =>
                arg 2
                tactic' =>
                  apply eff_load_sub (ho := ?how4) (hT := ?hTw4) (hx := ?hxw4) (hb := ?hbw4) (hm := ?hmw4) (hv := ?hvw4)
                  case how4 => rfl
                  case hTw4 => rfl
                  case hxw4 => rfl
                  case hbw4 => rfl
                  case hmw4 => exact pb
                  case hvw4 => rfl
              conv => whnf
              refine ⟨?_, trivial⟩
              · conv => whnf
                refine ⟨?_, trivial⟩
                · conv => whnf
                  refine .inr ⟨22, ?_⟩
                  conv => whnf
                  refine ⟨p.nl, p.r, p.o, p.len, p.cap, p.ok, 34, ptsC p.full, 1, p.val_eq hc0, in_famN hpm.2 rfl rfl, ?_⟩
                  conv => whnf
                  refine .inl ?_
                  conv => whnf
                  refine .inl ?_
                  conv => whnf
                  conv =>
                    arg 2
                    tactic' => exact subC_cor p
                  conv => whnf
                  refine ⟨allOne_pts _, ?_⟩
                  conv => whnf
                  refine ⟨⟨rfl, rfl, rfl, fun _ => rfl, by have := hpm.1; omega⟩, fun c2 k2 => ?_⟩
                  conv => whnf
                  refine ⟨?_, trivial⟩
                  conv => whnf
                  refine .inl ?_
                  conv => whnf
                  refine .inr ⟨2, 6, 7, ?_⟩
                  conv => whnf
                  refine ⟨⟨pureL_append (fun _ _ => rfl) (ptsC_pure _), rfl, rfl⟩, fun r hr => ?_⟩
                  have hr2 : ∀ e, e ∈ fam2 → e.a.1 ≠ r := hr.2.2.1
                  conv => whnf
                  refine .inl ?_
                  conv => whnf
                  refine ⟨rfl, ?_⟩
                  conv => whnf
                  refine ⟨OY.app o (m := 1) (by rw [hI.len]; omega), fun c3 k3 => ?_⟩
                  conv => whnf
                  subst hp
                  refine ⟨[0, 1, 2, 8], [0, 3, 4], [0, 3], fun vs3 => ?_⟩
                  conv => whnf
                  refine ⟨pnsC_pure L, pureL_append (pysC_pure _) (fun _ _ => rfl), ?_⟩
                  conv => whnf
                  have hnx : OwI L (k + 1) (fam2 ++ [(L[k].own r c2 (own_okN k2)).ent]) (o.push [L[k].own r c2 (own_okN k2)] rfl c3 k3) := hI.next hlF hr2 rfl
                  refine ⟨_, _, ?_, ?_, (⟨(k + 1, fam2 ++ [(L[k].own r c2 (own_okN k2)).ent], o.push [L[k].own r c2 (own_okN k2)] rfl c3 k3), hlt, hnx⟩, vs3), (by omega : n - (k + 1) < n - k), rfl, rfl⟩
                  · exact ⟨fun _ => rfl, fun _ => rfl, fun _ => rfl, fun ρ => o.push_sl (n := 1) [L[k].own r c2 (own_okN k2)] rfl c3 k3 3 ρ, fun ρ => sint_e (wrap_add1 hlt (ir_th hn1)) ρ, stm _⟩
                  · exact ⟨⟨rfl, rfl, rfl, fun _ => rfl⟩, ⟨rfl, rfl, rfl, fun _ => rfl⟩, ⟨congrArg (fun x => TyX.x (fam2 ++ [x])) (entN), rfl, rfl, fun _ => rfl⟩, o.push_blk (n := 1) [L[k].own r c2 (own_okN k2)] rfl c3 k3 (fun ρ => pushN ρ), trivial⟩
            · conv => whnf
              refine ⟨?_, ?_, trivial⟩
              · conv => whnf
                conv =>
                  arg 2
                  tactic' =>
                    apply eff_load_sub (ho := ?how4) (hT := ?hTw4) (hx := ?hxw4) (hb := ?hbw4) (hm := ?hmw4) (hv := ?hvw4)
                    case how4 => rfl
                    case hTw4 => rfl
                    case hxw4 => rfl
                    case hbw4 => rfl
                    case hmw4 => exact pb
                    case hvw4 => rfl
                conv => whnf
                refine ⟨?_, trivial⟩
                · conv => whnf
                  refine .inr ⟨22, ?_⟩
                  conv => whnf
                  refine ⟨p.nl, p.r, p.o, p.len, p.cap, p.ok, 34, ptsC p.full, 1, p.val_eq hc0, in_famN hpm.2 rfl rfl, ?_⟩
                  conv => whnf
                  refine .inl ?_
                  conv => whnf
                  refine .inl ?_
                  conv => whnf
                  conv =>
                    arg 2
                    tactic' => exact subC_cor p
                  conv => whnf
                  refine ⟨allOne_pts _, ?_⟩
                  conv => whnf
                  refine ⟨⟨rfl, rfl, rfl, fun _ => rfl, by have := hpm.1; omega⟩, fun c2 k2 => ?_⟩
                  conv => whnf
                  refine ⟨?_, trivial⟩
                  conv => whnf
                  refine .inl ?_
                  conv => whnf
                  refine .inr ⟨2, 6, 7, ?_⟩
                  conv => whnf
                  refine ⟨⟨pureL_append (fun _ _ => rfl) (ptsC_pure _), rfl, rfl⟩, fun r hr => ?_⟩
                  have hr2 : ∀ e, e ∈ fam2 → e.a.1 ≠ r := hr.2.2.1
                  conv => whnf
                  refine .inl ?_
                  conv => whnf
                  refine ⟨rfl, ?_⟩
                  conv => whnf
                  refine ⟨OY.app o (m := 1) (by rw [hI.len]; omega), fun c3 k3 => ?_⟩
                  conv => whnf
                  subst hp
                  refine ⟨[0, 1, 2, 8], [0, 3, 4], [0, 3], fun vs3 => ?_⟩
                  conv => whnf
                  refine ⟨pnsC_pure L, pureL_append (pysC_pure _) (fun _ _ => rfl), ?_⟩
                  conv => whnf
                  have hnx : OwI L (k + 1) (fam2 ++ [(L[k].own r c2 (own_okN k2)).ent]) (o.push [L[k].own r c2 (own_okN k2)] rfl c3 k3) := hI.next hlF hr2 rfl
                  refine ⟨_, _, ?_, ?_, (⟨(k + 1, fam2 ++ [(L[k].own r c2 (own_okN k2)).ent], o.push [L[k].own r c2 (own_okN k2)] rfl c3 k3), hlt, hnx⟩, vs3), (by omega : n - (k + 1) < n - k), rfl, rfl⟩
                  · exact ⟨fun _ => rfl, fun _ => rfl, fun _ => rfl, fun ρ => o.push_sl (n := 1) [L[k].own r c2 (own_okN k2)] rfl c3 k3 3 ρ, fun ρ => sint_e (wrap_add1 hlt (ir_th hn1)) ρ, stm _⟩
                  · exact ⟨⟨rfl, rfl, rfl, fun _ => rfl⟩, ⟨rfl, rfl, rfl, fun _ => rfl⟩, ⟨congrArg (fun x => TyX.x (fam2 ++ [x])) (entN), rfl, rfl, fun _ => rfl⟩, o.push_blk (n := 1) [L[k].own r c2 (own_okN k2)] rfl c3 k3 (fun ρ => pushN ρ), trivial⟩
              · conv => whnf
                refine .inr ⟨22, ?_⟩
                conv => whnf
                refine ⟨p.nl, p.r, p.o, p.len, p.cap, p.ok, 34, ptsC p.full, 1, p.val_eq hc0, in_famN hpm.2 rfl rfl, ?_⟩
                conv => whnf
                refine .inl ?_
                conv => whnf
                refine .inl ?_
                conv => whnf
                conv =>
                  arg 2
                  tactic' => exact subC_cor p
                conv => whnf
                refine ⟨allOne_pts _, ?_⟩
                conv => whnf
                refine ⟨⟨rfl, rfl, rfl, fun _ => rfl, by have := hpm.1; omega⟩, fun c2 k2 => ?_⟩
                conv => whnf
                refine ⟨?_, trivial⟩
                · conv => whnf
                  conv =>
                    arg 2
                    tactic' =>
                      apply eff_load_sub (ho := ?how4) (hT := ?hTw4) (hx := ?hxw4) (hb := ?hbw4) (hm := ?hmw4) (hv := ?hvw4)
                      case how4 => rfl
                      case hTw4 => rfl
                      case hxw4 => rfl
                      case hbw4 => rfl
                      case hmw4 => exact pb
                      case hvw4 => rfl
                  conv => whnf
                  refine ⟨?_, trivial⟩
                  conv => whnf
                  refine .inl ?_
                  conv => whnf
                  refine .inr ⟨2, 6, 7, ?_⟩
                  conv => whnf
                  refine ⟨⟨pureL_append (fun _ _ => rfl) (ptsC_pure _), rfl, rfl⟩, fun r hr => ?_⟩
                  have hr2 : ∀ e, e ∈ fam2 → e.a.1 ≠ r := hr.2.2.1
                  conv => whnf
                  refine .inl ?_
                  conv => whnf
                  refine ⟨rfl, ?_⟩
                  conv => whnf
                  refine ⟨OY.app o (m := 1) (by rw [hI.len]; omega), fun c3 k3 => ?_⟩
                  conv => whnf
                  subst hp
                  refine ⟨[0, 1, 2, 8], [0, 3, 4], [0, 3], fun vs3 => ?_⟩
                  conv => whnf
                  refine ⟨pnsC_pure L, pureL_append (pysC_pure _) (fun _ _ => rfl), ?_⟩
                  conv => whnf
                  have hnx : OwI L (k + 1) (fam2 ++ [(L[k].own r c2 (own_okN k2)).ent]) (o.push [L[k].own r c2 (own_okN k2)] rfl c3 k3) := hI.next hlF hr2 rfl
                  refine ⟨_, _, ?_, ?_, (⟨(k + 1, fam2 ++ [(L[k].own r c2 (own_okN k2)).ent], o.push [L[k].own r c2 (own_okN k2)] rfl c3 k3), hlt, hnx⟩, vs3), (by omega : n - (k + 1) < n - k), rfl, rfl⟩
                  · exact ⟨fun _ => rfl, fun _ => rfl, fun _ => rfl, fun ρ => o.push_sl (n := 1) [L[k].own r c2 (own_okN k2)] rfl c3 k3 3 ρ, fun ρ => sint_e (wrap_add1 hlt (ir_th hn1)) ρ, stm _⟩
                  · exact ⟨⟨rfl, rfl, rfl, fun _ => rfl⟩, ⟨rfl, rfl, rfl, fun _ => rfl⟩, ⟨congrArg (fun x => TyX.x (fam2 ++ [x])) (entN), rfl, rfl, fun _ => rfl⟩, o.push_blk (n := 1) [L[k].own r c2 (own_okN k2)] rfl c3 k3 (fun ρ => pushN ρ), trivial⟩
      · have hlt : n ≤ k := n_ge hlt
        obtain rfl : k = n := Nat.le_antisymm hkn hlt
        conv => whnf
        refine ⟨[0, 1, 3, 2], [0, 2], fun vs2 => ?_⟩
        conv => whnf
        refine ⟨pnsC_pure L, o.new.1.pure, ?_⟩
        conv => whnf
        exact ⟨_, [o.blk, ⟨.x fam2, true, [], 2⟩], rfl, ⟨⟨rfl, rfl, rfl, fun _ => rfl⟩, ⟨rfl, rfl, rfl, fun _ => rfl⟩, ⟨rfl, rfl, rfl, fun _ => rfl⟩, ⟨rfl, rfl, rfl, fun _ => rfl⟩, trivial⟩, ⟨o.new, ⟨⟨rfl, fun _ _ => rfl⟩, .inr rfl⟩, trivial⟩, o.sl 2, fun _ => rfl, hc o fam2 hI⟩
  · refine ⟨fun ρ ρ' e => rfl, ?_⟩
    conv => whnf
    refine .inl ⟨1, ?_⟩
    conv => whnf
    refine ⟨[0, 1000 + 31, 1000000], [], fun vs2 => ?_⟩
    conv => whnf
    exact ⟨_, [OY.none.blk, ⟨.x [], true, [], 2⟩], rfl, ⟨⟨rfl, rfl, rfl, fun _ => rfl⟩, ⟨rfl, rfl, rfl, fun _ => rfl⟩, ⟨rfl, rfl, rfl, fun _ => rfl⟩, trivial⟩, ⟨OY.none.new, ⟨⟨rfl, fun _ _ => rfl⟩, .inr rfl⟩, trivial⟩, OY.none.sl 1, fun _ => rfl, hc OY.none [] (OwI.zero [])⟩
end Go.Proofs.YtdjpbccaglkafaaDoor
