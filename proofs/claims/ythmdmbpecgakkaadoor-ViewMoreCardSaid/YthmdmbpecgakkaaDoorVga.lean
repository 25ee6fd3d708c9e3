/- Graphs: clusters and groups as lists, their inner lists as pieces of a family. What lod.lists hands out. What lod.needs hands out. What lod.makers and lod.Valid test, plainly. Whole numbers as a map's keys. -/
import Derived.Test.YthmdmbpecgakkaaDoorIta
import Derived.Test.YthmdmbpecgakkaaDoorRead
import Derived.Test.YthmdmbpecgakkaaDoorHelp
import Derived.KernelRfl
import Derived.Maps.Keyed
namespace Go.Proofs.YthmdmbpecgakkaaDoor
open Go Go.RowKit
set_option maxRecDepth 100000

/-- whole numbers in a row -/
structure ZV where
  x : Int
  hx : IR x
def zvC : List ZV → List C
  | [] => []
  | z :: l => .int z.x z.hx :: zvC l
/-- a slice's words -/
structure SW where
  a : Option Addr
  n : Nat
  c : Nat
def SW.v (s : SW) : C := .val (.slice s.a s.n s.c)
/-- a cluster: its triangles, the group that made it, the one that uses it -/
structure CU where
  s : SW
  made : Int
  used : Int
  tl : List TR
  hm : IR made
  hu : IR used
def cuC (c : CU) : List C := [c.s.v, .int c.made c.hm, .int c.used c.hu]
def cusC : List CU → List C
  | [] => []
  | c :: l => cuC c ++ cusC l
/-- a group -/
structure GU where
  level : Int
  i : SW
  o : SW
  m : SW
  err : Int
  total : Int
  dn : Bool
  dd : ByteArray
  il : List ZV
  ol : List ZV
  hl : IR level
  he : IR err
  ht : IR total
def guC (g : GU) : List C := [.int g.level g.hl, g.i.v, g.o.v, g.m.v, .int g.err g.he, .int g.total g.ht, .val (.bool g.dn), .val (.string g.dd)]
def gusC : List GU → List C
  | [] => []
  | g :: l => guC g ++ gusC l
theorem cusC_size : ∀ l : List CU, sizeC (cusC l) = 3 * l.length
  | [] => rfl
  | c :: l => by rw [cusC, sizeC_append, cusC_size l, List.length_cons]; show 3 + _ = _; omega
theorem gusC_size : ∀ l : List GU, sizeC (gusC l) = 8 * l.length
  | [] => rfl
  | c :: l => by rw [gusC, sizeC_append, gusC_size l, List.length_cons]; show 8 + _ = _; omega
theorem cusC_append : ∀ a b : List CU, cusC (a ++ b) = cusC a ++ cusC b
  | [], _ => rfl
  | c :: l, b => by rw [List.cons_append, cusC, cusC_append l b, cusC, List.append_assoc]
theorem gusC_append : ∀ a b : List GU, gusC (a ++ b) = gusC a ++ gusC b
  | [], _ => rfl
  | c :: l, b => by rw [List.cons_append, gusC, gusC_append l b, gusC, List.append_assoc]
theorem lt_irV {nl : Bool} {k n cap : Nat} (h : SliOk nl n cap) (hk : k ≤ n) : IR k := by have := h.ir; unfold IR at *; omega
theorem sint_kV {a b : Int} {ha : IR a} {hb : IR b} (e : a = b) (ρ : Rho) : (SV.c (.int a ha)).den ρ = (SV.c (.int b hb)).den ρ := by subst e; rfl
theorem pureL_app {a b : List C} (h : PureL a) (k : PureL b) : PureL (a ++ b) := fun ρ ρ' => by
  rw [List.flatMap_append, List.flatMap_append, h ρ ρ', k ρ ρ']
theorem cusC_pure : ∀ l : List CU, PureL (cusC l)
  | [] => fun _ _ => rfl
  | _ :: l => pureL_app (fun _ _ => rfl) (cusC_pure l)
theorem gusC_pure : ∀ l : List GU, PureL (gusC l)
  | [] => fun _ _ => rfl
  | _ :: l => pureL_app (fun _ _ => rfl) (gusC_pure l)
theorem subC_cus (l : List CU) {k : Nat} (hk : k < l.length) : subC (cusC l) (0 + k * 3) 3 = some (cuC l[k]) := by
  have e : cusC l = cusC (l.take k) ++ (cuC l[k] ++ cusC (l.drop (k + 1))) := by
    have h : l = l.take k ++ (l[k] :: l.drop (k + 1)) := by rw [← List.drop_eq_getElem_cons hk, List.take_append_drop]
    rw [show cusC l = cusC (l.take k ++ (l[k] :: l.drop (k + 1))) by rw [← h], cusC_append]
    rfl
  have s : sizeC (cusC (l.take k)) = 0 + k * 3 := by rw [cusC_size, List.length_take, Nat.min_eq_left (Nat.le_of_lt hk)]; omega
  rw [e, ← s]
  exact subC_app _ (cuC l[k]) _
theorem subC_gus (l : List GU) {k : Nat} (hk : k < l.length) : subC (gusC l) (0 + k * 8) 8 = some (guC l[k]) := by
  have e : gusC l = gusC (l.take k) ++ (guC l[k] ++ gusC (l.drop (k + 1))) := by
    have h : l = l.take k ++ (l[k] :: l.drop (k + 1)) := by rw [← List.drop_eq_getElem_cons hk, List.take_append_drop]
    rw [show gusC l = gusC (l.take k ++ (l[k] :: l.drop (k + 1))) by rw [← h], gusC_append]
    rfl
  have s : sizeC (gusC (l.take k)) = 0 + k * 8 := by rw [gusC_size, List.length_take, Nat.min_eq_left (Nat.le_of_lt hk)]; omega
  rw [e, ← s]
  exact subC_app _ (guC l[k]) _
/-- a number as a chunk, if it is one -/
def intN (k : Nat) : C := if h : IR (k : Int) then .int k h else .val undef
theorem intN_eq {k : Nat} (h : IR (k : Int)) : intN k = .int k h := dif_pos h
/-- what lod.lists hands out from group k on -/
def listsX : Nat → List GU → List (List SV)
  | _, [] => []
  | k, g :: l => [.c (intN k), .agg [g.i.v, g.o.v]] :: listsX (k + 1) l
theorem listsX_len : ∀ (k : Nat) (l : List GU), (listsX k l).length = l.length
  | _, [] => rfl
  | k, g :: l => by rw [listsX, List.length_cons, listsX_len (k + 1) l, List.length_cons]
theorem listsX_at : ∀ (j : Nat) (l : List GU) (k : Nat) (hk : k < l.length), nth [] (listsX j l) k = [.c (intN (j + k)), .agg [l[k].i.v, l[k].o.v]]
  | j, g :: l, 0, _ => rfl
  | j, g :: l, k + 1, hk => by
    have := listsX_at (j + 1) l k (by simpa using hk)
    rw [show j + 1 + k = j + (k + 1) by omega] at this
    exact this
theorem listsX_pure : ∀ (j : Nat) (l : List GU), ∀ x ∈ listsX j l, ∀ y ∈ x, ∀ ρ ρ', SV.den ρ y = SV.den ρ' y
  | _, [], x, hx => by cases hx
  | j, g :: l, x, hx => by
    rcases List.mem_cons.1 hx with rfl | hx
    · intro y hy ρ ρ'
      simp only [List.mem_cons, List.not_mem_nil, or_false] at hy
      rcases hy with rfl | rfl
      · unfold intN; split <;> rfl
      · rfl
    · exact listsX_pure (j + 1) l x hx
/-- a slice's words, and what lies there -/
def okSW (fam : List Ent) (s : SW) (l : List ZV) : Prop := s.n = l.length ∧ (l = [] ∨ ∃ r o, s.a = some ⟨r, o, none⟩ ∧ InF fam (r, o) (zvC l))
structure GU.Ok (fam : List Ent) (g : GU) : Prop where
  i : okSW fam g.i g.il
  o : okSW fam g.o g.ol
  hi : IR (g.i.n : Nat)
  ho : IR (g.o.n : Nat)
structure CU.Ok (fam : List Ent) (c : CU) : Prop where
  s : c.s.n = c.tl.length ∧ (c.tl = [] ∨ ∃ r o, c.s.a = some ⟨r, o, none⟩ ∧ InF fam (r, o) (trsC c.tl))
  h : IR (c.s.n : Nat)
/-! what lod tests -/
def inR (n : Nat) (z : ZV) : Bool := !decide (z.x < 0) && decide (z.x < (n : Int))
def idxCu (m : Nat) (c : CU) : Bool := !decide (minI c.made c.used < -1) && !decide ((m : Int) ≤ maxI c.made c.used)
def idxGu (n : Nat) (g : GU) : Bool := g.il.all (inR n) && g.ol.all (inR n)
def idxG (CL : List CU) (L : List GU) : Bool := CL.all (idxCu L.length) && L.all (idxGu CL.length)
end Go.Proofs.YthmdmbpecgakkaaDoor

namespace Go.Proofs.YthmdmbpecgakkaaDoor
open Go.RowKit
set_option maxRecDepth 100000

noncomputable abbrev cLs : Code := match (Tryd.f69).body with | some c => c | none => .skip
abbrev ELs : Env := env 20 base
abbrev HLs := inl ELs noF 0
def hpLs (tb tg td tc : TypeId) (n1 : Bool) (l1 c1 : Nat) (h1 : SliOk n1 l1 c1) (n2 : Bool) (L : List GU) (c2 : Nat) (h2 : SliOk n2 L.length c2) (cs : List C) : List Blk :=
 [⟨.t tb, true, [.ptr 1 0], 0⟩, ⟨.t tg, true, [.sli n1 3 0 l1 c1 h1, .sli n2 2 0 L.length c2 h2], 0⟩, ⟨.t td, true, gusC L, 0⟩, ⟨.t tc, true, cs, 0⟩]
theorem listsX_get {L : List GU} {k : Nat} (hx : k < (listsX 0 L).length) (hk : k < L.length) (h : IR (k : Int)) : (listsX 0 L)[k] = [.c (.int k h), .agg [L[k].i.v, L[k].o.v]] := by
 have e := listsX_at 0 L k hk
 rw [nth_eq, List.getElem?_eq_getElem hx, Nat.zero_add, intN_eq h] at e
 exact e
theorem listsX_k {L : List GU} {k : Nat} (hk : k < L.length) (h : IR (k : Int)) : nth [] (listsX 0 L) k = [.c (.int k h), .agg [L[k].i.v, L[k].o.v]] := by
 rw [listsX_at 0 L k hk, Nat.zero_add, intN_eq h]
set_option maxHeartbeats 8000000 in
theorem lists_vc {tb tg td tc : TypeId} {n1 : Bool} {l1 c1 : Nat} {h1 : SliOk n1 l1 c1} {n2 : Bool} {L : List GU} {c2 : Nat} {h2 : SliOk n2 L.length c2} {cs : List C} (l : Nat) :
  vcI ELs HLs l (listsX 0 L) (hpLs tb tg td tc n1 l1 c1 h1 n2 L c2 h2 cs) cLs false 0 (.c (.val (.func (.yield l) #[] #[])) :: ([SV.c (.ptr 0 0)] ++ List.replicate ((Tryd.f69).ntmps - 2) uv)) (hpLs tb tg td tc n1 l1 c1 h1 n2 L c2 h2 cs) fun e st k _ _ => (match e with | .exit _ => False | _ => st = true ∨ k = (listsX 0 L).length) := by
 unfold hpLs
 conv => whnf
 refine ⟨rfl, fun m k tm => m + k = L.length ∧ ∃ (z : Int) (hz : IR z) (vs : Nat → Value), z = (k : Int) ∧ tm = ((.c (.val (.func (.yield l) #[] #[])) :: .c (.ptr 0 0) :: .c (.val (vs 2)) :: .c (.val (vs 3)) :: .c (.val (vs 4)) :: .c (.val (vs 5)) :: .c (.val (vs 6)) :: .c (.val (vs 7)) :: .c (.sli n2 2 0 L.length c2 h2) :: .c (.int (L.length : Nat) (lt_irV h2 (Nat.le_refl _))) :: .c (.int z hz) :: .c (.val (vs 11)) :: .c (.val (vs 12)) :: .c (.val (vs 13)) :: .c (.val (vs 14)) :: .c (.val (vs 15)) :: .c (.val (vs 16)) :: .c (.val (vs 17)) :: .c (.val (vs 18)) :: .c (.val (vs 19)) :: .c (.val (vs 20)) :: .c (.val (vs 21)) :: .c (.val (vs 22)) :: .c (.val (vs 23)) :: .c (.val (vs 24)) :: []) : List SV), ⟨[0,1,8,9,10], fun vs => ⟨?_, L.length, rfl, 0, (by decide), vs, rfl, rfl⟩⟩, ?_⟩
 ·exact fun ρ ρ' hρ => by
   have e0 : ρ 0 = ρ' 0 := hρ 0 rfl
   have e2 : ρ 2 = ρ' 2 := hρ 2 rfl
   show List.map (SV.den ρ) ((.c (.val (.func (.yield l) #[] #[])) :: .c (.ptr 0 0) :: .c (.val (vs 2)) :: .c (.val (vs 3)) :: .c (.val (vs 4)) :: .c (.val (vs 5)) :: .c (.val (vs 6)) :: .c (.val (vs 7)) :: .c (.sli n2 2 0 L.length c2 h2) :: .c (.int (L.length : Nat) (lt_irV h2 (Nat.le_refl _))) :: .c (.int 0 (by decide)) :: .c (.val (vs 11)) :: .c (.val (vs 12)) :: .c (.val (vs 13)) :: .c (.val (vs 14)) :: .c (.val (vs 15)) :: .c (.val (vs 16)) :: .c (.val (vs 17)) :: .c (.val (vs 18)) :: .c (.val (vs 19)) :: .c (.val (vs 20)) :: .c (.val (vs 21)) :: .c (.val (vs 22)) :: .c (.val (vs 23)) :: .c (.val (vs 24)) :: []) : List SV) = List.map (SV.den ρ') ((.c (.val (.func (.yield l) #[] #[])) :: .c (.ptr 0 0) :: .c (.val (vs 2)) :: .c (.val (vs 3)) :: .c (.val (vs 4)) :: .c (.val (vs 5)) :: .c (.val (vs 6)) :: .c (.val (vs 7)) :: .c (.sli n2 2 0 L.length c2 h2) :: .c (.int (L.length : Nat) (lt_irV h2 (Nat.le_refl _))) :: .c (.int 0 (by decide)) :: .c (.val (vs 11)) :: .c (.val (vs 12)) :: .c (.val (vs 13)) :: .c (.val (vs 14)) :: .c (.val (vs 15)) :: .c (.val (vs 16)) :: .c (.val (vs 17)) :: .c (.val (vs 18)) :: .c (.val (vs 19)) :: .c (.val (vs 20)) :: .c (.val (vs 21)) :: .c (.val (vs 22)) :: .c (.val (vs 23)) :: .c (.val (vs 24)) :: []) : List SV)
   simp only [List.map_cons, List.map_nil, SV.den, C.den, C.cells, adr, e0, e2]
 rintro m k tm ⟨hmk, _, hki, vs, rfl, rfl⟩
 conv => whnf
 refine bcase_intro (fun hlt => ?_) (fun hlt => ?_)
 ·have hlt : k < L.length := n_lt hlt
  conv => whnf
  conv =>
   arg 2
   tactic' =>
    apply eff_index_sli (k := k) (hi := hki) (ho := ?how1) (hT := ?hTw1) (hx := ?hxw1) (hk := ?hkw1) (hlt := ?hltw1)
    case how1 => rfl
    case hTw1 => rfl
    case hxw1 => rfl
    case hkw1 => rfl
    case hltw1 => exact hlt
  conv => whnf
  conv =>
   arg 2
   tactic' =>
    apply eff_load_sub (ho := ?how2) (hT := ?hTw2) (hx := ?hxw2) (hb := ?hbw2) (hm := ?hmw2) (hv := ?hvw2)
    case how2 => rfl
    case hTw2 => rfl
    case hxw2 => rfl
    case hbw2 => rfl
    case hmw2 => exact subC_gus L hlt
    case hvw2 => rfl
  conv => whnf
  refine ⟨⟨rfl,rfl,by rw [listsX_len]; exact hlt, fun ρ => ?_⟩, [0,1,8,9,10], fun vs2 => ⟨?_, ?_, [], fun vs3 => ⟨fun _ _ _ => rfl, ?_⟩⟩⟩
  ·rw [listsX_k hlt hki]; rfl
  ·exact fun ρ ρ' hρ => by
    have e0 : ρ 0 = ρ' 0 := hρ 0 rfl
    have e2 : ρ 2 = ρ' 2 := hρ 2 rfl
    show List.map (SV.den ρ) ((.c (.val (.func (.yield l) #[] #[])) :: .c (.ptr 0 0) :: .c (.val (vs2 2)) :: .c (.val (vs2 3)) :: .c (.val (vs2 4)) :: .c (.val (vs2 5)) :: .c (.val (vs2 6)) :: .c (.val (vs2 7)) :: .c (.sli n2 2 0 L.length c2 h2) :: .c (.int (L.length : Nat) (lt_irV h2 (Nat.le_refl _))) :: .c (.int (k : Nat) hki) :: .c (.val (vs2 11)) :: .c (.val (vs2 12)) :: .c (.val (vs2 13)) :: .c (.val (vs2 14)) :: .c (.val (vs2 15)) :: .c (.val (vs2 16)) :: .c (.val (vs2 17)) :: .c (.val (vs2 18)) :: .c (.val (vs2 19)) :: .c (.val (vs2 20)) :: .c (.val (vs2 21)) :: .c (.val (vs2 22)) :: .c (.val (vs2 23)) :: .c (.val (vs2 24)) :: []) : List SV) = List.map (SV.den ρ') ((.c (.val (.func (.yield l) #[] #[])) :: .c (.ptr 0 0) :: .c (.val (vs2 2)) :: .c (.val (vs2 3)) :: .c (.val (vs2 4)) :: .c (.val (vs2 5)) :: .c (.val (vs2 6)) :: .c (.val (vs2 7)) :: .c (.sli n2 2 0 L.length c2 h2) :: .c (.int (L.length : Nat) (lt_irV h2 (Nat.le_refl _))) :: .c (.int (k : Nat) hki) :: .c (.val (vs2 11)) :: .c (.val (vs2 12)) :: .c (.val (vs2 13)) :: .c (.val (vs2 14)) :: .c (.val (vs2 15)) :: .c (.val (vs2 16)) :: .c (.val (vs2 17)) :: .c (.val (vs2 18)) :: .c (.val (vs2 19)) :: .c (.val (vs2 20)) :: .c (.val (vs2 21)) :: .c (.val (vs2 22)) :: .c (.val (vs2 23)) :: .c (.val (vs2 24)) :: []) : List SV)
    simp only [List.map_cons, List.map_nil, SV.den, C.den, C.cells, adr, e0, e2]
  ·conv => whnf
   refine ⟨rfl, [0,1,8,9,10], fun vs4 => ⟨?_, m - 1, by omega, by omega, _, IR.wrap _, vs4, wrap_add1 hlt h2.ir, rfl⟩⟩
   exact fun ρ ρ' hρ => by
     have e0 : ρ 0 = ρ' 0 := hρ 0 rfl
     have e2 : ρ 2 = ρ' 2 := hρ 2 rfl
     show List.map (SV.den ρ) ((.c (.val (.func (.yield l) #[] #[])) :: .c (.ptr 0 0) :: .c (.val (vs4 2)) :: .c (.val (vs4 3)) :: .c (.val (vs4 4)) :: .c (.val (vs4 5)) :: .c (.val (vs4 6)) :: .c (.val (vs4 7)) :: .c (.sli n2 2 0 L.length c2 h2) :: .c (.int (L.length : Nat) (lt_irV h2 (Nat.le_refl _))) :: .c (.int (IntKind.i64.wrap ((k : Int) + 1)) (IR.wrap _)) :: .c (.val (vs4 11)) :: .c (.val (vs4 12)) :: .c (.val (vs4 13)) :: .c (.val (vs4 14)) :: .c (.val (vs4 15)) :: .c (.val (vs4 16)) :: .c (.val (vs4 17)) :: .c (.val (vs4 18)) :: .c (.val (vs4 19)) :: .c (.val (vs4 20)) :: .c (.val (vs4 21)) :: .c (.val (vs4 22)) :: .c (.val (vs4 23)) :: .c (.val (vs4 24)) :: []) : List SV) = List.map (SV.den ρ') ((.c (.val (.func (.yield l) #[] #[])) :: .c (.ptr 0 0) :: .c (.val (vs4 2)) :: .c (.val (vs4 3)) :: .c (.val (vs4 4)) :: .c (.val (vs4 5)) :: .c (.val (vs4 6)) :: .c (.val (vs4 7)) :: .c (.sli n2 2 0 L.length c2 h2) :: .c (.int (L.length : Nat) (lt_irV h2 (Nat.le_refl _))) :: .c (.int (IntKind.i64.wrap ((k : Int) + 1)) (IR.wrap _)) :: .c (.val (vs4 11)) :: .c (.val (vs4 12)) :: .c (.val (vs4 13)) :: .c (.val (vs4 14)) :: .c (.val (vs4 15)) :: .c (.val (vs4 16)) :: .c (.val (vs4 17)) :: .c (.val (vs4 18)) :: .c (.val (vs4 19)) :: .c (.val (vs4 20)) :: .c (.val (vs4 21)) :: .c (.val (vs4 22)) :: .c (.val (vs4 23)) :: .c (.val (vs4 24)) :: []) : List SV)
     simp only [List.map_cons, List.map_nil, SV.den, C.den, C.cells, adr, e0, e2]
  ·conv => whnf
   exact .inl rfl
 ·have hge : L.length ≤ k := n_ge hlt
  conv => whnf
  exact .inr (by rw [listsX_len]; omega)

theorem cellsL_two (ρ : Rho) (a b : C) : cellsL ρ [a, b] = a.cells ρ ++ b.cells ρ := by simp [cellsL]
def rhoI (ρ : Rho) (b gb d c : Nat) : Rho
 | 0 => ρ b
 | 1 => ρ gb
 | 2 => ρ d
 | 3 => ρ c
 | i => ρ i
theorem goodLs {hf : Nat → Option Blk} {ρ : Rho} {b gb d c : Nat} {tb tg td tc : TypeId} {rb rg rd rc : Bool} {xb xg xd xc : Nat} {n1 : Bool} {l1 c1 : Nat} {h1 : SliOk n1 l1 c1} {n2 : Bool} {L : List GU} {c2 : Nat} {h2 : SliOk n2 L.length c2} {CL : List CU}
  (eb : hf b = some ⟨.t tb, rb, [.ptr gb 0], xb⟩) (eg : hf gb = some ⟨.t tg, rg, [.sli n1 c 0 l1 c1 h1, .sli n2 d 0 L.length c2 h2], xg⟩) (ed : hf d = some ⟨.t td, rd, gusC L, xd⟩) (ec : hf c = some ⟨.t tc, rc, cusC CL, xc⟩) {w : World} (h : GR hf ρ [b, gb, d, c] w) :
  GoodI (hpLs tb tg td tc n1 l1 c1 h1 n2 L c2 h2 (cusC CL)) (rhoI ρ b gb d c) w := by
 obtain ⟨ρ', hag, h⟩ := h
 have qb : ρ' b = ρ b := hag b (by rw [eb]; rfl)
 have qg : ρ' gb = ρ gb := hag gb (by rw [eg]; rfl)
 have qd : ρ' d = ρ d := hag d (by rw [ed]; rfl)
 have qc : ρ' c = ρ c := hag c (by rw [ec]; rfl)
 obtain ⟨b1, b2, -⟩ := h b (by simp) _ eb
 obtain ⟨g1, g2, -⟩ := h gb (by simp) _ eg
 obtain ⟨d1, d2, -⟩ := h d (by simp) _ ed
 obtain ⟨k1, k2, -⟩ := h c (by simp) _ ec
 have void_of : ∀ {t t2 : TyX} {r : Bool} {cs : List C} {x y : Nat}, (⟨t, true, cs, x⟩ : Blk).void = false → (⟨t2, r, cs, y⟩ : Blk).void = false := fun {t t2 r cs x y} hv => by
  cases cs with
  | nil => cases hv
  | cons a l => cases r <;> rfl
 intro i blk hi
 rcases i with _ | _ | _ | _ | i
 ·cases hi
  refine ⟨rfl,rfl,fun ρx hx => ⟨?_, fun h => by cases h⟩, fun _ => by show (ρ b).1 < _; rw [← qb]; exact b2 (by cases rb <;> rfl), fun o l hl => by cases hl⟩
  have x0 : ρx 0 = ρ' b := (hx 0 rfl).trans qb.symm
  have x1 : ρx 1 = ρ' gb := (hx 1 rfl).trans qg.symm
  have e : cellsL ρx [.ptr 1 0] = cellsL ρ' [.ptr gb 0] := by simp only [cellsL, List.flatMap_cons, List.flatMap_nil, C.cells, adr, x1]
  show w.rangeAt (ρx 0).1 (ρx 0).2 (cellsL ρx [.ptr 1 0])
  rw [x0, e]; exact b1.1
 ·cases hi
  refine ⟨rfl,rfl,fun ρx hx => ⟨?_, fun h => by cases h⟩, fun _ => by show (ρ gb).1 < _; rw [← qg]; exact g2 (by cases rg <;> rfl), fun o l hl => by cases hl⟩
  have x1 : ρx 1 = ρ' gb := (hx 1 rfl).trans qg.symm
  have x2 : ρx 2 = ρ' d := (hx 2 rfl).trans qd.symm
  have x3 : ρx 3 = ρ' c := (hx 3 rfl).trans qc.symm
  have e : cellsL ρx [.sli n1 3 0 l1 _ h1, .sli n2 2 0 L.length _ h2] = cellsL ρ' [.sli n1 c 0 l1 _ h1, .sli n2 d 0 L.length _ h2] := by simp only [cellsL, List.flatMap_cons, List.flatMap_nil, C.cells, x2, x3]
  show w.rangeAt (ρx 1).1 (ρx 1).2 (cellsL ρx [.sli n1 3 0 l1 _ h1, .sli n2 2 0 L.length _ h2])
  rw [x1, e]; exact g1.1
 ·cases hi
  refine ⟨rfl,rfl,fun ρx hx => ⟨?_, fun h => by cases h⟩, fun hv => by show (ρ d).1 < _; rw [← qd]; exact d2 (void_of hv), fun o l hl => by cases hl⟩
  have x2 : ρx 2 = ρ' d := (hx 2 rfl).trans qd.symm
  show w.rangeAt (ρx 2).1 (ρx 2).2 (cellsL ρx (gusC L))
  rw [x2, show cellsL ρx (gusC L) = cellsL ρ' (gusC L) from gusC_pure L _ _]; exact d1.1
 ·cases hi
  refine ⟨rfl,rfl,fun ρx hx => ⟨?_, fun h => by cases h⟩, fun hv => by show (ρ c).1 < _; rw [← qc]; exact k2 (void_of hv), fun o l hl => by cases hl⟩
  have x3 : ρx 3 = ρ' c := (hx 3 rfl).trans qc.symm
  show w.rangeAt (ρx 3).1 (ρx 3).2 (cellsL ρx (cusC CL))
  rw [x3, show cellsL ρx (cusC CL) = cellsL ρ' (cusC CL) from cusC_pure CL _ _]; exact k1.1
 ·simp [hpLs, nthO] at hi
theorem lists_iter {hf : Nat → Option Blk} {b gb d c : Nat} {tb tg td tc : TypeId} {rb rg rd rc : Bool} {xb xg xd xc : Nat} {n1 : Bool} {l1 c1 : Nat} {h1 : SliOk n1 l1 c1} {n2 : Bool} {L : List GU} {c2 : Nat} {h2 : SliOk n2 L.length c2} {CL : List CU}
  (eb : hf b = some ⟨.t tb, rb, [.ptr gb 0], xb⟩) (eg : hf gb = some ⟨.t tg, rg, [.sli n1 c 0 l1 c1 h1, .sli n2 d 0 L.length c2 h2], xg⟩) (ed : hf d = some ⟨.t td, rd, gusC L, xd⟩) (ec : hf c = some ⟨.t tc, rc, cusC CL, xc⟩) (ρ : Rho) :
  IterOk Tryd.prog 69 (([(b, 0)] : List (Nat × Nat)).map fun p => adr ρ p.1 p.2).toArray (fun k => ((nth [] (listsX 0 L) k).map (SV.den ρ)).toArray) (listsX 0 L).length (GR hf ρ [b, gb, d, c]) :=
 iter_ok (env_ok base_ok 20) mixed (inl_ok (env_ok base_ok 20) mixed noF_ok 0) Tryd.func69 (c := cLs) (by kernel_rfl) (by kernel_rfl) (by kernel_rfl) (listsX_pure 0 L) (hpI := hpLs tb tg td tc n1 l1 c1 h1 n2 L c2 h2 (cusC CL)) (ρI := rhoI ρ b gb d c) (caps := [.c (.ptr 0 0)])
  (fun w h => goodLs eb eg ed ec h) rfl (fun ρ ρ' h => by simp only [List.map_cons, List.map_nil, SV.den, C.den, C.cells, adr, h 0 rfl]) fun l => lists_vc l
def listsR (f : FuncId) (caps : List (Nat × Nat)) (hf : Nat → Option Blk) (K : List Nat → List (List SV) → Prop) : Prop :=
 f = 69 ∧ ∃ (b gb d c : Nat) (tb tg td tc : TypeId) (rb rg rd rc : Bool) (xb xg xd xc : Nat) (n1 : Bool) (l1 c1 : Nat) (h1 : SliOk n1 l1 c1) (n2 : Bool) (L : List GU) (c2 : Nat) (h2 : SliOk n2 L.length c2) (CL : List CU),
  caps = [(b, 0)] ∧ hf b = some ⟨.t tb, rb, [.ptr gb 0], xb⟩ ∧ hf gb = some ⟨.t tg, rg, [.sli n1 c 0 l1 c1 h1, .sli n2 d 0 L.length c2 h2], xg⟩ ∧ hf d = some ⟨.t td, rd, gusC L, xd⟩ ∧ hf c = some ⟨.t tc, rc, cusC CL, xc⟩ ∧ K [b, gb, d, c] (listsX 0 L)
abbrev Rr := FuncId → List (Nat × Nat) → (Nat → Option Blk) → (List Nat → List (List SV) → Prop) → Prop
def RrOk (R : Rr) : Prop := ∀ f caps hf K, R f caps hf K → ∃ ds xs, K ds xs ∧ Callable Tryd.prog f ∧ (∀ x ∈ xs, ∀ y ∈ x, ∀ ρ ρ', SV.den ρ y = SV.den ρ' y) ∧ ∀ ρ : Rho,
 IterOk Tryd.prog f (caps.map fun p => adr ρ p.1 p.2).toArray (fun k => ((nth [] xs k).map (SV.den ρ)).toArray) xs.length (GR hf ρ ds)
theorem listsR_ok : RrOk listsR := fun f caps hf K h => by
 obtain ⟨rfl, b, gb, d, c, tb, tg, td, tc, rb, rg, rd, rc, xb, xg, xd, xc, n1, l1, c1, h1, n2, L, c2, h2, CL, rfl, eb, eg, ed, ec, hK⟩ := h
 exact ⟨_, _, hK, ⟨_, Tryd.func69, by kernel_rfl, by kernel_rfl⟩, listsX_pure 0 L, fun ρ => lists_iter eb eg ed ec ρ⟩
end Go.Proofs.YthmdmbpecgakkaaDoor

namespace Go.Proofs.YthmdmbpecgakkaaDoor
open Go.RowKit
set_option maxRecDepth 100000

noncomputable abbrev cNs : Code := match (Tryd.f63).body with | some c => c | none => .skip
abbrev ENs : Env := { env 20 base with O := oAdr tyT (oAll tyT) }
theorem ENs_ok : EOk Tryd.prog ENs := ⟨(env_ok base_ok 20).T, (env_ok base_ok 20).D, oAdr_ok tyT_ok (oAll_ok tyT_ok), (env_ok base_ok 20).R⟩
abbrev HNs := inl ENs noF 0
def hpNs (tb tk tg td tc : TypeId) (k : Nat) (hk : IR (k : Nat)) (n1 : Bool) (CL : List CU) (c1 : Nat) (h1 : SliOk n1 CL.length c1) (n2 : Bool) (L : List GU) (c2 : Nat) (h2 : SliOk n2 L.length c2) (fam : List Ent) : List Blk :=
 [⟨.t tb, true, [.ptr 2 0], 0⟩, ⟨.t tk, true, [.int (k : Nat) hk], 0⟩, ⟨.t tg, true, [.sli n1 4 0 CL.length c1 h1, .sli n2 3 0 L.length c2 h2], 0⟩, ⟨.t td, true, gusC L, 0⟩, ⟨.t tc, true, cusC CL, 0⟩, ⟨.x fam, true, [], 3⟩]
theorem subC_subV {l m r : List C} {i n o k : Nat} (h1 : subC l i n = some m) (h2 : subC m o k = some r) : subC l (i + o) k = some r := by
 obtain ⟨a, b, rfl, e1, _⟩ := subC_spec h1
 obtain ⟨x, y, rfl, e2, e3⟩ := subC_spec h2
 have e : a ++ (x ++ (r ++ y) ++ b) = (a ++ x) ++ (r ++ (y ++ b)) := by simp [List.append_assoc]
 rw [e, ← e1, ← e2, ← e3, ← sizeC_append]
 exact subC_app _ _ _
theorem subC_gu (l : List GU) {k : Nat} (hk : k < l.length) (o n : Nat) {r : List C} (h : subC (guC l[k]) o n = some r) : subC (gusC l) (0 + k * 8 + o) n = some r := subC_subV (subC_gus l hk) h
theorem subC_cu (l : List CU) {k : Nat} (hk : k < l.length) (o n : Nat) {r : List C} (h : subC (cuC l[k]) o n = some r) : subC (cusC l) (0 + k * 3 + o) n = some r := subC_subV (subC_cus l hk) h
theorem eff_len_val {T : TypeId → Option TI} {op : Op} {ev : Operand → SV} {hp : Nat → Option Blk} {c : Call} {x : Operand} {t : TypeId} (ho : op = .call c) (hc : c.callee = .builtin .len) (ha : c.args.toList = [x]) (ht : c.argTypes.toList = [t]) {sz : Nat} {ag : Bool} {z : List C} {e : TypeId} {esz : Nat} {ez : List C} {eq : Option (List K)} (hT : T t = some ⟨sz, ag, z, .slice e esz ez, eq⟩)
  {a : Option Addr} {n cap : Nat} (hx : ev x = .c (.val (.slice a n cap))) (hi : IR n) : eff T op ev hp = some (.val (.c (.int n hi))) := by
 subst ho
 simp only [eff, hc, ha, ht, hT, hx]
 exact dif_pos hi
theorem zvC_append : ∀ a b : List ZV, zvC (a ++ b) = zvC a ++ zvC b
 | [], _ => rfl
 | z :: l, b => by rw [List.cons_append, zvC, zvC_append l b]; rfl
theorem zvC_size : ∀ l : List ZV, sizeC (zvC l) = l.length
 | [] => rfl
 | z :: l => by rw [List.length_cons, ← zvC_size l]; show 1 + _ = _; omega
theorem partC_zv (l : List ZV) {k : Nat} (hk : k < l.length) : partC false (zvC l) (k * 1) 1 = some (.c (.int l[k].x l[k].hx)) := by
 have e : zvC l = zvC (l.take k) ++ ([.int l[k].x l[k].hx] ++ zvC (l.drop (k + 1))) := by
  have h : l = l.take k ++ (l[k] :: l.drop (k + 1)) := by rw [← List.drop_eq_getElem_cons hk, List.take_append_drop]
  rw [show zvC l = zvC (l.take k ++ (l[k] :: l.drop (k + 1))) by rw [← h], zvC_append]
  rfl
 have s : sizeC (zvC (l.take k)) = k * 1 := by rw [zvC_size]; simp; omega
 have h : subC (zvC l) (k * 1) 1 = some [.int l[k].x l[k].hx] := by
  rw [e, ← s]
  exact subC_app _ [.int l[k].x l[k].hx] _
 unfold partC
 rw [h]; rfl
def cuAt (CL : List CU) (z : ZV) : Option CU := CL[z.x.toNat]?
def needsX (CL : List CU) : List ZV → List (List SV)
 | [] => []
 | z :: l => (match cuAt CL z with | some c => if 0 ≤ c.made then [[SV.c (.int c.made c.hm)]] else [] | none => []) ++ needsX CL l
theorem needsX_app (CL : List CU) : ∀ a b : List ZV, needsX CL (a ++ b) = needsX CL a ++ needsX CL b
 | [], _ => rfl
 | z :: l, b => by rw [List.cons_append, needsX, needsX_app CL l b, needsX, List.append_assoc]
theorem needsX_pure (CL : List CU) : ∀ l : List ZV, ∀ x ∈ needsX CL l, ∀ y ∈ x, ∀ ρ ρ', SV.den ρ y = SV.den ρ' y
 | [], x, hx => by cases hx
 | z :: l, x, hx => by
  unfold needsX at hx
  rcases List.mem_append.1 hx with hx | hx
  ·split at hx
   ·split at hx
    ·rw [List.mem_singleton] at hx
     subst hx
     intro y hy ρ ρ'
     rw [List.mem_singleton] at hy
     subst hy; rfl
    ·cases hx
   ·cases hx
  ·exact needsX_pure CL l x hx
theorem needsX_one {CL : List CU} {z : ZV} {j : Nat} (hj : j < CL.length) (e : z.x = (j : Nat)) : needsX CL [z] = if 0 ≤ CL[j].made then [[SV.c (.int CL[j].made CL[j].hm)]] else [] := by
 have h : cuAt CL z = some CL[j] := by
  unfold cuAt
  rw [e, Int.toNat_natCast, List.getElem?_eq_getElem hj]
 unfold needsX
 rw [h, needsX, List.append_nil]
theorem needsX_step {CL : List CU} {IN : List ZV} {q j : Nat} (hq : q < IN.length) (hj : j < CL.length) (e : IN[q].x = (j : Nat)) : needsX CL (IN.take (q + 1)) = needsX CL (IN.take q) ++ if 0 ≤ CL[j].made then [[SV.c (.int CL[j].made CL[j].hm)]] else [] := by
 rw [List.take_add_one, List.getElem?_eq_getElem hq, Option.toList_some, needsX_app, needsX_one hj e]
theorem needsX_all {CL : List CU} {IN : List ZV} {q j : Nat} (hq : q < IN.length) (hj : j < CL.length) (e : IN[q].x = (j : Nat)) (hm : 0 ≤ CL[j].made) : (needsX CL (IN.take q)).length < (needsX CL IN).length ∧ nth [] (needsX CL IN) (needsX CL (IN.take q)).length = [SV.c (.int CL[j].made CL[j].hm)] := by
 have h : needsX CL IN = needsX CL (IN.take q) ++ ([[SV.c (.int CL[j].made CL[j].hm)]] ++ needsX CL (IN.drop (q + 1))) := by
  have := needsX_step hq hj e
  rw [if_pos hm] at this
  rw [← List.append_assoc, ← this, ← needsX_app, List.take_append_drop]
 constructor
 ·rw [h, List.length_append, List.length_append]
  show _ < _ + (1 + _)
  omega
 ·rw [nth_eq, h, List.getElem?_append_right (Nat.le_refl _), Nat.sub_self]; rfl
theorem int_svV {a b : Int} {ha : IR a} {hb : IR b} (e : a = b) : SV.c (.int a ha) = SV.c (.int b hb) := by subst e; rfl
set_option maxHeartbeats 8000000 in
theorem needs_vc {tb tk tg td tc : TypeId} {k : Nat} {hk : IR (k : Nat)} {n1 : Bool} {CL : List CU} {c1 : Nat} {h1 : SliOk n1 CL.length c1} {n2 : Bool} {L : List GU} {c2 : Nat} {h2 : SliOk n2 L.length c2} {fam : List Ent} (hlt : k < L.length) {IN : List ZV} (hin : okSW fam L[k].i IN) (hir : IR (L[k].i.n : Nat)) (hz : ∀ z ∈ IN, 0 ≤ z.x ∧ z.x < (CL.length : Nat)) (l : Nat) :
  vcI ENs HNs l (needsX CL IN) (hpNs tb tk tg td tc k hk n1 CL c1 h1 n2 L c2 h2 fam) cNs false 0 (.c (.val (.func (.yield l) #[] #[])) :: ([SV.c (.ptr 0 0), SV.c (.ptr 1 0)] ++ List.replicate ((Tryd.f63).ntmps - 3) uv)) (hpNs tb tk tg td tc k hk n1 CL c1 h1 n2 L c2 h2 fam) fun e st k _ _ => (match e with | .exit _ => False | _ => st = true ∨ k = (needsX CL IN).length) := by
 unfold hpNs
 conv => whnf
 conv =>
  arg 2
  tactic' =>
   apply eff_index_sli (k := k) (hi := hk) (ho := ?how3) (hT := ?hTw3) (hx := ?hxw3) (hk := ?hkw3) (hlt := ?hltw3)
   case how3 => rfl
   case hTw3 => rfl
   case hxw3 => rfl
   case hkw3 => rfl
   case hltw3 => exact hlt
 conv => whnf
 conv =>
  arg 2
  tactic' =>
   apply eff_load_sub (ho := ?how4) (hT := ?hTw4) (hx := ?hxw4) (hb := ?hbw4) (hm := ?hmw4) (hv := ?hvw4)
   case how4 => rfl
   case hTw4 => rfl
   case hxw4 => rfl
   case hbw4 => rfl
   case hmw4 => exact subC_gu L hlt 1 1 (r := [L[k].i.v]) rfl
   case hvw4 => rfl
 conv => whnf
 conv =>
  arg 2
  tactic' =>
   apply eff_len_val (hi := hir) (ho := ?how5) (hc := ?hcw5) (ha := ?haw5) (ht := ?htw5) (hT := ?hTw5) (hx := ?hxw5)
   case how5 => rfl
   case hcw5 => rfl
   case haw5 => rfl
   case htw5 => rfl
   case hTw5 => rfl
   case hxw5 => rfl
 conv => whnf
 refine ⟨rfl, fun m k2 tm => ∃ q : Nat, m + q = IN.length ∧ k2 = (needsX CL (IN.take q)).length ∧ ∃ (z : Int) (hz : IR z) (vs : Nat → Value), z = (q : Int) ∧ tm = ((.c (.val (.func (.yield l) #[] #[])) :: .c (.ptr 0 0) :: .c (.val (vs 2)) :: .c (.val (vs 3)) :: .c (.val (vs 4)) :: .c (.val (vs 5)) :: .c (.val (vs 6)) :: .c (.val (vs 7)) :: .c (.val (vs 8)) :: .c (.val (vs 9)) :: .c (.val (vs 10)) :: .c (.val (vs 11)) :: .c (.val (vs 12)) :: .c (.val (vs 13)) :: .c L[k].i.v :: .c (.int (L[k].i.n : Nat) hir) :: .c (.int z hz) :: .c (.val (vs 17)) :: .c (.val (vs 18)) :: .c (.val (vs 19)) :: .c (.val (vs 20)) :: .c (.val (vs 21)) :: .c (.val (vs 22)) :: .c (.val (vs 23)) :: .c (.val (vs 24)) :: .c (.val (vs 25)) :: .c (.val (vs 26)) :: .c (.val (vs 27)) :: .c (.val (vs 28)) :: .c (.val (vs 29)) :: .c (.val (vs 30)) :: .c (.val (vs 31)) :: .c (.val (vs 32)) :: .c (.val (vs 33)) :: .c (.val (vs 34)) :: .c (.val (vs 35)) :: .c (.val (vs 36)) :: []) : List SV), ⟨[0,1,14,15,16], fun vs => ⟨?_, IN.length, 0, rfl,rfl,0, (by decide), vs, rfl, rfl⟩⟩, ?_⟩
 ·exact fun ρ ρ' hρ => by
   have e0 : ρ 0 = ρ' 0 := hρ 0 rfl
   show List.map (SV.den ρ) ((.c (.val (.func (.yield l) #[] #[])) :: .c (.ptr 0 0) :: .c (.val (vs 2)) :: .c (.val (vs 3)) :: .c (.val (vs 4)) :: .c (.val (vs 5)) :: .c (.val (vs 6)) :: .c (.val (vs 7)) :: .c (.val (vs 8)) :: .c (.val (vs 9)) :: .c (.val (vs 10)) :: .c (.val (vs 11)) :: .c (.val (vs 12)) :: .c (.val (vs 13)) :: .c L[k].i.v :: .c (.int (L[k].i.n : Nat) hir) :: .c (.int 0 (by decide)) :: .c (.val (vs 17)) :: .c (.val (vs 18)) :: .c (.val (vs 19)) :: .c (.val (vs 20)) :: .c (.val (vs 21)) :: .c (.val (vs 22)) :: .c (.val (vs 23)) :: .c (.val (vs 24)) :: .c (.val (vs 25)) :: .c (.val (vs 26)) :: .c (.val (vs 27)) :: .c (.val (vs 28)) :: .c (.val (vs 29)) :: .c (.val (vs 30)) :: .c (.val (vs 31)) :: .c (.val (vs 32)) :: .c (.val (vs 33)) :: .c (.val (vs 34)) :: .c (.val (vs 35)) :: .c (.val (vs 36)) :: []) : List SV) = List.map (SV.den ρ') ((.c (.val (.func (.yield l) #[] #[])) :: .c (.ptr 0 0) :: .c (.val (vs 2)) :: .c (.val (vs 3)) :: .c (.val (vs 4)) :: .c (.val (vs 5)) :: .c (.val (vs 6)) :: .c (.val (vs 7)) :: .c (.val (vs 8)) :: .c (.val (vs 9)) :: .c (.val (vs 10)) :: .c (.val (vs 11)) :: .c (.val (vs 12)) :: .c (.val (vs 13)) :: .c L[k].i.v :: .c (.int (L[k].i.n : Nat) hir) :: .c (.int 0 (by decide)) :: .c (.val (vs 17)) :: .c (.val (vs 18)) :: .c (.val (vs 19)) :: .c (.val (vs 20)) :: .c (.val (vs 21)) :: .c (.val (vs 22)) :: .c (.val (vs 23)) :: .c (.val (vs 24)) :: .c (.val (vs 25)) :: .c (.val (vs 26)) :: .c (.val (vs 27)) :: .c (.val (vs 28)) :: .c (.val (vs 29)) :: .c (.val (vs 30)) :: .c (.val (vs 31)) :: .c (.val (vs 32)) :: .c (.val (vs 33)) :: .c (.val (vs 34)) :: .c (.val (vs 35)) :: .c (.val (vs 36)) :: []) : List SV)
   simp only [List.map_cons, List.map_nil, SV.den, C.den, C.cells, adr, e0, SW.v]
 rintro m k2 tm ⟨q, hmq, rfl, _, hqi, vs, rfl, rfl⟩
 obtain ⟨hn, hin⟩ := hin
 conv => whnf
 refine bcase_intro (fun hlq => ?_) (fun hlq => ?_)
 ·have hq : q < IN.length := by rw [← hn]; exact n_lt hlq
  obtain ⟨r, o, ha, hfm⟩ : ∃ r o, L[k].i.a = some ⟨r, o, none⟩ ∧ InF fam (r, o) (zvC IN) := hin.resolve_left fun e => by rw [e] at hq; cases hq
  conv => whnf
  refine .inr ⟨r, o, L[k].i.n, L[k].i.c, q, by show SV.c (.val (.slice L[k].i.a _ _)) = _; rw [ha], rfl, by rw [hn]; exact hq, ?_⟩
  conv => whnf
  refine .inr ⟨r, o, q * 1, 5, zvC IN, .c (.int IN[q].x IN[q].hx), rfl, ⟨_, _, _, rfl,rfl,hfm⟩, ⟨partC_zv IN hq, fun _ _=>rfl⟩, ?_⟩
  conv => whnf
  obtain ⟨g1, g2⟩ := hz IN[q] (List.getElem_mem hq)
  obtain ⟨j, hj⟩ : ∃ j : Nat, IN[q].x = (j : Nat) := ⟨IN[q].x.toNat, (Int.toNat_of_nonneg g1).symm⟩
  have hjl : j < CL.length := by omega
  have hji : IR (j : Nat) := by rw [← hj]; exact IN[q].hx
  conv =>
   arg 2
   tactic' =>
    apply eff_index_sli (k := j) (hi := hji) (ho := ?how6) (hT := ?hTw6) (hx := ?hxw6) (hk := ?hkw6) (hlt := ?hltw6)
    case how6 => rfl
    case hTw6 => rfl
    case hxw6 => rfl
    case hkw6 => exact int_svV hj
    case hltw6 => exact hjl
  conv => whnf
  conv =>
   arg 2
   tactic' =>
    apply eff_load_sub (ho := ?how7) (hT := ?hTw7) (hx := ?hxw7) (hb := ?hbw7) (hm := ?hmw7) (hv := ?hvw7)
    case how7 => rfl
    case hTw7 => rfl
    case hxw7 => rfl
    case hbw7 => rfl
    case hmw7 => exact subC_cu CL hjl 1 1 (r := [.int CL[j].made CL[j].hm]) rfl
    case hvw7 => rfl
  conv => whnf
  refine bcase_intro (fun hm => ?_) (fun hm => ?_)
  ·have hm : 0 ≤ CL[j].made := of_decide_eq_true hm
   obtain ⟨f1, f2⟩ := needsX_all hq hjl hj hm
   conv => whnf
   refine ⟨⟨rfl,rfl,f1, fun ρ => ?_⟩, [0,1,14,15,16,30], fun vs2 => ⟨?_, ?_, [30], fun vs3 => ⟨fun _ _ _ => rfl, ?_⟩⟩⟩
   ·rw [f2]; rfl
   ·exact fun ρ ρ' hρ => by
     have e0 : ρ 0 = ρ' 0 := hρ 0 rfl
     show List.map (SV.den ρ) ((.c (.val (.func (.yield l) #[] #[])) :: .c (.ptr 0 0) :: .c (.val (vs2 2)) :: .c (.val (vs2 3)) :: .c (.val (vs2 4)) :: .c (.val (vs2 5)) :: .c (.val (vs2 6)) :: .c (.val (vs2 7)) :: .c (.val (vs2 8)) :: .c (.val (vs2 9)) :: .c (.val (vs2 10)) :: .c (.val (vs2 11)) :: .c (.val (vs2 12)) :: .c (.val (vs2 13)) :: .c L[k].i.v :: .c (.int (L[k].i.n : Nat) hir) :: .c (.int (q : Nat) hqi) :: .c (.val (vs2 17)) :: .c (.val (vs2 18)) :: .c (.val (vs2 19)) :: .c (.val (vs2 20)) :: .c (.val (vs2 21)) :: .c (.val (vs2 22)) :: .c (.val (vs2 23)) :: .c (.val (vs2 24)) :: .c (.val (vs2 25)) :: .c (.val (vs2 26)) :: .c (.val (vs2 27)) :: .c (.val (vs2 28)) :: .c (.val (vs2 29)) :: .c (.val (.bool true)) :: .c (.val (vs2 31)) :: .c (.val (vs2 32)) :: .c (.val (vs2 33)) :: .c (.val (vs2 34)) :: .c (.val (vs2 35)) :: .c (.val (vs2 36)) :: []) : List SV) = List.map (SV.den ρ') ((.c (.val (.func (.yield l) #[] #[])) :: .c (.ptr 0 0) :: .c (.val (vs2 2)) :: .c (.val (vs2 3)) :: .c (.val (vs2 4)) :: .c (.val (vs2 5)) :: .c (.val (vs2 6)) :: .c (.val (vs2 7)) :: .c (.val (vs2 8)) :: .c (.val (vs2 9)) :: .c (.val (vs2 10)) :: .c (.val (vs2 11)) :: .c (.val (vs2 12)) :: .c (.val (vs2 13)) :: .c L[k].i.v :: .c (.int (L[k].i.n : Nat) hir) :: .c (.int (q : Nat) hqi) :: .c (.val (vs2 17)) :: .c (.val (vs2 18)) :: .c (.val (vs2 19)) :: .c (.val (vs2 20)) :: .c (.val (vs2 21)) :: .c (.val (vs2 22)) :: .c (.val (vs2 23)) :: .c (.val (vs2 24)) :: .c (.val (vs2 25)) :: .c (.val (vs2 26)) :: .c (.val (vs2 27)) :: .c (.val (vs2 28)) :: .c (.val (vs2 29)) :: .c (.val (.bool true)) :: .c (.val (vs2 31)) :: .c (.val (vs2 32)) :: .c (.val (vs2 33)) :: .c (.val (vs2 34)) :: .c (.val (vs2 35)) :: .c (.val (vs2 36)) :: []) : List SV)
     simp only [List.map_cons, List.map_nil, SV.den, C.den, C.cells, adr, e0, SW.v]
   ·conv => whnf
    refine ⟨rfl, [0,1,14,15,16], fun vs4 => ⟨?_, m - 1, by omega, q + 1, by omega, by rw [needsX_step hq hjl hj, if_pos hm, List.length_append]; rfl, _, IR.wrap _, vs4, wrap_add1 (n := IN.length) hq (by rw [← hn]; exact hir), rfl⟩⟩
    exact fun ρ ρ' hρ => by
      have e0 : ρ 0 = ρ' 0 := hρ 0 rfl
      show List.map (SV.den ρ) ((.c (.val (.func (.yield l) #[] #[])) :: .c (.ptr 0 0) :: .c (.val (vs4 2)) :: .c (.val (vs4 3)) :: .c (.val (vs4 4)) :: .c (.val (vs4 5)) :: .c (.val (vs4 6)) :: .c (.val (vs4 7)) :: .c (.val (vs4 8)) :: .c (.val (vs4 9)) :: .c (.val (vs4 10)) :: .c (.val (vs4 11)) :: .c (.val (vs4 12)) :: .c (.val (vs4 13)) :: .c L[k].i.v :: .c (.int (L[k].i.n : Nat) hir) :: .c (.int (IntKind.i64.wrap ((q : Int) + 1)) (IR.wrap _)) :: .c (.val (vs4 17)) :: .c (.val (vs4 18)) :: .c (.val (vs4 19)) :: .c (.val (vs4 20)) :: .c (.val (vs4 21)) :: .c (.val (vs4 22)) :: .c (.val (vs4 23)) :: .c (.val (vs4 24)) :: .c (.val (vs4 25)) :: .c (.val (vs4 26)) :: .c (.val (vs4 27)) :: .c (.val (vs4 28)) :: .c (.val (vs4 29)) :: .c (.val (vs4 30)) :: .c (.val (vs4 31)) :: .c (.val (vs4 32)) :: .c (.val (vs4 33)) :: .c (.val (vs4 34)) :: .c (.val (vs4 35)) :: .c (.val (vs4 36)) :: []) : List SV) = List.map (SV.den ρ') ((.c (.val (.func (.yield l) #[] #[])) :: .c (.ptr 0 0) :: .c (.val (vs4 2)) :: .c (.val (vs4 3)) :: .c (.val (vs4 4)) :: .c (.val (vs4 5)) :: .c (.val (vs4 6)) :: .c (.val (vs4 7)) :: .c (.val (vs4 8)) :: .c (.val (vs4 9)) :: .c (.val (vs4 10)) :: .c (.val (vs4 11)) :: .c (.val (vs4 12)) :: .c (.val (vs4 13)) :: .c L[k].i.v :: .c (.int (L[k].i.n : Nat) hir) :: .c (.int (IntKind.i64.wrap ((q : Int) + 1)) (IR.wrap _)) :: .c (.val (vs4 17)) :: .c (.val (vs4 18)) :: .c (.val (vs4 19)) :: .c (.val (vs4 20)) :: .c (.val (vs4 21)) :: .c (.val (vs4 22)) :: .c (.val (vs4 23)) :: .c (.val (vs4 24)) :: .c (.val (vs4 25)) :: .c (.val (vs4 26)) :: .c (.val (vs4 27)) :: .c (.val (vs4 28)) :: .c (.val (vs4 29)) :: .c (.val (vs4 30)) :: .c (.val (vs4 31)) :: .c (.val (vs4 32)) :: .c (.val (vs4 33)) :: .c (.val (vs4 34)) :: .c (.val (vs4 35)) :: .c (.val (vs4 36)) :: []) : List SV)
      simp only [List.map_cons, List.map_nil, SV.den, C.den, C.cells, adr, e0, SW.v]
   ·conv => whnf
    exact .inl rfl
  ·have hm : ¬ 0 ≤ CL[j].made := of_decide_eq_false hm
   conv => whnf
   refine ⟨rfl, [0,1,14,15,16], fun vs4 => ⟨?_, m - 1, by omega, q + 1, by omega, by rw [needsX_step hq hjl hj, if_neg hm, List.append_nil], _, IR.wrap _, vs4, wrap_add1 (n := IN.length) hq (by rw [← hn]; exact hir), rfl⟩⟩
   exact fun ρ ρ' hρ => by
     have e0 : ρ 0 = ρ' 0 := hρ 0 rfl
     show List.map (SV.den ρ) ((.c (.val (.func (.yield l) #[] #[])) :: .c (.ptr 0 0) :: .c (.val (vs4 2)) :: .c (.val (vs4 3)) :: .c (.val (vs4 4)) :: .c (.val (vs4 5)) :: .c (.val (vs4 6)) :: .c (.val (vs4 7)) :: .c (.val (vs4 8)) :: .c (.val (vs4 9)) :: .c (.val (vs4 10)) :: .c (.val (vs4 11)) :: .c (.val (vs4 12)) :: .c (.val (vs4 13)) :: .c L[k].i.v :: .c (.int (L[k].i.n : Nat) hir) :: .c (.int (IntKind.i64.wrap ((q : Int) + 1)) (IR.wrap _)) :: .c (.val (vs4 17)) :: .c (.val (vs4 18)) :: .c (.val (vs4 19)) :: .c (.val (vs4 20)) :: .c (.val (vs4 21)) :: .c (.val (vs4 22)) :: .c (.val (vs4 23)) :: .c (.val (vs4 24)) :: .c (.val (vs4 25)) :: .c (.val (vs4 26)) :: .c (.val (vs4 27)) :: .c (.val (vs4 28)) :: .c (.val (vs4 29)) :: .c (.val (vs4 30)) :: .c (.val (vs4 31)) :: .c (.val (vs4 32)) :: .c (.val (vs4 33)) :: .c (.val (vs4 34)) :: .c (.val (vs4 35)) :: .c (.val (vs4 36)) :: []) : List SV) = List.map (SV.den ρ') ((.c (.val (.func (.yield l) #[] #[])) :: .c (.ptr 0 0) :: .c (.val (vs4 2)) :: .c (.val (vs4 3)) :: .c (.val (vs4 4)) :: .c (.val (vs4 5)) :: .c (.val (vs4 6)) :: .c (.val (vs4 7)) :: .c (.val (vs4 8)) :: .c (.val (vs4 9)) :: .c (.val (vs4 10)) :: .c (.val (vs4 11)) :: .c (.val (vs4 12)) :: .c (.val (vs4 13)) :: .c L[k].i.v :: .c (.int (L[k].i.n : Nat) hir) :: .c (.int (IntKind.i64.wrap ((q : Int) + 1)) (IR.wrap _)) :: .c (.val (vs4 17)) :: .c (.val (vs4 18)) :: .c (.val (vs4 19)) :: .c (.val (vs4 20)) :: .c (.val (vs4 21)) :: .c (.val (vs4 22)) :: .c (.val (vs4 23)) :: .c (.val (vs4 24)) :: .c (.val (vs4 25)) :: .c (.val (vs4 26)) :: .c (.val (vs4 27)) :: .c (.val (vs4 28)) :: .c (.val (vs4 29)) :: .c (.val (vs4 30)) :: .c (.val (vs4 31)) :: .c (.val (vs4 32)) :: .c (.val (vs4 33)) :: .c (.val (vs4 34)) :: .c (.val (vs4 35)) :: .c (.val (vs4 36)) :: []) : List SV)
     simp only [List.map_cons, List.map_nil, SV.den, C.den, C.cells, adr, e0, SW.v]
 ·have hge : IN.length ≤ q := by rw [← hn]; exact n_ge hlq
  conv => whnf
  exact .inr (by rw [List.take_of_length_le hge])
theorem good_blk {w : World} {ρx ρ' : Rho} {b i : Nat} {t : TyX} {r : Bool} {cs cs' : List C} {x y : Nat} (h : Holds ρ' ⟨t, r, cs, x⟩ b w) (hi : ρx i = ρ' b) (e : cellsL ρx cs' = cellsL ρ' cs) : Holds ρx ⟨t, true, cs', y⟩ i w := ⟨by
 show w.rangeAt (ρx i).1 (ρx i).2 (cellsL ρx cs')
 rw [hi, e]; exact h.1, fun h => by cases h⟩
theorem void_eq {t t2 : TyX} {r : Bool} {cs : List C} {x y : Nat} (hv : (⟨t, true, cs, x⟩ : Blk).void = false) : (⟨t2, r, cs, y⟩ : Blk).void = false := by
 cases cs with
 | nil => cases hv
 | cons a l => cases r <;> rfl
def rhoN (ρ : Rho) (b b2 gb d c fb : Nat) : Rho
 | 0 => ρ b
 | 1 => ρ b2
 | 2 => ρ gb
 | 3 => ρ d
 | 4 => ρ c
 | 5 => ρ fb
 | i => ρ i
theorem goodNs {hf : Nat → Option Blk} {ρ : Rho} {b b2 gb d c fb : Nat} {tb tk tg td tc : TypeId} {rb rk rg rd rc : Bool} {xb xk xg xd xc xf k : Nat} {hk : IR (k : Nat)} {n1 : Bool} {CL : List CU} {c1 : Nat} {h1 : SliOk n1 CL.length c1} {n2 : Bool} {L : List GU} {c2 : Nat} {h2 : SliOk n2 L.length c2} {fam : List Ent}
  (eb : hf b = some ⟨.t tb, rb, [.ptr gb 0], xb⟩) (ek : hf b2 = some ⟨.t tk, rk, [.int (k : Nat) hk], xk⟩) (eg : hf gb = some ⟨.t tg, rg, [.sli n1 c 0 CL.length c1 h1, .sli n2 d 0 L.length c2 h2], xg⟩) (ed : hf d = some ⟨.t td, rd, gusC L, xd⟩) (ec : hf c = some ⟨.t tc, rc, cusC CL, xc⟩)
  (ef : hf fb = some ⟨.x fam, true, [], xf⟩) (hxf : xf = 2 ∨ xf = 3) {w : World} (h : GR hf ρ [b, b2, gb, d, c, fb] w) : GoodI (hpNs tb tk tg td tc k hk n1 CL c1 h1 n2 L c2 h2 fam) (rhoN ρ b b2 gb d c fb) w := by
 obtain ⟨ρ', hag, h⟩ := h
 have qb : ρ' b = ρ b := hag b (by rw [eb]; rfl)
 have qk : ρ' b2 = ρ b2 := hag b2 (by rw [ek]; rfl)
 have qg : ρ' gb = ρ gb := hag gb (by rw [eg]; rfl)
 have qd : ρ' d = ρ d := hag d (by rw [ed]; rfl)
 have qc : ρ' c = ρ c := hag c (by rw [ec]; rfl)
 have qf : ρ' fb = ρ fb := hag fb (by rw [ef]; rfl)
 obtain ⟨b1, bl, -⟩ := h b (by simp) _ eb
 obtain ⟨k1, kl, -⟩ := h b2 (by simp) _ ek
 obtain ⟨g1, gl, -⟩ := h gb (by simp) _ eg
 obtain ⟨d1, dl, -⟩ := h d (by simp) _ ed
 obtain ⟨c1, cl, -⟩ := h c (by simp) _ ec
 obtain ⟨f1, -, f3⟩ := h fb (by simp) _ ef
 intro i blk hi
 rcases i with _ | _ | _ | _ | _ | _ | i
 ·cases hi
  refine ⟨rfl,rfl,fun ρx hx => good_blk b1 ((hx 0 rfl).trans qb.symm) ?_, fun _ => by show (ρ b).1 < _; rw [← qb]; exact bl (by cases rb <;> rfl), fun o l hl => by cases hl⟩
  have x1 : ρx 2 = ρ' gb := (hx 2 rfl).trans qg.symm
  simp only [cellsL, List.flatMap_cons, List.flatMap_nil, C.cells, adr, x1]
 ·cases hi
  exact ⟨rfl,rfl,fun ρx hx => good_blk k1 ((hx 1 rfl).trans qk.symm) rfl, fun _ => by show (ρ b2).1 < _; rw [← qk]; exact kl (by cases rk <;> rfl), fun o l hl => by cases hl⟩
 ·cases hi
  refine ⟨rfl,rfl,fun ρx hx => good_blk g1 ((hx 2 rfl).trans qg.symm) ?_, fun _ => by show (ρ gb).1 < _; rw [← qg]; exact gl (by cases rg <;> rfl), fun o l hl => by cases hl⟩
  have x3 : ρx 3 = ρ' d := (hx 3 rfl).trans qd.symm
  have x4 : ρx 4 = ρ' c := (hx 4 rfl).trans qc.symm
  simp only [cellsL, List.flatMap_cons, List.flatMap_nil, C.cells, x3, x4]
 ·cases hi
  exact ⟨rfl,rfl,fun ρx hx => good_blk d1 ((hx 3 rfl).trans qd.symm) (gusC_pure L _ _), fun hv => by show (ρ d).1 < _; rw [← qd]; exact dl (void_eq hv), fun o l hl => by cases hl⟩
 ·cases hi
  exact ⟨rfl,rfl,fun ρx hx => good_blk c1 ((hx 4 rfl).trans qc.symm) (cusC_pure CL _ _), fun hv => by show (ρ c).1 < _; rw [← qc]; exact cl (void_eq hv), fun o l hl => by cases hl⟩
 ·cases hi
  refine ⟨rfl,rfl,fun ρx hx => good_blk (t := .x fam) f1 ((hx 5 rfl).trans qf.symm) rfl, fun hv => (by cases hv), fun o l hl e he => ?_⟩
  cases hl
  rcases hxf with rfl | rfl
  ·exact f3 true fam rfl e he
  ·exact f3 false fam rfl e he
 ·simp [hpNs, nthO] at hi
def needsR (f : FuncId) (caps : List (Nat × Nat)) (hf : Nat → Option Blk) (K : List Nat → List (List SV) → Prop) : Prop :=
 f = 63 ∧ ∃ (b b2 gb d c fb : Nat) (tb tk tg td tc : TypeId) (rb rk rg rd rc : Bool) (xb xk xg xd xc xf k : Nat) (hk : IR (k : Nat)) (n1 : Bool) (CL : List CU) (c1 : Nat) (h1 : SliOk n1 CL.length c1) (n2 : Bool) (L : List GU) (c2 : Nat) (h2 : SliOk n2 L.length c2) (fam : List Ent) (IN : List ZV) (hlt : k < L.length),
  caps = [(b, 0), (b2, 0)] ∧ hf b = some ⟨.t tb, rb, [.ptr gb 0], xb⟩ ∧ hf b2 = some ⟨.t tk, rk, [.int (k : Nat) hk], xk⟩ ∧ hf gb = some ⟨.t tg, rg, [.sli n1 c 0 CL.length c1 h1, .sli n2 d 0 L.length c2 h2], xg⟩ ∧ hf d = some ⟨.t td, rd, gusC L, xd⟩ ∧ hf c = some ⟨.t tc, rc, cusC CL, xc⟩ ∧
  hf fb = some ⟨.x fam, true, [], xf⟩ ∧ (xf = 2 ∨ xf = 3) ∧ (okSW fam L[k].i IN ∧ IR (L[k].i.n : Nat) ∧ ∀ z ∈ IN, 0 ≤ z.x ∧ z.x < (CL.length : Nat)) ∧ K [b, b2, gb, d, c, fb] (needsX CL IN)
theorem needsR_ok : RrOk needsR := fun f caps hf K h => by
 obtain ⟨rfl, b, b2, gb, d, c, fb, tb, tk, tg, td, tc, rb, rk, rg, rd, rc, xb, xk, xg, xd, xc, xf, k, hk, n1, CL, c1, h1, n2, L, c2, h2, fam, IN, hlt, rfl, eb, ek, eg, ed, ec, ef, hxf, ⟨o1, o2, o3⟩, hK⟩ := h
 refine ⟨_, _, hK, ⟨_, Tryd.func63, by kernel_rfl, by kernel_rfl⟩, needsX_pure CL IN, fun ρ => ?_⟩
 exact iter_ok ENs_ok mixed (inl_ok ENs_ok mixed noF_ok 0) Tryd.func63 (c := cNs) (by kernel_rfl) (by kernel_rfl) (by kernel_rfl) (needsX_pure CL IN) (hpI := hpNs tb tk tg td tc k hk n1 CL c1 h1 n2 L c2 h2 fam) (ρI := rhoN ρ b b2 gb d c fb) (caps := [.c (.ptr 0 0), .c (.ptr 1 0)])
  (fun w h => goodNs eb ek eg ed ec ef hxf h) rfl (fun ρ ρ' h => by simp only [List.map_cons, List.map_nil, SV.den, C.den, C.cells, adr, h 0 rfl, h 1 rfl]) fun l => needs_vc hlt o1 o2 o3 l
def lodR : Rr := fun f caps hf K => listsR f caps hf K ∨ needsR f caps hf K
theorem lodR_ok : RrOk lodR := fun f caps hf K h => h.elim (listsR_ok f caps hf K) (needsR_ok f caps hf K)
end Go.Proofs.YthmdmbpecgakkaaDoor

namespace Go.Proofs.YthmdmbpecgakkaaDoor
open Go.RowKit
set_option maxRecDepth 100000

/-- a place as a number -/
def zN (k : Nat) : ZV := if h : IR (k : Int) then ⟨k, h⟩ else ⟨0, by decide⟩
theorem zN_x {k : Nat} (h : IR (k : Int)) : (zN k).x = (k : Int) := by unfold zN; rw [dif_pos h]
theorem zN_eq {k : Nat} (h : IR (k : Int)) : zN k = ⟨k, h⟩ := dif_pos h
/-- who names what: the entries of the groups from group k on -/
def entsG (f : GU → List ZV) : Nat → List GU → List (ZV × ZV)
  | _, [] => []
  | k, g :: l => (f g).map (fun z => (z, zN k)) ++ entsG f (k + 1) l
theorem entsG_app (f : GU → List ZV) : ∀ (a b : List GU) (k : Nat), entsG f k (a ++ b) = entsG f k a ++ entsG f (k + a.length) b
  | [], _, _ => rfl
  | g :: a, b, k => by
    rw [List.cons_append, entsG, entsG, entsG_app f a b (k + 1), List.append_assoc, List.length_cons, Nat.add_assoc, Nat.add_comm 1]
theorem entsG_take (f : GU → List ZV) {L : List GU} {j : Nat} (hj : j < L.length) : entsG f 0 (L.take (j + 1)) = entsG f 0 (L.take j) ++ (f L[j]).map (fun z => (z, zN j)) := by
  rw [List.take_add_one, List.getElem?_eq_getElem hj, Option.toList_some, entsG_app, Nat.zero_add, List.length_take, Nat.min_eq_left (Nat.le_of_lt hj)]
  show _ ++ (_ ++ []) = _
  rw [List.append_nil]
theorem entsG_mem (f : GU → List ZV) : ∀ (l : List GU) (k : Nat) (e : ZV × ZV), e ∈ entsG f k l ↔ ∃ j, ∃ h : j < l.length, e.1 ∈ f l[j] ∧ e.2 = zN (k + j)
  | [], _, e => ⟨fun h => (by cases h), fun ⟨j, h, _⟩ => absurd h (Nat.not_lt_zero _)⟩
  | g :: l, k, e => by
    rw [entsG, List.mem_append, List.mem_map, entsG_mem f l (k + 1) e]
    constructor
    · rintro (⟨z, hz, rfl⟩ | ⟨j, h, h1, h2⟩)
      · exact ⟨0, Nat.zero_lt_succ _, hz, rfl⟩
      · exact ⟨j + 1, Nat.succ_lt_succ h, h1, by rw [h2]; congr 1; omega⟩
    · rintro ⟨j, h, h1, h2⟩
      cases j with
      | zero => exact .inl ⟨e.1, h1, by rw [Nat.add_zero] at h2; rw [← h2]⟩
      | succ j => exact .inr ⟨j, Nat.lt_of_succ_lt_succ h, h1, by rw [h2]; congr 1; omega⟩
/-- as a map's entries -/
def mEs : List (ZV × ZV) → List (BV × BV)
  | [] => []
  | (a, b) :: l => (.c (.int a.x a.hx), .c (.int b.x b.hx)) :: mEs l
theorem mEs_app : ∀ a b : List (ZV × ZV), mEs (a ++ b) = mEs a ++ mEs b
  | [], _ => rfl
  | (x, y) :: a, b => by rw [List.cons_append, mEs, mEs_app a b]; rfl
theorem mEs_len : ∀ a : List (ZV × ZV), (mEs a).length = a.length
  | [] => rfl
  | (x, y) :: a => by rw [mEs, List.length_cons, mEs_len a]; rfl
theorem mEs_mem : ∀ {l : List (ZV × ZV)} {e : BV × BV}, e ∈ mEs l → ∃ p ∈ l, e = (.c (.int p.1.x p.1.hx), .c (.int p.2.x p.2.hx))
  | [], e, h => by cases h
  | (a, b) :: l, e, h => by
    rcases List.mem_cons.1 h with rfl | h
    · exact ⟨_, List.mem_cons_self, rfl⟩
    · obtain ⟨p, hp, he⟩ := mEs_mem h
      exact ⟨p, List.mem_cons_of_mem _ hp, he⟩
theorem mEs_of : ∀ {l : List (ZV × ZV)} {p : ZV × ZV}, p ∈ l → (BV.c (.int p.1.x p.1.hx), BV.c (.int p.2.x p.2.hx)) ∈ mEs l
  | [], p, h => by cases h
  | (a, b) :: l, p, h => by
    rcases List.mem_cons.1 h with rfl | h
    · exact List.mem_cons_self
    · exact List.mem_cons_of_mem _ (mEs_of h)
/-- each number once -/
def NdK (l : List (ZV × ZV)) : Prop := (l.map fun e => e.1.x).Nodup
/-- what a group uses was made before -/
def MdK (CL : List CU) (l : List (ZV × ZV)) : Prop := ∀ e ∈ l, ∀ c, cuAt CL e.1 = some c → c.made < e.2.x
theorem NdK.snoc {l : List (ZV × ZV)} {z k : ZV} (h : NdK l) (hz : ∀ e ∈ l, e.1.x ≠ z.x) : NdK (l ++ [(z, k)]) := by
  unfold NdK at *
  rw [List.map_append, List.nodup_append]
  refine ⟨h, by simp, ?_⟩
  intro a ha b hb
  rw [List.mem_map] at ha
  obtain ⟨e, he, rfl⟩ := ha
  simp only [List.map_cons, List.map_nil, List.mem_singleton] at hb
  subst hb
  exact hz e he
theorem NdK.uniq : ∀ {l : List (ZV × ZV)}, NdK l → ∀ {a b : ZV × ZV}, a ∈ l → b ∈ l → a.1.x = b.1.x → a = b
  | [], _, a, _, h, _, _ => by cases h
  | x :: l, h, a, b, ha, hb, e => by
    have h : (x.1.x :: l.map fun e => e.1.x).Nodup := h
    obtain ⟨h1, h2⟩ := List.nodup_cons.1 h
    rcases List.mem_cons.1 ha with ha' | ha' <;> rcases List.mem_cons.1 hb with hb' | hb'
    · rw [ha', hb']
    · exact absurd (List.mem_map.2 ⟨b, hb', by rw [← ha']; exact e.symm⟩) h1
    · exact absurd (List.mem_map.2 ⟨a, ha', by rw [← hb']; exact e⟩) h1
    · exact NdK.uniq (l := l) h2 ha' hb' e
theorem NdK.no {l m : List (ZV × ZV)} {e : ZV × ZV} {z k : ZV} (he : e ∈ l) (hz : e.1.x = z.x) : ¬ NdK (l ++ ((z, k) :: m)) := fun h => by
  unfold NdK at h
  rw [List.map_append, List.nodup_append] at h
  exact h.2.2 _ (List.mem_map.2 ⟨e, he, rfl⟩) _ (List.mem_map.2 ⟨(z, k), List.mem_cons_self, rfl⟩) hz
/-- the cluster number i is named as it says -/
def okM (E : List (ZV × ZV)) (i : Nat) (w : Int) : Prop := (0 ≤ w ∧ ∃ e ∈ E, e.1.x = (i : Int) ∧ e.2.x = w) ∨ (w < 0 ∧ ∀ e ∈ E, e.1.x ≠ (i : Int))
def MkP (CL : List CU) (L : List GU) : Prop := (NdK (entsG GU.il 0 L) ∧ MdK CL (entsG GU.il 0 L) ∧ NdK (entsG GU.ol 0 L)) ∧ ∀ i (h : i < CL.length), okM (entsG GU.il 0 L) i CL[i].used ∧ okM (entsG GU.ol 0 L) i CL[i].made
/-- the applied groups' makers are applied -/
def ClP (CL : List CU) (L : List GU) (CT : List Bool) : Prop := ∀ k (h : k < L.length), CT[k]? = some true → ∀ z ∈ L[k].il, ∀ c, cuAt CL z = some c → 0 ≤ c.made → CT[c.made.toNat]? = some true
def SndP (CL : List CU) (L : List GU) : Prop := idxG CL L = true ∧ MkP CL L
def VldP (CL : List CU) (L : List GU) (CT : List Bool) : Prop := SndP CL L ∧ CT.length = L.length ∧ ClP CL L CT
end Go.Proofs.YthmdmbpecgakkaaDoor

namespace Go.Proofs.YthmdmbpecgakkaaDoor
open Go.RowKit
set_option maxRecDepth 100000

theorem ki_int : Tryd.prog.underlying 3 = some (.int .i64) := by kernel_rfl
theorem keyedI : Maps.Keyed Tryd.prog 3 := Maps.int_keyed ki_int
theorem ki_map : Tryd.prog.underlying 110 = some (.map 3 3) := by kernel_rfl
theorem ki_zero (w : World) : (zeroValue 3).run Tryd.prog w = .ok (BV.den (.c (.int 0 (by decide)))) w := by
  have h : (Tryd.prog.info? 3).bind (fun i => i.zero) = some (.int .i64 0) := by kernel_rfl
  cases hi : Tryd.prog.info? 3 with
  | none => rw [hi] at h; cases h
  | some i =>
    rw [hi] at h
    have h : i.zero = some (.int .i64 0) := h
    simp [zeroValue, typeInfo, hi, h, BV.den, B1.cells]
theorem keyI {n : Int} (h : IR n) : KeyOk Tryd.prog 3 (.c (.int n h)) := by
  have hw : (Lit.int .i64 n).wf = true := by
    unfold IR at h
    simp [Lit.wf, IntKind.min, IntKind.max, IntKind.bits, IntKind.signed]
    omega
  refine ⟨.int .i64 n, ?_⟩
  unfold keyOf
  rw [ki_int]
  show mapKey _ _ (.int .i64 n) = _
  unfold mapKey
  rw [ki_int]
  simp [hw]
theorem mEs_keys (l : List (ZV × ZV)) : ∀ e ∈ mEs l, KeyOk Tryd.prog 3 e.1 := fun e he => by
  obtain ⟨p, -, rfl⟩ := mEs_mem he
  exact keyI _
theorem denB_int {a b : Int} {ha : IR a} {hb : IR b} (h : (BV.c (.int a ha)).den = (BV.c (.int b hb)).den) : a = b := by
  have h : Value.int .i64 a = Value.int .i64 b := h
  cases h; rfl
theorem denB_int_ne {a b : Int} {ha : IR a} {hb : IR b} (h : a ≠ b) : (BV.c (.int a ha)).den ≠ (BV.c (.int b hb)).den := fun e => h (denB_int e)
/-- no entry at the key -/
theorem mEs_no {l : List (ZV × ZV)} {n : Int} {h : IR n} (hn : ∀ e ∈ mEs l, e.1.den ≠ (BV.c (.int n h)).den) : ∀ e ∈ l, e.1.x ≠ n := fun p hp e => hn _ (mEs_of hp) (by subst e; rfl)
theorem mEs_snoc (l : List (ZV × ZV)) (a b : ZV) : mEs l ++ [(.c (.int a.x a.hx), .c (.int b.x b.hx))] = mEs (l ++ [(a, b)]) := by rw [mEs_app]; rfl
/-- a number named twice -/
theorem dup_no (f : GU → List ZV) {L : List GU} {j q : Nat} (hj : j < L.length) (hq : q < (f L[j]).length) {e : ZV × ZV} (he : e ∈ entsG f 0 (L.take j) ++ ((f L[j]).take q).map fun z => (z, zN j)) (hx : e.1.x = (f L[j])[q].x) : ¬ NdK (entsG f 0 L) := by
  have e1 : entsG f 0 L = (entsG f 0 (L.take j) ++ ((f L[j]).take q).map fun z => (z, zN j)) ++ (((f L[j])[q], zN j) :: (((f L[j]).drop (q + 1)).map (fun z => (z, zN j)) ++ entsG f (j + 1) (L.drop (j + 1)))) := by
    have h : L = L.take j ++ (L[j] :: L.drop (j + 1)) := by rw [← List.drop_eq_getElem_cons hj, List.take_append_drop]
    have h2 : (f L[j]) = (f L[j]).take q ++ ((f L[j])[q] :: (f L[j]).drop (q + 1)) := by rw [← List.drop_eq_getElem_cons hq, List.take_append_drop]
    have h3 : entsG f 0 L = entsG f 0 (L.take j) ++ entsG f j (L[j] :: L.drop (j + 1)) := by
      rw [show entsG f 0 L = entsG f 0 (L.take j ++ (L[j] :: L.drop (j + 1))) by rw [← h], entsG_app, List.length_take, Nat.min_eq_left (Nat.le_of_lt hj), Nat.zero_add]
    have h4 : (f L[j]).map (fun z => (z, zN j)) = ((f L[j]).take q).map (fun z => (z, zN j)) ++ (((f L[j])[q], zN j) :: ((f L[j]).drop (q + 1)).map (fun z => (z, zN j))) := by
      rw [show (f L[j]).map (fun z => (z, zN j)) = ((f L[j]).take q ++ ((f L[j])[q] :: (f L[j]).drop (q + 1))).map (fun z => (z, zN j)) by rw [← h2], List.map_append, List.map_cons]
    rw [h3, entsG, h4]
    simp only [List.append_assoc, List.cons_append]
  rw [e1]
  exact NdK.no he hx
theorem late_no {CL : List CU} (f : GU → List ZV) {L : List GU} {j q i : Nat} (hj : j < L.length) (hq : q < (f L[j]).length) (hji : IR (j : Int)) (hi : i < CL.length) (hx : (f L[j])[q].x = (i : Int)) (hm : (j : Int) ≤ CL[i].made) : ¬ MdK CL (entsG f 0 L) := fun h => by
  have h1 := h ((f L[j])[q], zN j) ((entsG_mem f L 0 _).2 ⟨j, hj, List.getElem_mem hq, by rw [Nat.zero_add]⟩) CL[i] (by
    unfold cuAt
    simp only
    rw [hx, Int.toNat_natCast, List.getElem?_eq_getElem hi])
  simp only at h1
  rw [zN_x hji] at h1
  omega
end Go.Proofs.YthmdmbpecgakkaaDoor
