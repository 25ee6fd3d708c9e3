/- The reckoner: freezing and calls that tell where pieces do not lie. -/
import Derived.Test.YtdjpbccaglkafaaDoorSxThw
namespace Go.Proofs.YtdjpbccaglkafaaDoor
open Go.RowKit

/-- what holds of the places of a family's pieces -/
def famB (φ : Nat → Prop) (b : Blk) : Prop :=
  match b.ty with
  | .x l => (match b.ro, b.tl with
    | true, 2 => ∀ e, e ∈ l → φ e.a.1
    | true, 3 => ∀ e, e ∈ l → φ e.a.1
    | _, _ => True)
  | _ => True
theorem famB_of {φ : Nat → Prop} {b : Blk} (h : ∀ o l e, b.famOf = some (o, l) → e ∈ l → φ e.a.1) : famB φ b := by
  obtain ⟨ty, ro, cs, tl⟩ := b
  unfold famB
  simp only
  split
  · split
    · exact fun e he => h true _ e rfl he
    · exact fun e he => h false _ e rfl he
    · trivial
  · trivial
def allF (φ : Nat → Prop) : List Blk → Prop
  | [] => True
  | b :: l => famB φ b ∧ allF φ l
theorem allF_of {φ : Nat → Prop} : ∀ (l : List Blk), (∀ i b o m e, nthO l i = some b → b.famOf = some (o, m) → e ∈ m → φ e.a.1) → allF φ l
  | [], _ => trivial
  | b :: l, h => ⟨famB_of fun o m e hm he => h 0 b o m e rfl hm he, allF_of l fun i c o m e hi hm he => h (i + 1) c o m e hi hm he⟩
/-- a block of one's own, b, becomes a piece of the family fb; the cells of block x speak of it by its address -/
def frzD (hp : List Blk) (fb b x : Nat) (K : List Blk → Prop) : Prop :=
  match nthO hp fb, nthO hp b, nthO hp x with
  | some ⟨.x l, true, [], 2⟩, some ⟨.t ty1, false, cs, tl1⟩, some ⟨ty2, false, cs2, tl2⟩ => (PureL cs ∧ Nat.beq b x = false ∧ Nat.beq fb x = false) ∧ ∀ r, allF (fun a => a ≠ r) hp → updK hp fb ⟨.x (l ++ [⟨(r, 0), cs, ty1, tl1⟩]), true, [], 2⟩ fun hp => updK hp b ⟨.t 0, true, [], 0⟩ fun hp => forceL (frzL b r cs2) fun cs3 => updK hp x ⟨ty2, false, cs3, tl2⟩ K
  | _, _, _ => False
theorem frzD_ok {hp : List Blk} {fb b x : Nat} {K : List Blk → Prop} (h : frzD hp fb b x K) {N : Nat} {w0 : Base} {ρ0 : Rho} {w : World} (hh : HRel N w0 (nthO hp) ρ0 w) : ∃ hp', K hp' ∧ Frz N w0 ρ0 w hp hp' := by
  unfold frzD at h
  split at h
  · rename_i l t cs tl ty2 cs2 tl2 hfb hb hx
    obtain ⟨⟨hpure, hbx, hfx⟩, h⟩ := h
    have hbx : b ≠ x := fun e => by subst e; rw [Nat.beq_refl] at hbx; cases hbx
    have hfx : fb ≠ x := fun e => by subst e; rw [Nat.beq_refl] at hfx; cases hfx
    have hfbb : fb ≠ b := fun e => by subst e; rw [hfb] at hb; cases hb
    have h := h (ρ0 b).1 (allF_of _ fun i c o l e hi hm he => fun e2 => (hh.fam i c o l e hi hm he).2 b _ hb rfl e2.symm)
    simp only [updK_eq, forceL_eq] at h
    obtain ⟨h01, t0, ht0, hheap⟩ := (hh.holds ρ0 (Agr.refl _ _) b _ hb).2 rfl
    have hlt := hh.old b _ hb rfl
    have e1 : FamAt N w true ⟨((ρ0 b).1, 0), cs, t, tl⟩ := by
      have h3 : cellsL (fun _ => (0, 0)) cs = cellsL ρ0 cs := hpure _ _
      refine ⟨hpure, ⟨_, hheap, rfl⟩, fun _ => ⟨hh.own b _ hb rfl, rfl, t0, ht0, by rw [h3]; exact hheap⟩, ?_, fun h => (by cases h)⟩
      have h2 := (hh.holds ρ0 (Agr.refl _ _) b _ hb).1
      show w.rangeAt (ρ0 b).1 0 (cellsL (fun _ => (0, 0)) cs)
      rw [h3]
      rw [h01] at h2
      exact h2
    have k1 := hh.kill (b := b) (v := ⟨.t 0, true, [], 0⟩) rfl (map_tl rfl) (fam_tl rfl)
    have k2 := k1.ghost (fb := fb) (l := l ++ [⟨((ρ0 b).1, 0), cs, t, tl⟩]) (fun e he => by
      have own : ∀ j c, upF (nthO hp) b ⟨.t 0, true, [], 0⟩ j = some c → c.ro = false → j ≠ b ∧ nthO hp j = some c := fun j c hj hc => by
        unfold upF at hj
        split at hj
        · cases hj; cases hc
        · rename_i e; exact ⟨e, hj⟩
      rcases List.mem_append.1 he with he | he
      · have := hh.fam fb _ true l e hfb rfl he
        exact ⟨this.1, fun j c _ hj hc => this.2 j c (own j c hj hc).2 hc⟩
      · rw [List.mem_singleton.1 he]
        exact ⟨e1, fun j c _ hj hc => hh.apart b j _ c hb rfl (own j c hj hc).2 (own_live hc) (own j c hj hc).1 |> fun h => h⟩)
    have hxx : upF (upF (nthO hp) b ⟨.t 0, true, [], 0⟩) fb ⟨.x (l ++ [⟨((ρ0 b).1, 0), cs, t, tl⟩]), true, [], 2⟩ x = some ⟨ty2, false, cs2, tl2⟩ := by
      unfold upF; rw [if_neg (Ne.symm hfx), if_neg (Ne.symm hbx)]; exact hx
    have k3 := k2.turn (d := ⟨ty2, false, frzL b (ρ0 b).1 cs2, tl2⟩) hxx rfl ⟨rfl, rfl, rfl⟩ (fun ρ hρ => by
      refine frzL_cells ?_ cs2
      have : ρ b = ρ0 b := hρ b (by unfold upF; split; rfl; split; rfl; rw [hb]; rfl)
      rw [this, ← h01])
    have s1 : nthO (hp.set fb ⟨.x (l ++ [⟨((ρ0 b).1, 0), cs, t, tl⟩]), true, [], 2⟩) = upF (nthO hp) fb ⟨.x (l ++ [⟨((ρ0 b).1, 0), cs, t, tl⟩]), true, [], 2⟩ := nthO_set _ _ _ _ hfb
    have s2 := nthO_set (hp.set fb ⟨.x (l ++ [⟨((ρ0 b).1, 0), cs, t, tl⟩]), true, [], 2⟩) b ⟨.t 0, true, [], 0⟩ _ (by rw [s1]; unfold upF; rw [if_neg (Ne.symm hfbb)]; exact hb)
    have s3 := nthO_set ((hp.set fb ⟨.x (l ++ [⟨((ρ0 b).1, 0), cs, t, tl⟩]), true, [], 2⟩).set b ⟨.t 0, true, [], 0⟩) x ⟨ty2, false, frzL b (ρ0 b).1 cs2, tl2⟩ _ (by rw [s2, s1]; unfold upF; rw [if_neg (Ne.symm hbx), if_neg (Ne.symm hfx)]; exact hx)
    have comm : upF (upF (nthO hp) fb ⟨.x (l ++ [⟨((ρ0 b).1, 0), cs, t, tl⟩]), true, [], 2⟩) b ⟨.t 0, true, [], 0⟩ = upF (upF (nthO hp) b ⟨.t 0, true, [], 0⟩) fb ⟨.x (l ++ [⟨((ρ0 b).1, 0), cs, t, tl⟩]), true, [], 2⟩ := by
      funext i
      unfold upF
      by_cases e1 : i = b
      · rw [if_pos e1, if_neg (fun e => hfbb (e.symm.trans e1)), if_pos e1]
      · rw [if_neg e1]
        split <;> rfl
    refine ⟨_, h, ?_, fun i => ?_⟩
    · rw [s3, s2, s1, comm]; exact k3
    · rw [s3, s2, s1]
      unfold upF
      split
      · rename_i e; rw [e, hx]; rfl
      · split
        · rename_i e; rw [e, hb]; rfl
        · split
          · rename_i e; rw [e, hfb]; rfl
          · rfl
  · exact h.elim
/-- freezing ahead of an operation by a law of its own -/
def ofzD (O : Oper → List SV → List Blk → (List SV → List Blk → Prop) → Prop) : Nat → Oper → List SV → List Blk → (List SV → List Blk → Prop) → Prop
  | 0, o, tm, hp, K => O o tm hp K
  | n + 1, o, tm, hp, K => O o tm hp K ∨ ∃ fb b x, frzD hp fb b x fun hp' => ofzD O n o tm hp' K
theorem ofzD_ok {P : Program} {O : Oper → List SV → List Blk → (List SV → List Blk → Prop) → Prop} (hO : OOk P O) : ∀ n, OOk P (ofzD O n)
  | 0 => hO
  | n + 1 => fun o tm hp K h N w0 a w next Q hr hn => by
    rcases h with h | ⟨fb, b, x, h⟩
    · exact hO o tm hp K h hr hn
    · obtain ⟨ρ0, hh, ht, hd⟩ := hr
      obtain ⟨hp', hK, hf⟩ := frzD_ok h hh
      exact ofzD_ok hO n o tm hp' K hK ⟨ρ0, hf.1, fun ρ hρ => ht ρ (hf.agr hρ), hd⟩ hn
def hnewD (l : List (FuncId × NewC)) (H : FuncId → List SV → List Blk → (SV → List Blk → Prop) → Prop) (f : FuncId) (args : List SV) (hp : List Blk) (K : SV → List Blk → Prop) : Prop :=
  match lkC l f with
  | some c => ∃ fb, (match nthO hp fb with
    | some ⟨.x fl, true, [], t⟩ => (t = 2 ∨ t = 3) ∧ argK hp 0 args fun args' ros bs => pureAll ros ∧ snocK ros ⟨.x fl, true, [], 3⟩ fun ros => c args' ros fun v news => ∀ s, allF (fun a => a < s) hp → allF (fun a => s ≤ a) news → lenK hp fun n => appB hp news fun hp' => snocK bs fb fun bs => K (v.mv bs n) hp'
    | _ => False)
  | none => H f args hp K
theorem hnewD_ok {P : Program} {l : List (FuncId × NewC)} (hl : AllX P l) {H : FuncId → List SV → List Blk → (SV → List Blk → Prop) → Prop} (hH : HOk P H) : HOk P (hnewD l H) := by
  intro f args hp K h
  unfold hnewD at h
  split at h
  · rename_i c hc
    have hsp := hl _ (lkC_mem hc)
    obtain ⟨fb, h⟩ := h
    split at h
    · rename_i fl t hfb
      obtain ⟨ht, h⟩ := h
      refine ⟨hsp.1, fun N w0 ρ0 w hh _ => ?_⟩
      obtain ⟨l', ros0, bs0, hK, hlen0, hro0, hbs0, hden0⟩ := argK_spec h
      obtain ⟨hpure0, hK⟩ := hK
      rw [snocK_eq] at hK
      have hfo : ∃ o, (⟨.x fl, true, [], t⟩ : Blk).famOf = some (o, fl) := by rcases ht with rfl | rfl <;> exact ⟨_, rfl⟩
      obtain ⟨ros, hros⟩ : ∃ ros, ros = ros0 ++ [⟨.x fl, true, [], 3⟩] := ⟨_, rfl⟩
      obtain ⟨bs, hbsd⟩ : ∃ bs, bs = bs0 ++ [fb] := ⟨_, rfl⟩
      rw [← hros] at hK
      have hlen : ros.length = bs.length := by rw [hros, hbsd]; simp [hlen0]
      have hpure : pureAll ros := by rw [hros]; exact pureAll_snoc (fun _ _ => rfl) hpure0
      have hro : roAllX ros := by rw [hros]; exact roAllX_snoc ⟨rfl, rfl⟩ hro0
      have hbs : ∀ (i b : Nat), bs[i]? = some b → ∃ c d, nthO hp b = some c ∧ nthO ros i = some d ∧ d.cs = c.cs := fun i b hi => by
        rw [hbsd] at hi
        by_cases hlt : i < bs0.length
        · rw [List.getElem?_append_left hlt] at hi
          obtain ⟨c', d', h1, h2, h3⟩ := hbs0 i b hi
          refine ⟨c', d', h1, ?_, h3⟩
          rw [hros, nthO_append, if_pos (by omega)]; exact h2
        · rw [List.getElem?_append_right (by omega)] at hi
          have e : i - bs0.length = 0 := by
            have := (List.getElem?_eq_some_iff.1 hi).1
            simp at this; omega
          rw [e] at hi
          simp at hi
          subst hi
          refine ⟨_, ⟨.x fl, true, [], 3⟩, hfb, ?_, rfl⟩
          rw [hros, nthO_append, if_neg (by omega), show i - ros0.length = 0 by omega]; rfl
      have hden : ∀ ρ ρ' : Rho, (∀ (i b : Nat), bs[i]? = some b → ρ' (0 + i) = ρ b) → args.map (SV.den ρ) = l'.map (SV.den ρ') := fun ρ ρ' h => hden0 ρ ρ' fun i b hi => h i b (by rw [hbsd, List.getElem?_append_left (List.getElem?_eq_some_iff.1 hi).1]; exact hi)
      let ρ : Rho := fun i => ρ0 (bs[i]?.getD 0)
      have hρ : ∀ (i b : Nat), bs[i]? = some b → ρ i = ρ0 b := fun i b hi => by show ρ0 (bs[i]?.getD 0) = ρ0 b; rw [hi]; rfl
      have hargs : args.map (SV.den ρ0) = l'.map (SV.den ρ) := hden ρ0 ρ (fun i b hi => by rw [Nat.zero_add]; exact hρ i b hi)
      rw [hargs]
      have hfam0 : ∀ i b o l, nthO ros i = some b → b.famOf = some (o, l) → o = false ∧ l = fl := fun i b o l hi hm => by
        rw [hros, nthO_append] at hi
        split at hi
        · rw [fam_tl (roAll_get2 hro0 hi).2] at hm; cases hm
        · have e : i - ros0.length = 0 := by
            rw [nthO_eq] at hi
            have := (List.getElem?_eq_some_iff.1 hi).1
            simp at this; omega
          rw [e] at hi
          cases hi
          cases hm
          exact ⟨rfl, rfl⟩
      refine (hsp.2 l' ros _ hK hro hpure ρ w (fun i d hd => ?_) (fun i b o l e hi hm he => ?_) (fun i b o l hi hm => (hfam0 i b o l hi hm).1)).mono ?_
      · have hi : i < ros.length := by rw [nthO_eq] at hd; exact (List.getElem?_eq_some_iff.1 hd).1
        obtain ⟨b, hb⟩ : ∃ b, bs[i]? = some b := ⟨_, List.getElem?_eq_getElem (by omega)⟩
        obtain ⟨c', d', h1, h2, h3⟩ := hbs i b hb
        rw [hd] at h2; cases h2
        have := (hh.holds ρ0 (Agr.refl _ _) b c' h1).1
        have hp2 : cellsL ρ d.cs = cellsL ρ0 d.cs := (pureAll_get hpure hd) ρ ρ0
        rw [hρ i b hb, hp2, h3]
        exact this
      · obtain ⟨rfl, rfl⟩ := hfam0 i b o l hi hm
        obtain ⟨o', ho'⟩ := hfo
        have := (hh.fam fb _ o' _ e hfb ho' he).1
        exact ⟨this.pure, this.row, fun h => (by cases h), this.holds, fun _ => this.lt⟩
      · rintro e w' ⟨v, news, σ, hK, hn, hc, hσ, he⟩
        have hK := hK w.heap.size (allF_of _ fun i c o l e hi hm he => (hh.fam i c o l e hi hm he).1.lt) (allF_of _ fun i c o l e hi hm he => by
          have ho := (newAll_get hn hi).1.fam hm
          exact ((hc.fam (ros.length + i) c o l e (by rw [nthO_append, if_neg (by omega), show ros.length + i - ros.length = i by omega]; exact hi) hm he).1.own ho).1)
        rw [lenK_eq, appB_eq, snocK_eq, ← hbsd] at hK
        refine ⟨_, _, _, hK, hh.join hc hn, fun i hi => ?_, fun ρ1 hρ1 => ?_⟩
        · have hil : i < hp.length := by
            obtain ⟨x, hx⟩ := Option.isSome_iff_exists.1 hi
            rw [nthO_eq] at hx; exact (List.getElem?_eq_some_iff.1 hx).1
          exact ⟨by rw [nthO_append, if_pos hil]; exact hi, if_pos hil⟩
        · rw [mv_den]
          refine he _ (fun k hk => ?_)
          have hkl : k < (ros ++ news).length := by
            obtain ⟨x, hx⟩ := Option.isSome_iff_exists.1 hk
            rw [nthO_eq] at hx; exact (List.getElem?_eq_some_iff.1 hx).1
          show ρ1 (mvN bs hp.length k) = σ k
          unfold mvN
          by_cases hkr : k < ros.length
          · have hkb : k < bs.length := by omega
            obtain ⟨b, hb⟩ : ∃ b, bs[k]? = some b := ⟨_, List.getElem?_eq_getElem hkb⟩
            rw [nthO_eq, hb]
            obtain ⟨c', d', h1, -⟩ := hbs k b hb
            have hbl : b < hp.length := by rw [nthO_eq] at h1; exact (List.getElem?_eq_some_iff.1 h1).1
            rw [hσ k hkr, hρ k b hb]
            have := hρ1 b (by rw [nthO_append, if_pos hbl, h1]; rfl)
            rw [this]; exact if_pos hbl
          · rw [nthO_eq, List.getElem?_eq_none (by omega)]
            have hx : (nthO (hp ++ news) (hp.length + (k - bs.length))).isSome = true := by
              rw [nthO_append, if_neg (by omega)]
              rw [nthO_append, if_neg hkr] at hk
              rw [show hp.length + (k - bs.length) - hp.length = k - ros.length by omega]; exact hk
            have := hρ1 _ hx
            show ρ1 (hp.length + (k - bs.length)) = σ k
            rw [this]
            show (if hp.length + (k - bs.length) < hp.length then _ else σ (hp.length + (k - bs.length) - hp.length + ros.length)) = σ k
            rw [if_neg (by omega)]
            congr 1; omega
    · exact h.elim
  · exact hH f args hp K h
end Go.Proofs.YtdjpbccaglkafaaDoor
