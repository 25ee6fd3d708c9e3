/- law 05: a list of bytes as argument. -/
import Derived.Test.YtdjpbccaglkafaaDoorH5L
namespace Go.Proofs.YtdjpbccaglkafaaDoor
open Go.RowKit
set_option maxRecDepth 100000

structure ZB where
  z : Int
  h : 0 ≤ z ∧ z < 256
def u8C : List ZB → List C
  | [] => []
  | x :: l => .val (.int .u8 x.z) :: u8C l
theorem u8C_size : ∀ l : List ZB, sizeC (u8C l) = l.length
  | [] => rfl
  | _ :: l => by rw [u8C, List.length_cons, ← u8C_size l]; show 1 + _ = _; omega
theorem u8C_append : ∀ a b : List ZB, u8C (a ++ b) = u8C a ++ u8C b
  | [], _ => rfl
  | _ :: l, b => by rw [List.cons_append, u8C, u8C_append l b]; rfl
theorem u8C_pure : ∀ l : List ZB, PureL (u8C l)
  | [] => fun _ _ => rfl
  | x :: l => pureL_append (a := [.val (.int .u8 x.z)]) (fun _ _ => rfl) (u8C_pure l)
theorem subC_u8 (l : List ZB) {k : Nat} (hk : k < l.length) : subC (u8C l) (0 + k * 1) 1 = some [.val (.int .u8 l[k].z)] := by
  have e : u8C l = u8C (l.take k) ++ ([.val (.int .u8 l[k].z)] ++ u8C (l.drop (k + 1))) := by
    have h : l = l.take k ++ (l[k] :: l.drop (k + 1)) := by rw [← List.drop_eq_getElem_cons hk, List.take_append_drop]
    rw [show u8C l = u8C (l.take k ++ (l[k] :: l.drop (k + 1))) by rw [← h], u8C_append]
    rfl
  have s : sizeC (u8C (l.take k)) = 0 + k * 1 := by rw [u8C_size]; simp; omega
  rw [e, ← s]
  exact subC_app _ [.val (.int .u8 l[k].z)] _
def okB (args : List SV) (ros : List Blk) (L : List ZB) (ty : TypeId) (v : C) : Prop := args = [.c v] ∧ ros = [⟨.t ty, true, u8C L, 0⟩] ∧ ((∃ cap hl, v = .sli false 0 0 L.length cap hl) ∨ ∃ a c, v = .val (.slice a 0 c) ∧ L = [])
def cLawB : NewC := fun args ros K => (∃ L ty v, okB args ros L ty v) ∧ K (.c (.val (.bool true))) []
theorem call_lawB {f : FuncId} (hf : CSp Tryd.prog f cLawB) {v : C} {ty : TypeId} {L : List ZB} {a : Nat × Nat} (hv : okB [.c v] [⟨.t ty, true, u8C L, 0⟩] L ty v) (w : World) (hr : w.rangeAt a.1 a.2 (cellsL (fun _ => a) (u8C L))) :
    Calls Tryd.prog f #[(SV.c v).den (fun _ => a)] w fun e w' => e = .returned (.bool true) ∧ Below w.heap.size w w' := by
  refine (hf.2 [.c v] [⟨.t ty, true, u8C L, 0⟩] (fun u _ => u = .c (.val (.bool true))) ⟨⟨_, _, _, hv⟩, rfl⟩ ⟨⟨rfl, rfl⟩, trivial⟩ ⟨u8C_pure L, trivial⟩ (fun _ => a) w (fun i c hi => ?_)).mono ?_
  · cases i with
    | zero => simp [nthO] at hi; subst hi; exact hr
    | succ i => simp [nthO] at hi
  · rintro e w' ⟨u, news, σ, rfl, _, hh, _, he⟩
    exact ⟨he σ (Agr.refl _ _), hh.bel.below⟩
end Go.Proofs.YtdjpbccaglkafaaDoor
