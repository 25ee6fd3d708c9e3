/- w -/
import Derived.Test.YtlgcobafjbajdaaGreatDoorJ01
import Derived.Test.YtlgcobafjbajdaaGreatDoorJ13
import Derived.Test.YtlgcobafjbajdaaGreatDoorTie
import Derived.Test.YtlgcobafjbajdaaGreatDoorCards
namespace Go.Proofs.YtlgcobafjbajdaaGreatDoor
open Option renaming some→bL
set_option linter.all false
set_option maxRecDepth 100000
set_option maxHeartbeats 2000000
open Go.ChangeShapes Go.WideShapes Go.ChangeAt Go.RowKit
def a3o (os:Os) (d:os.Started) (H:Type) (enc:TypeId×Value->H): ReturnsInHanded {} Tryz.checked os 3 .any (λw args=>(Rows.viewChoosesSpec.pre enc Tryz.prog Tryz.f3 Rows.viewChoosesRow.domain false w args/\laidMetH Tryz.prog Rows.viewChoosesRow.laid w)/\sizedMet enc Tryz.prog Tryz.f3 (OpenSpec.ofChange Rows.viewChoosesSpec) false w args) (Rows.viewChoosesSpec.post enc Tryz.prog Tryz.f3 false true false false):=by
 refine returnsInHanded_of_change_and (C:= Tryz.checked) (X:=λw _=>laidMetH Tryz.prog Rows.viewChoosesRow.laid w) (λ_ _ _ hh h=>h.of_heap hh) own d kr Tryz.func3
  (ChangeSpec.witness_shaped (enc:=enc) (C:= Tryz.checked) (os:=os) (X:=λw _=>laidMetH Tryz.prog Rows.viewChoosesRow.laid w) false (World.laidAll Tryz.prog os Rows.viewChoosesRow.laid) #[.agg #[.slice none 0 0,.int .u8 0,.int .u8 0],.agg #[.int .i64 0,.int .i64 0,.int .i64 0,.int .i64 0,.int .i64 0]] 8 (World.laidAll_os _ _ _)
   (World.shaped_of_ZipB kr kr) kr kr kr
   (by rw[MakeChecks.laidMetH_plain _ _ _ kr];exact laidMet_laidAll _ kr kr)) ?_
 intro W base args ds gs r k O _ _ _ _;have g: ∀(j:Nat) t v, Tryz.f3.params[j]? =some t->args[j]? =some v->Value.okWide Tryz.prog W .any base t v:=k;have i:=O;obtain⟨p,q,E,hV,rfl,_,_⟩:=O;have G:DataW.TrodAll enc Tryz.prog W 0 (λ_=>true) true Tryz.f3.params.toList args.toList ds p:=E;rw[Tryz.params3] at G g;have I:=G;obtain⟨v0,V,d0,d1,P,p1,rfl,rfl,rfl,T,Y⟩:=trodAll_two G;obtain⟨rfl,rfl⟩:=trodVars_none hV;obtain⟨s,A,N,x,y,rfl,D,u⟩:=J0 (g 0 24 v0 rfl rfl) T;obtain⟨Q,U,q2,Z,q4,rfl,F,z,L,M,B⟩:=Hb (g 1 25 V rfl rfl) Y;simp only[bk] at i;have f:=a57 a7x F z L M B D W u;have f:Calls Tryz.prog 3 #[SV.den (λ_=>(0,0)) (.agg [.val (.slice s.a s.n s.c),.val (.int .u8 x),.val (.int .u8 y)]),.agg #[.int .i64 Q,.int .i64 U,.int .i64 q2,.int .i64 Z,.int .i64 q4]] W λe R=>e= .returned (.bool true)/\Below W.heap.size W R:=f;refine f.mono λe W' ⟨he,hb⟩=> ?_;subst he;have m: ∀x∈(P++p1),x.block<W.heap.size:=λx J=>by simpa using i.lt x (by simpa using J)
 refine⟨_,rfl,_,_,_,[],(P++p1),[],i,trodAll_mk1 (shut_bool Tryz.underlying4 _),?_,rfl,hb.frame _,λh=>by cases h⟩;exact sO hb I (by intro t o;have o:t∈[24, 25]:=o;simp only[br,cd,or_false] at o;rcases o with rfl|rfl<;>exact⟨kr,of_decide_eq_true kr⟩) m (λx J=>by simpa using m x J)
def a3t:Rows.ViewChoosesSaid:=
 OpenClaim.holds_of_wide 3 Tryz.f3 rfl rfl rfl rfl rfl rfl rfl ⟨rfl,rfl,rfl,rfl,rfl⟩ rfl rfl rfl rfl rfl kr Tryz.func3 kr
  (of_decide_eq_true kr) (by unfold Func.isWrapper;first|(rw[if_pos (by decide+kernel)];kernel_rfl)|(rw[if_neg (by decide+kernel)];exact⟨rfl,rfl⟩))
  (λos started H enc _=>a3o os started H enc)
def viewChooses_card:Rows.ViewChoosesCardSaid:=
 Claim7.holds_tied_plain_at .later [] [.data,.pinned] true (true, "64c8462908acd9440c9704edf94c96637fd3cc3740a5933ee33443c6582a6c60") false a3t (λ_ h=>by cases h) kr (λ_ h=>by cases h) viewChooses_row_tie rfl ⟨rfl,rfl⟩ kr rfl
  (λf fn k e=>by
   obtain rfl:f= 3 :=bL.inj ((show Tryz.prog.funcNamed "lithophane/lithophanelaw24.ViewChooses" =some 3 by kernel_rfl).symm.trans k)|>.symm
   obtain rfl:fn= Tryz.f3 :=(bL.inj (Tryz.func3.symm.trans e)).symm
   exact⟨kr,λj t g=>by
    rw[Tryz.params3] at g
    have i:t∈[24, 25]:=by simpa using Array.mem_of_getElem? g
    have d:([24, 25].all λu=> !Tryz.prog.wantsStandIn u)=true:=kr
    exact(show Tryz.prog.wantsStandIn t=false by simpa using fE.1 d t i)⟩)
  kr
#print axioms viewChooses_card
end Go.Proofs.YtlgcobafjbajdaaGreatDoor
