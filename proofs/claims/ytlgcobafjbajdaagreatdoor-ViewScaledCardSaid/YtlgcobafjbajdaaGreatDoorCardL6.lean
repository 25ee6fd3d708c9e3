/- w -/
import Derived.Test.YtlgcobafjbajdaaGreatDoorJ01
import Derived.Test.YtlgcobafjbajdaaGreatDoorJ14
import Derived.Test.YtlgcobafjbajdaaGreatDoorTie
import Derived.Test.YtlgcobafjbajdaaGreatDoorCards
namespace Go.Proofs.YtlgcobafjbajdaaGreatDoor
open Option renaming some→bL
set_option linter.all false
set_option maxRecDepth 100000
set_option maxHeartbeats 2000000
open Go.ChangeShapes Go.WideShapes Go.ChangeAt Go.RowKit
def b0f (os:Os) (f:os.Started) (H:Type) (enc:TypeId×Value->H): ReturnsInHanded {} Tryz.checked os 8 .any (λw args=>(Rows.viewScaledSpec.pre enc Tryz.prog Tryz.f8 Rows.viewScaledRow.domain false w args/\laidMetH Tryz.prog Rows.viewScaledRow.laid w)/\sizedMet enc Tryz.prog Tryz.f8 (OpenSpec.ofChange Rows.viewScaledSpec) false w args) (Rows.viewScaledSpec.post enc Tryz.prog Tryz.f8 false true false false):=by
 refine returnsInHanded_of_change_and (C:= Tryz.checked) (X:=λw _=>laidMetH Tryz.prog Rows.viewScaledRow.laid w) (λ_ _ _ hh h=>h.of_heap hh) own f kr Tryz.func8
  (ChangeSpec.witness_shaped (enc:=enc) (C:= Tryz.checked) (os:=os) (X:=λw _=>laidMetH Tryz.prog Rows.viewScaledRow.laid w) false (World.laidAll Tryz.prog os Rows.viewScaledRow.laid) #[.agg #[.slice none 0 0,.int .u8 0,.int .u8 0],.agg #[.int .i64 0,.int .i64 0,.int .i64 0,.int .i64 0,.int .i64 0],.int .u8 0] 8 (World.laidAll_os _ _ _)
   (World.shaped_of_ZipB kr kr) kr kr kr
   (by rw[MakeChecks.laidMetH_plain _ _ _ kr];exact laidMet_laidAll _ kr kr)) ?_
 intro W base args ds gs r k P _ _ _ _;have d: ∀(j:Nat) t v, Tryz.f8.params[j]? =some t->args[j]? =some v->Value.okWide Tryz.prog W .any base t v:=k;have i:=P;obtain⟨p,q,E,hV,rfl,_,_⟩:=P;have G:DataW.TrodAll enc Tryz.prog W 0 (λ_=>true) true Tryz.f8.params.toList args.toList ds p:=E;rw[Tryz.params8] at G d;have J:=G;obtain⟨v0,Z,v2,d0,d1,d2,Q,p1,p2,rfl,rfl,rfl,V,h1,U⟩:=trodAll_three G;obtain⟨rfl,rfl⟩:=trodVars_none hV;obtain⟨s,A,O,x,y,rfl,D,u⟩:=J0 (d 0 24 v0 rfl rfl) V;obtain⟨R,Y,q2,q3,q4,rfl,F,z,M,N,B⟩:=Hb (d 1 25 Z rfl rfl) h1;obtain⟨b0,rfl,I⟩:=b16 (d 2 5 v2 rfl rfl) U;simp only[bk] at i;have g:=b1e b1h F z M N B D W u I;have g:Calls Tryz.prog 8 #[SV.den (λ_=>(0,0)) (.agg [.val (.slice s.a s.n s.c),.val (.int .u8 x),.val (.int .u8 y)]),.agg #[.int .i64 R,.int .i64 Y,.int .i64 q2,.int .i64 q3,.int .i64 q4],.int .u8 b0] W λe T=>e= .returned (.bool true)/\Below W.heap.size W T:=g;refine g.mono λe W' ⟨he,hb⟩=> ?_;subst he;have m: ∀x∈(Q++p1++p2),x.block<W.heap.size:=λx L=>by simpa using i.lt x (by simpa using L)
 refine⟨_,rfl,_,_,_,[],(Q++p1++p2),[],i,trodAll_mk1 (shut_bool Tryz.underlying4 _),?_,rfl,hb.frame _,λh=>by cases h⟩;exact sO hb J (by intro t o;have o:t∈[24, 25, 5]:=o;simp only[br,cd,or_false] at o;rcases o with rfl|rfl|rfl<;>exact⟨kr,of_decide_eq_true kr⟩) m (λx L=>by simpa using m x L)
def b0k:Rows.ViewScaledSaid:=
 OpenClaim.holds_of_wide 8 Tryz.f8 rfl rfl rfl rfl rfl rfl rfl ⟨rfl,rfl,rfl,rfl,rfl⟩ rfl rfl rfl rfl rfl kr Tryz.func8 kr
  (of_decide_eq_true kr) (by unfold Func.isWrapper;first|(rw[if_pos (by decide+kernel)];kernel_rfl)|(rw[if_neg (by decide+kernel)];exact⟨rfl,rfl⟩))
  (λos started H enc _=>b0f os started H enc)
def viewScaled_card:Rows.ViewScaledCardSaid:=
 Claim7.holds_tied_plain_at .later [] [.data,.pinned] true (true, "64c8462908acd9440c9704edf94c96637fd3cc3740a5933ee33443c6582a6c60") false b0k (λ_ h=>by cases h) kr (λ_ h=>by cases h) viewScaled_row_tie rfl ⟨rfl,rfl⟩ kr rfl
  (λf fn k e=>by
   obtain rfl:f= 8 :=bL.inj ((show Tryz.prog.funcNamed "lithophane/lithophanelaw24.ViewScaled" =some 8 by kernel_rfl).symm.trans k)|>.symm
   obtain rfl:fn= Tryz.f8 :=(bL.inj (Tryz.func8.symm.trans e)).symm
   exact⟨kr,λj t g=>by
    rw[Tryz.params8] at g
    have i:t∈[24, 25, 5]:=by simpa using Array.mem_of_getElem? g
    have d:([24, 25, 5].all λu=> !Tryz.prog.wantsStandIn u)=true:=kr
    exact(show Tryz.prog.wantsStandIn t=false by simpa using fE.1 d t i)⟩)
  kr
#print axioms viewScaled_card
end Go.Proofs.YtlgcobafjbajdaaGreatDoor
