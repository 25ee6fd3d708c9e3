/- w -/
import Derived.Test.YtlgcobafjbajdaaGreatDoorJ01
import Derived.Test.YtlgcobafjbajdaaGreatDoorJ13
import Derived.Test.YtlgcobafjbajdaaGreatDoorTie
import Derived.Test.YtlgcobafjbajdaaGreatDoorCards
namespace Go.Proofs.YtlgcobafjbajdaaGreatDoor
open Option renaming some→bL
set_option linter.all false
set_option maxRecDepth 100000
set_option maxHeartbeats 2000000
open Go.ChangeShapes Go.WideShapes Go.ChangeAt Go.RowKit
def a3G (os:Os) (f:os.Started) (H:Type) (enc:TypeId×Value->H): ReturnsInHanded {} Tryz.checked os 5 .any (λw args=>(Rows.viewNextSpec.pre enc Tryz.prog Tryz.f5 Rows.viewNextRow.domain false w args/\laidMetH Tryz.prog Rows.viewNextRow.laid w)/\sizedMet enc Tryz.prog Tryz.f5 (OpenSpec.ofChange Rows.viewNextSpec) false w args) (Rows.viewNextSpec.post enc Tryz.prog Tryz.f5 false true false false):=by
 refine returnsInHanded_of_change_and (C:= Tryz.checked) (X:=λw _=>laidMetH Tryz.prog Rows.viewNextRow.laid w) (λ_ _ _ hh h=>h.of_heap hh) own f kr Tryz.func5
  (ChangeSpec.witness_shaped (enc:=enc) (C:= Tryz.checked) (os:=os) (X:=λw _=>laidMetH Tryz.prog Rows.viewNextRow.laid w) false (World.laidAll Tryz.prog os Rows.viewNextRow.laid) #[.agg #[.slice none 0 0,.int .u8 0,.int .u8 0],.agg #[.int .i64 0,.int .i64 0,.int .i64 0,.int .i64 0,.int .i64 0],.slice none 0 0] 8 (World.laidAll_os _ _ _)
   (World.shaped_of_ZipB kr kr) kr kr kr
   (by rw[MakeChecks.laidMetH_plain _ _ _ kr];exact laidMet_laidAll _ kr kr)) ?_
 intro W base args ds gs r k P _ _ _ _;have d: ∀(j:Nat) t v, Tryz.f5.params[j]? =some t->args[j]? =some v->Value.okWide Tryz.prog W .any base t v:=k;have i:=P;obtain⟨p,q,F,hV,rfl,_,_⟩:=P;have I:DataW.TrodAll enc Tryz.prog W 0 (λ_=>true) true Tryz.f5.params.toList args.toList ds p:=F;rw[Tryz.params5] at I d;have J:=I;obtain⟨v0,Z,v2,d0,d1,d2,Q,p1,p2,rfl,rfl,rfl,V,h1,U⟩:=trodAll_three I;obtain⟨rfl,rfl⟩:=trodVars_none hV;obtain⟨s,A,O,x,y,rfl,E,u⟩:=J0 (d 0 24 v0 rfl rfl) V;obtain⟨R,Y,q2,q3,q4,rfl,G,B,M,N,D⟩:=Hb (d 1 25 Z rfl rfl) h1;obtain⟨z,S,a,rfl,hS,hr⟩:=a41 (d 2 22 v2 rfl rfl) U;simp only[bk] at i;have g:=a59 a9b G B M N D E W u hS hr;have g:Calls Tryz.prog 5 #[SV.den (λ_=>(0,0)) (.agg [.val (.slice s.a s.n s.c),.val (.int .u8 x),.val (.int .u8 y)]),.agg #[.int .i64 R,.int .i64 Y,.int .i64 q2,.int .i64 q3,.int .i64 q4],(SV.c z).den (λ_=>a)] W λe T=>e= .returned (.bool true)/\Below W.heap.size W T:=g;refine g.mono λe W' ⟨he,hb⟩=> ?_;subst he;have m: ∀x∈(Q++p1++p2),x.block<W.heap.size:=λx L=>by simpa using i.lt x (by simpa using L)
 refine⟨_,rfl,_,_,_,[],(Q++p1++p2),[],i,trodAll_mk1 (shut_bool Tryz.underlying4 _),?_,rfl,hb.frame _,λh=>by cases h⟩;exact sO hb J (by intro t o;have o:t∈[24, 25, 22]:=o;simp only[br,cd,or_false] at o;rcases o with rfl|rfl|rfl<;>exact⟨kr,of_decide_eq_true kr⟩) m (λx L=>by simpa using m x L)
def a50:Rows.ViewNextSaid:=
 OpenClaim.holds_of_wide 5 Tryz.f5 rfl rfl rfl rfl rfl rfl rfl ⟨rfl,rfl,rfl,rfl,rfl⟩ rfl rfl rfl rfl rfl kr Tryz.func5 kr
  (of_decide_eq_true kr) (by unfold Func.isWrapper;first|(rw[if_pos (by decide+kernel)];kernel_rfl)|(rw[if_neg (by decide+kernel)];exact⟨rfl,rfl⟩))
  (λos started H enc _=>a3G os started H enc)
def viewNext_card:Rows.ViewNextCardSaid:=
 Claim7.holds_tied_plain_at .later [] [.data,.pinned] true (true, "64c8462908acd9440c9704edf94c96637fd3cc3740a5933ee33443c6582a6c60") false a50 (λ_ h=>by cases h) kr (λ_ h=>by cases h) viewNext_row_tie rfl ⟨rfl,rfl⟩ kr rfl
  (λf fn k e=>by
   obtain rfl:f= 5 :=bL.inj ((show Tryz.prog.funcNamed "lithophane/lithophanelaw24.ViewNext" =some 5 by kernel_rfl).symm.trans k)|>.symm
   obtain rfl:fn= Tryz.f5 :=(bL.inj (Tryz.func5.symm.trans e)).symm
   exact⟨kr,λj t g=>by
    rw[Tryz.params5] at g
    have i:t∈[24, 25, 22]:=by simpa using Array.mem_of_getElem? g
    have d:([24, 25, 22].all λu=> !Tryz.prog.wantsStandIn u)=true:=kr
    exact(show Tryz.prog.wantsStandIn t=false by simpa using fE.1 d t i)⟩)
  kr
#print axioms viewNext_card
end Go.Proofs.YtlgcobafjbajdaaGreatDoor
