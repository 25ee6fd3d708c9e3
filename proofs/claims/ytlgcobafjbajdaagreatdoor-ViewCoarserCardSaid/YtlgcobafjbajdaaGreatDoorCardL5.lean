/- w -/
import Derived.Test.YtlgcobafjbajdaaGreatDoorJ01
import Derived.Test.YtlgcobafjbajdaaGreatDoorJ13
import Derived.Test.YtlgcobafjbajdaaGreatDoorTie
import Derived.Test.YtlgcobafjbajdaaGreatDoorCards
namespace Go.Proofs.YtlgcobafjbajdaaGreatDoor
open Option renaming some→bL
set_option linter.all false
set_option maxRecDepth 100000
set_option maxHeartbeats 2000000
open Go.ChangeShapes Go.WideShapes Go.ChangeAt Go.RowKit
def t6 (os:Os) (f:os.Started) (H:Type) (enc:TypeId×Value->H): ReturnsInHanded {} Tryz.checked os 7 .any (λw args=>(Rows.viewCoarserSpec.pre enc Tryz.prog Tryz.f7 Rows.viewCoarserRow.domain false w args/\laidMetH Tryz.prog Rows.viewCoarserRow.laid w)/\sizedMet enc Tryz.prog Tryz.f7 (OpenSpec.ofChange Rows.viewCoarserSpec) false w args) (Rows.viewCoarserSpec.post enc Tryz.prog Tryz.f7 false true false false):=by
 refine returnsInHanded_of_change_and (C:= Tryz.checked) (X:=λw _=>laidMetH Tryz.prog Rows.viewCoarserRow.laid w) (λ_ _ _ hh h=>h.of_heap hh) own f kr Tryz.func7
  (ChangeSpec.witness_shaped (enc:=enc) (C:= Tryz.checked) (os:=os) (X:=λw _=>laidMetH Tryz.prog Rows.viewCoarserRow.laid w) false (World.laidAll Tryz.prog os Rows.viewCoarserRow.laid) #[.agg #[.slice none 0 0,.int .u8 0,.int .u8 0],.agg #[.int .i64 0,.int .i64 0,.int .i64 0,.int .i64 0,.int .i64 0],.agg #[.int .u8 0,.int .u8 0]] 8 (World.laidAll_os _ _ _)
   (World.shaped_of_ZipB kr kr) kr kr kr
   (by rw[MakeChecks.laidMetH_plain _ _ _ kr];exact laidMet_laidAll _ kr kr)) ?_
 intro W base args ds gs r k Q _ _ _ _;have d: ∀(j:Nat) t v, Tryz.f7.params[j]? =some t->args[j]? =some v->Value.okWide Tryz.prog W .any base t v:=k;have i:=Q;obtain⟨p,q,E,hV,rfl,_,_⟩:=Q;have G:DataW.TrodAll enc Tryz.prog W 0 (λ_=>true) true Tryz.f7.params.toList args.toList ds p:=E;rw[Tryz.params7] at G d;have J:=G;obtain⟨v0,v1,v2,d0,d1,d2,R,p1,p2,rfl,rfl,rfl,Y,h1,V⟩:=trodAll_three G;obtain⟨rfl,rfl⟩:=trodVars_none hV;obtain⟨s,A,P,x,y,rfl,D,u⟩:=J0 (d 0 24 v0 rfl rfl) Y;obtain⟨T,Z,q2,q3,q4,rfl,F,z,M,N,B⟩:=Hb (d 1 25 v1 rfl rfl) h1;obtain⟨b0,b1,rfl,I,O⟩:=Bo (d 2 50 v2 rfl rfl) V;simp only[bk] at i;have g:=NQ IV F z M N B D W u I O;have g:Calls Tryz.prog 7 #[SV.den (λ_=>(0,0)) (.agg [.val (.slice s.a s.n s.c),.val (.int .u8 x),.val (.int .u8 y)]),.agg #[.int .i64 T,.int .i64 Z,.int .i64 q2,.int .i64 q3,.int .i64 q4],SV.den (λ_=>(0,0)) (.agg [.val (.int .u8 b0),.val (.int .u8 b1)])] W λe U=>e= .returned (.bool true)/\Below W.heap.size W U:=g;refine g.mono λe W' ⟨he,hb⟩=> ?_;subst he;have m: ∀x∈(R++p1++p2),x.block<W.heap.size:=λx L=>by simpa using i.lt x (by simpa using L)
 refine⟨_,rfl,_,_,_,[],(R++p1++p2),[],i,trodAll_mk1 (shut_bool Tryz.underlying4 _),?_,rfl,hb.frame _,λh=>by cases h⟩;exact sO hb J (by intro t o;have o:t∈[24, 25, 50]:=o;simp only[br,cd,or_false] at o;rcases o with rfl|rfl|rfl<;>exact⟨kr,of_decide_eq_true kr⟩) m (λx L=>by simpa using m x L)
def vt:Rows.ViewCoarserSaid:=
 OpenClaim.holds_of_wide 7 Tryz.f7 rfl rfl rfl rfl rfl rfl rfl ⟨rfl,rfl,rfl,rfl,rfl⟩ rfl rfl rfl rfl rfl kr Tryz.func7 kr
  (of_decide_eq_true kr) (by unfold Func.isWrapper;first|(rw[if_pos (by decide+kernel)];kernel_rfl)|(rw[if_neg (by decide+kernel)];exact⟨rfl,rfl⟩))
  (λos started H enc _=>t6 os started H enc)
theorem viewCoarser_card:Rows.ViewCoarserCardSaid:=
 Claim7.holds_tied_plain_at .later [] [.data,.pinned] true (true, "64c8462908acd9440c9704edf94c96637fd3cc3740a5933ee33443c6582a6c60") false vt (λ_ h=>by cases h) kr (λ_ h=>by cases h) viewCoarser_row_tie rfl ⟨rfl,rfl⟩ kr rfl
  (λf fn k e=>by
   obtain rfl:f= 7 :=bL.inj ((show Tryz.prog.funcNamed "lithophane/lithophanelaw24.ViewCoarser" =some 7 by kernel_rfl).symm.trans k)|>.symm
   obtain rfl:fn= Tryz.f7 :=(bL.inj (Tryz.func7.symm.trans e)).symm
   exact⟨kr,λj t g=>by
    rw[Tryz.params7] at g
    have i:t∈[24, 25, 50]:=by simpa using Array.mem_of_getElem? g
    have d:([24, 25, 50].all λu=> !Tryz.prog.wantsStandIn u)=true:=kr
    exact(show Tryz.prog.wantsStandIn t=false by simpa using fE.1 d t i)⟩)
  kr
#print axioms viewCoarser_card
end Go.Proofs.YtlgcobafjbajdaaGreatDoor
