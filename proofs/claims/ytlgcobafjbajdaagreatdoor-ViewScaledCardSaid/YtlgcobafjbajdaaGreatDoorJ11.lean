/- w -/
import Derived.Test.YtlgcobafjbajdaaGreatDoorJ01
import Derived.Test.YtlgcobafjbajdaaGreatDoorJ10
import Derived.Test.YtlgcobafjbajdaaGreatDoorJ07
import Derived.Test.YtlgcobafjbajdaaGreatDoorJ09
import Derived.Test.YtlgcobafjbajdaaGreatDoorJ04
namespace Go.Proofs.YtlgcobafjbajdaaGreatDoor
open Tryz
open Go.RowKit
open Bool renaming not_eq_true'→dE
open Int renaming ofNat→Y1
open List renaming append_assoc→aJ,length→ln,length_nil→b0l,map→cg,map_append→aV,pairwise_map→mr,replicate→au
open Nat renaming beq→nu,pow_succ→eo
open Option renaming some→bL
set_option linter.all false
set_option maxRecDepth 100000
set_option maxHeartbeats 64000000
section
variable {CL:List CU} {q:Nat} {L:List GU}
def wU (cs:List C) (k:Nat):ZV:=match dk cs k 1 with|some [.int x h]=>⟨x,h⟩|_=>Z0
def tZ (d e:List C) (c:Int):ZV:=if(wU d (c.toNat*3+1)).x<0 then Z0 else wU e ((wU d (c.toNat*3+1)).x.toNat*8+5)
def yC (d:q<ln CL):wU (bG ju CL) (q*3+1)=⟨CL[q].made,CL[q].hm⟩:=by unfold wU;have:=(mj.self ju CL).part d 1 1 (r:=[.int CL[q].made CL[q].hm]) rfl;rw[show q*3+1=0+q*ju.n+1 by show _=0+q*3+1;omega,this]
def FV (d:q<ln L):wU (bG ki L) (q*8+5)=⟨L[q].total,L[q].ht⟩:=by unfold wU;have:=(mj.self ki L).part d 5 1 (r:=[.int L[q].total L[q].ht]) rfl;rw[show q*8+5=0+q*ki.n+5 by show _=0+q*8+5;omega,this]
def Na {c} (e:c=(q:Int)) (d:q<ln CL) (h:CL[q].made<0):tZ (bG ju CL) (bG ki L) c=Z0:=by subst e;unfold tZ;rw[bW,yC d,if_pos h]
def Nb {c} {m:Nat} (e:c=(q:Int)) (d:q<ln CL) (h:CL[q].made=(m:Int)) (hm:m<ln L):tZ (bG ju CL) (bG ki L) c=⟨L[m].total,L[m].ht⟩:=by subst e;unfold tZ;rw[bW,yC d];rw[if_neg (show¬CL[q].made<0 by omega)];show wU (bG ki L) (CL[q].made.toNat*8+5)=_;rw[show CL[q].made.toNat=m by omega,FV hm]
def BC (CL:List CU) (n:Nat) (c:Int):Prop:= ∃q:Nat,c=(q:Int)/\ ∃h:q<ln CL,CL[q].made<(n:Int)
def a0X:cP:=λd e K=> ∃f CL c1 h1 n2 L c2 h2 c hc tc td,d=[.agg [.sli f 0 0 (ln CL) c1 h1,.sli n2 1 0 (ln L) c2 h2],.c (.int c hc)]/\e=[⟨.t tc,true,bG ju CL,0⟩,⟨.t td,true,bG ki L,0⟩]/\BC CL (ln L) c/\K (.c (.int (tZ (bG ju CL) (bG ki L) c).x (tZ (bG ju CL) (bG ki L) c).hx)) []
def Ww:jv prog 133 a0X:=cV qG bj DZ ⟨func133,kr,kr⟩ λi p K j=>by obtain⟨z,CL,E,s,A,L,D,k,c,j,B,F,rfl,rfl,u,f⟩:=j;have p1:cC (bG ju CL):=ab ju CL;have p2:cC (bG ki L):=ab ki L;obtain⟨q,rfl,e,r⟩:=u;refine⟨zD,?_⟩;refine eS ?_;refine zB ?_ ?_<;>intro d;have d:CL[q].made<0:=of_decide_eq_true d;exact⟨[0,1],[0,1],λg=>⟨p1,p2,_,[],rfl,gz _,trivial,.c (.int (tZ (bG ju CL) (bG ki L) q).x (tZ (bG ju CL) (bG ki L) q).hx),λh=>kM ((congrArg ZV.x (Na rfl e d)).symm) h,f⟩⟩;have d: ¬CL[q].made<0:=of_decide_eq_false d;obtain⟨m,hm,hmm⟩: ∃m:Nat,CL[q].made=(m:Int)/\m<ln L:=⟨CL[q].made.toNat,om,om⟩;refine wM ?_;exact⟨[0,1],[0,1],λg=>⟨p1,p2,_,[],rfl,gz _,trivial,.c (.int (tZ (bG ju CL) (bG ki L) q).x (tZ (bG ju CL) (bG ki L) q).hx),λh=>kM ((congrArg ZV.x (Nb rfl e hm hmm)).symm) h,f⟩⟩
noncomputable def Jl:Dr
 |[.agg [.sli _ b1 0 m1 _ _,.sli _ b2 0 m2 _ _],.c (.int c _)],hf=>(match hf b1,hf b2 with
  |some ⟨.t _,_,cs1,_⟩,some ⟨.t _,_,cs2,_⟩=>some (some (∃CL L,cs1=bG ju CL/\cs2=bG ki L/\m1=ln CL/\m2=ln L/\BC CL (ln L) c),.c (.int (tZ cs1 cs2 c).x (tZ cs1 cs2 c).hx))
  |_,_=>none)
 |_,_=>none
def YB:CY prog 133 Jl:=pS Ww λm O p v e=>by
 unfold Jl at e;split at e;rename_i u b1 M x k j y J r h c o;split at e;rename_i t1 N A z s I F B g f;cases e;refine⟨ff,λD=> ?_⟩;obtain⟨CL,L,rfl,rfl,rfl,rfl,E⟩:=D _ rfl;refine⟨[.agg [.sli u 0 0 (ln CL) x k,.sli j 1 0 (ln L) r h],.c (.int c o)],[⟨.t t1,true,bG ju CL,0⟩,⟨.t s,true,bG ki L,0⟩],[b1,y],⟨u,CL,x,k,j,L,r,h,c,o,t1,s,rfl,rfl,E,λG=>rfl⟩,⟨⟨rfl,rfl⟩,⟨rfl,rfl⟩,trivial⟩,⟨ab ju CL,ab ki L,trivial⟩,λG=>rfl,λi H d=> ?_⟩
 match i,d with
 |0,d=>cases d;exact⟨_,g,rfl,ab ju CL⟩
 |1,d=>cases d;exact⟨_,f,rfl,ab ki L⟩
 |i+2,d=>cases d
 cases e;cases e
noncomputable def a5s:List (FuncId×Dr):=[(133,Jl)]
def X7:nN a5s:= .cons YB .nil
noncomputable def a4q:ic:=p7 y7 a5s
def Gx:iU prog a4q:=jM qG X7
def QX:cP:=λd e K=> ∃f CL c1 h1 n2 L c2 h2 n3 l c3 h3 tc td tl,d=[.agg [.sli f 0 0 (ln CL) c1 h1,.sli n2 1 0 (ln L) c2 h2],.c (.sli n3 2 0 (ln l) c3 h3)]/\e=[⟨.t tc,true,bG ju CL,0⟩,⟨.t td,true,bG ki L,0⟩,⟨.t tl,true,bG bI l,0⟩]/\(∀z∈l,BC CL (ln L) z.x)/\
 ∀x hx,(∀T:Int,0<=T->(∀g∈L,0<=g.total/\g.total<=T)->0<=x/\x<=T)->K (.c (.int x hx)) []
def ToB (L:List GU) (x:Int):Prop:= ∀T:Int,0<=T->(∀g∈L,0<=g.total/\g.total<=T)->0<=x/\x<=T
def a5X L:ToB L 0:=λT h _=>⟨dc,h⟩
def a0k {c} (h:BC CL (ln L) c):ToB L (tZ (bG ju CL) (bG ki L) c).x:=λT g f=>by obtain⟨q,e,d,i⟩:=h;by_cases hn:CL[q].made<0;rw[Na e d hn];exact⟨dc,g⟩;rw[Nb e d (m:=CL[q].made.toNat) om om];exact f _ (ak om)
def Ra:cP:=λd e K=> ∃a b ha hb,d=[.c (.int a ha),.c (.int b hb)]/\e=[]/\ ∀x hx t,(t=true->x=a+b)->K (.tup [.c (.int x hx),.c (.val (.bool t))]) []
def Wh:jv prog 108 QX:=cV Gx bj (ck Gx bj bg 0) ⟨func108,kr,kr⟩ λo r K m=>by
 obtain⟨B,CL,O,I,D,L,M,A,N,l,H,p,E,P,F,rfl,rfl,i,m⟩:=m;refine⟨zD,?_⟩;conv=>whnf
 refine zK [0,1,2,3] [1,2,5,6] [0,1,2] (G:={q:Nat×ZV//q.1<=ln l/\ToB L q.2.x}) (λg=>[(5,.c (.int g.1.2.x g.1.2.hx)),(6,.c (.int (g.1.1:Nat) (aR p g.2.1)))]) (λ_=>[]) (λg=>ln l-g.1.1) ⟨(0,Z0),ah _,a5X L⟩ trivial ?_;rintro ⟨⟨k,z⟩,h,f⟩ vs2;have h:k<=ln l:=h;have f:ToB L z.x:=f;dsimp only;refine zB ?_ ?_<;>intro j;have d:k<ln l:=dL j;have e:=i _ (ak d);refine zB ?_ ?_<;>intro u;refine eS ?_;exact⟨⟨CL,L,rfl,rfl,rfl,rfl,e⟩,dD [0,1,2,3] ⟨(k+1,tZ (bG ju CL) (bG ki L) l[k].x),d,a0k e⟩⟩;refine eS ?_;refine⟨⟨CL,L,rfl,rfl,rfl,rfl,e⟩,?_⟩;refine zB ?_ ?_<;>intro y;refine eS ?_;exact⟨⟨CL,L,rfl,rfl,rfl,rfl,e⟩,dD [0,1,2,3] ⟨(k+1,tZ (bG ju CL) (bG ki L) l[k].x),d,a0k e⟩⟩;exact dD [0,1,2,3] ⟨(k+1,z),d,f⟩;exact zO [0,1,2] [0,1,2] (m z.x z.hx f)
def QA:List (FuncId×Dn):=(132,RS)::De
def NP:dU QA:= .cons MR mN
def a4r:ic:=vA 0 QA
def Gy:iU prog a4r:=cm NP 0
def Wu:jv prog 107 Ra:=cV Gy bj (ck Gy bj bg 0) ⟨func107,kr,kr⟩ λe f K d=>by obtain⟨a,b,g,i,rfl,rfl,d⟩:=d;refine⟨zD,?_⟩;exact⟨aj rfl,zO [] [] (v3:=.tup [.c (.int (uS (a+b)) (xX _)),.c (.val (.bool (decide (IR (a+b)))))]) (d _ _ _ (λh=>by unfold uS;rw[if_pos (of_decide_eq_true h)]))⟩
end
section
section
variable {N:Nat} {w0:ip} {hf:Nat->Option aY} {ρ0:fF} {w:World}
def dv.move (h:dv N w0 hf ρ0 w) {b n c v} (hb:hf b=some c) (U:hf n=none) (V:c.mapOf=none) (W:c.famOf=none) (hv:v.void=true) (F:v.mapOf=none) (R:v.famOf=none):dv N w0 (df (df hf b v) n c) (ig ρ0 n (ρ0 b)) w:=by
 have I: ∀i d,df (df hf b v) n c i=some d->(i=n/\d=c)\/(i=b/\d=v)\/(i≠n/\i≠b/\hf i=some d):=λi d f=>by unfold df at f;split at f;rename_i e;cases f;exact .inl ⟨e,rfl⟩;rename_i e;split at f;rename_i P;cases f;exact .inr (.inl ⟨P,rfl⟩);rename_i P;exact .inr (.inr ⟨e,P,f⟩)
 have y: ∀i,i≠n->ig ρ0 n (ρ0 b) i=ρ0 i:=λi f=>if_neg f;have E:ig ρ0 n (ρ0 b) n=ρ0 b:=if_pos rfl;have D: ∀i,(hf i).isSome=true->(df (df hf b v) n c i).isSome=true:=λi f=>by unfold df;split;rfl;split;rfl;exact f
 have M: ∀i,(hf i).isSome=true->i≠n:=λi f e=>by rw[e,U] at f;cases f
 have H: ∀u,gt (df (df hf b v) n c) u (ig ρ0 n (ρ0 b))->gt hf u ρ0/\u n=u b:=λu A=>by have g:gt hf u ρ0:=λi f=>(A i (D i f)).trans (y i (M i f));refine⟨g,?_⟩;rw[A n (by unfold df;rw[if_pos rfl];rfl),E,g b (by rw[hb];rfl)]
 have G:=(lE hv).1;have m: ∀i d,df (df hf b v) n c i=some d->(d=v/\i=b)\/ ∃k,hf k=some d/\ig ρ0 n (ρ0 b) i=ρ0 k/\(i=n/\k=b\/i≠n/\i≠b/\k=i):=λi d f=>by rcases I i d f with⟨rfl,rfl⟩|⟨rfl,rfl⟩|⟨g,q,B⟩;exact .inr ⟨b,hb,E,.inl ⟨rfl,rfl⟩⟩;exact .inl ⟨rfl,rfl⟩;exact .inr ⟨i,B,y i g,.inr ⟨g,q,rfl⟩⟩
 have inj: ∀{i j k z},(i=n/\k=b\/i≠n/\i≠b/\k=i)->(j=n/\z=b\/j≠n/\j≠b/\z=j)->j≠i->z≠k:=by rintro i j k z (⟨rfl,rfl⟩|⟨g,q,rfl⟩) (⟨rfl,rfl⟩|⟨B,h4,rfl⟩) r;exact absurd rfl r;exact h4;exact λe=>q e.symm;exact r
 refine⟨λi d f p=> ?_,λi d f p=> ?_,λi j d e f p O s r=> ?_,λu A i d f=> ?_,h.bel,h.big,λi f=> ?_,λi d e f s=> ?_,λi j d e f O p s r=> ?_,λi d o l e f p s=> ?_⟩;rcases m i d f with⟨rfl,rfl⟩|⟨k,g,q,-⟩;rw[hv] at p;cases p;rw[q];exact h.old k d g p;rcases m i d f with⟨rfl,rfl⟩|⟨k,g,q,-⟩;rw[G] at p;cases p;rw[q];exact h.own k d g p;rcases m i d f with⟨rfl,rfl⟩|⟨k,g,q,B⟩;rw[G] at p;cases p;rcases m j e O with⟨rfl,rfl⟩|⟨z,J,L,Q⟩;rw[hv] at s;cases s;rw[q,L];exact h.apart k z d e g p J s (inj B Q r);obtain⟨g,q⟩:=H u A;rcases I i d f with⟨rfl,rfl⟩|⟨rfl,rfl⟩|⟨-,-,B⟩;have:=h.holds u g b d hb;unfold fq at this⊢;rw[q];exact this;exact fq.void hv u i w;exact h.holds u g i d B;have:=h.ext i f;exact⟨D i this.1,(y i (M i this.1)).trans this.2⟩;rcases m i d f with⟨rfl,rfl⟩|⟨k,g,q,-⟩;rw[F] at s;cases s;rw[q];exact h.maps k d e g s;rcases m i d f with⟨rfl,rfl⟩|⟨k,g,q,B⟩;rw[F] at p;cases p;rcases m j e O with⟨rfl,rfl⟩|⟨z,J,L,Q⟩;rw[F] at s;cases s;rw[q,L];exact h.mapA k z d e g J p s (inj B Q r);rcases m i d f with⟨rfl,rfl⟩|⟨k,g,-,-⟩;rw[R] at p;cases p;have:=h.fam k d o l e g p s;refine⟨this.1,λj x O T=> ?_⟩;rcases m j x O with⟨rfl,rfl⟩|⟨z,J,L,-⟩;rw[G] at T;cases T;rw[L];exact this.2 z x J T
end
def ZR {ty d cs e}:(⟨.t ty,d,cs,e⟩:aY).mapOf=none:=by unfold aY.mapOf Ee;split<;>simp_all
def ZG {ty d cs e}:(⟨.t ty,d,cs,e⟩:aY).famOf=none:=by unfold aY.famOf GC;split<;>simp_all
def mvX (b n:Nat):C->C
 | .sli nl b' off len cap h=>(match nu b' b with
  |true=> .sli nl n off len cap h
  |false=> .sli nl b' off len cap h)
 |x=>x
def Ej (b n:Nat):List C->List C
 |[]=>[]
 |x::l=>mvX b n x::Ej b n l
def OM {b n ρ} (h:ρ n=ρ b) x:(mvX b n x).cells ρ=x.cells ρ:=by unfold mvX;split;split;rename_i e;have:=gH e;subst this;simp only[C.cells,h];rfl;rfl
def tL {b n ρ} (h:ρ n=ρ b): ∀l:List C,af ρ (Ej b n l)=af ρ l
 |[]=>rfl
 |x::l=>by rw[Ej,cO,cO,OM h,tL h l]
def mvB (b n:Nat):List Nat->List aY->(List aY->Prop)->Prop
 |[],d,K=>K d
 |x::l,d,K=>(match an d x with
  |some ⟨.t f,false,e,tl⟩=>kE (Ej b n e) λe=>fU d x ⟨.t f,false,e,tl⟩ λd=>mvB b n l d K
  |_=>False)
def Tc {b n N w0 ρ0 w} (h0:ρ0 n=ρ0 b): ∀{l hp K},mvB b n l hp K->dv N w0 (an hp) ρ0 w->(an hp b).isSome=true->(an hp n).isSome=true->
  ∃hp',K hp'/\dv N w0 (an hp') ρ0 w/\ ∀i,(an hp i).isSome=true->(an hp' i).isSome=true
 |[],hp,K,h,hh,hb,hn=>⟨hp,h,hh,λ_ h=>h⟩
 |x::l,hp,K,h,hh,hb,hn=>by unfold mvB at h;split at h;rename_i k g m p;rw[bV,dR] at h;have u:=hh.turn (d:=⟨.t k,false,Ej b n g,m⟩) p rfl ⟨rfl,rfl,rfl⟩ (λy f=>tL ((f n hn).trans (h0.trans (f b hb).symm)) g);have q:=dt hp x ⟨.t k,false,Ej b n g,m⟩ _ p;(have e: ∀i,(an hp i).isSome=true->(an (hp.set x ⟨.t k,false,Ej b n g,m⟩) i).isSome=true:=λi o=>by rw[q];unfold df;split;rfl;exact o);obtain⟨hp',s,j,r⟩:=Tc h0 h (by rw[q];exact u) (e b hb) (e n hn);exact⟨hp',s,j,λi o=>r i (e i o)⟩;exact h.elim
def Tb {b n}: ∀{l hp K},mvB b n l hp K-> ∃hp',K hp'
 |[],hp,K,h=>⟨hp,h⟩
 |x::l,hp,K,h=>by unfold mvB at h;split at h;rw[bV,dR] at h;exact Tb h;exact h.elim
def mvV (b n:Nat):SV->SV
 | .c x=> .c (mvX b n x)
 | .agg l=> .agg (Ej b n l)
 |x=>x
def XK {b n ρ} (h:ρ n=ρ b) x:(mvX b n x).den ρ=x.den ρ:=by unfold mvX;split;split;rename_i e;have:=gH e;subst this;simp only[C.den,C.cells,h];rfl;rfl
def XJ {b n ρ} (h:ρ n=ρ b) v:(mvV b n v).den ρ=v.den ρ:=by
 cases v with
 |c x=>exact XK h x
 |agg l=>show Value.agg (af ρ (Ej b n l)).toArray=Value.agg (af ρ l).toArray;rw[tL h]
 |tup l=>rfl
def mvA (b n:Nat):List SV->List SV
 |[]=>[]
 |x::l=>mvV b n x::mvA b n l
def Mf {b n ρ} (h:ρ n=ρ b): ∀l:List SV,(mvA b n l).map (SV.den ρ)=l.map (SV.den ρ)
 |[]=>rfl
 |x::l=>by rw[mvA,aI,aI,XJ h,Mf h l]
def S9 (hp:List aY) (b:Nat) (xs:List Nat) (args:List SV) (K:List SV->List aY->Prop):Prop:=
 match an hp b with
 |some ⟨.t e,ro,cs,tl⟩=>fU hp b ⟨.t 0,true,[],0⟩ λhp=>jQ hp ⟨.t e,ro,cs,tl⟩ λd=>pE hp λn=>mvB b n xs d λd=>BH (mvA b n args) λargs=>K args d
 |_=>False
def XG {hp b xs args K} (h:S9 hp b xs args K): ∃a' hp',K a' hp':=by unfold S9 at h;split at h;rw[dR,eW,gq] at h;obtain⟨hp',h⟩:=Tb h;rw[qw] at h;exact⟨_,_,h⟩;exact h.elim
def XH {hp b xs args K} (h:S9 hp b xs args K) {N w0 ρ0 w} (F:dv N w0 (an hp) ρ0 w): ∃a' hp' ρ1,K a' hp'/\dv N w0 (an hp') ρ1 w/\(∀i,(an hp i).isSome=true->(an hp' i).isSome=true/\ρ1 i=ρ0 i)/\ ∀ρ,gt (an hp') ρ ρ1->a'.map (SV.den ρ)=args.map (SV.den ρ):=by
 unfold S9 at h;split at h;rename_i q r u s o;rw[dR,eW,gq] at h;have d:(hp.set b (⟨.t 0,true,[],0⟩:aY)).length=ln hp:=sp;have z:an hp (ln hp)=none:=fY hp;have E:=F.move (v:=⟨.t 0,true,[],0⟩) o z ZR ZG rfl ZR ZG;have f:an (hp.set b (⟨.t 0,true,[],0⟩:aY)++[(⟨.t q,r,u,s⟩:aY)])=df (df (an hp) b ⟨.t 0,true,[],0⟩) (ln hp) ⟨.t q,r,u,s⟩:=by rw[fi,d,dt _ _ _ _ o]
 rw[d] at h;have A:b≠ln hp:=λe=>by rw[e,z] at o;cases o
 have m: ∀i,(an hp i).isSome=true->(an (hp.set b (⟨.t 0,true,[],0⟩:aY)++[(⟨.t q,r,u,s⟩:aY)]) i).isSome=true:=λi p=>by rw[f];unfold df;split;rfl;split;rfl;exact p
 have D:ig ρ0 (ln hp) (ρ0 b) (ln hp)=ig ρ0 (ln hp) (ρ0 b) b:=by unfold ig;rw[if_pos rfl,if_neg A]
 have k:(an (hp.set b (⟨.t 0,true,[],0⟩:aY)++[(⟨.t q,r,u,s⟩:aY)]) (ln hp)).isSome=true:=by rw[f];unfold df;rw[if_pos rfl];rfl
 have j:=m b (by rw[o];rfl);obtain⟨hp',B,y,x⟩:=Tc (ρ0:=ig ρ0 (ln hp) (ρ0 b)) D h (by rw[f];exact E) j k;rw[qw] at B;refine⟨_,hp',_,B,y,λi p=>⟨x i (m i p),?_⟩,λρ g=>Mf ((g _ (x _ k)).trans (D.trans (g _ (x _ j)).symm)) args⟩;have:i≠ln hp:=λe=>by rw[e,z] at p;cases p
 exact if_neg this;exact h.elim
def a16 (H:FuncId->List SV->List aY->(SV->List aY->Prop)->Prop):Nat->FuncId->List SV->List aY->(SV->List aY->Prop)->Prop
 |0,f,d,e,K=>H f d e K
 |n+1,f,d,e,K=>H f d e K\/ ∃b g,S9 e b g d λd e=>a16 H n f d e K
def DY {P H} (x:ko P H): ∀n,ko P (a16 H n)
 |0=>x
 |n+1=>λf o A K h=>by rcases h with h|⟨b,xs,h⟩;exact x f o A K h;obtain⟨J,E,F⟩:=XG h;refine⟨(DY x n f J E K F).1,λN G r w I g=> ?_⟩;obtain⟨j,u,d,D,y,s,m⟩:=XH h I;have z: ∀p,gt (an u) p d->gt (an A) p r:=λp k i q=>(k i (s i q).1).trans (s i q).2;have B:j.map (SV.den d)=o.map (SV.den r):=(m d (gt.refl _ _)).trans (g d (z d (gt.refl _ _)));rw[<-B];refine((DY x n f j u K D).2 N G d w y λp k=> ?_).mono ?_;rw[B,m p k];exact g p (z p k);rintro e L ⟨v,hp2,ρ2,k1,k2,k3,k4⟩;exact⟨v,hp2,ρ2,k1,k2,λi q=>⟨(k3 i (s i q).1).1,(k3 i (s i q).1).2.trans (s i q).2⟩,k4⟩
end
section
variable {x k i R:Nat} {r:OI}
structure Vq (x k i:Nat) (r:OI):Prop where
 lo:val RB r.l*val RB r.l*RB^(2*i)<=x
 hi:x<(val RB r.l+1)*(val RB r.l+1)*RB^(2*i)
 dl:Dl RB r.l
 len:ln r.l+i=k
structure Y4 (x i R low high:Nat):Prop where
 lo:(low+RB*R)*(low+RB*R)*RB^(2*i)<=x
 hi:x<(high+RB*R)*(high+RB*R)*RB^(2*i)
 lt:low<high
 le:high<=65536
def Vq.start (hk:(fK RB x).length<=2*k):Vq x k k OI.nil:=by refine⟨?_,?_,Dl.nil _,aN _⟩;show 0*0*_<=x;rw[jw];exact ah _;show x<(0+1)*(0+1)*RB^(2*k);have e:=jy cT x;have d:RB^(fK RB x).length<=RB^(2*k):=dJ fv hk;rw[aN,gE,Nat.one_mul];exact dh e d
def Ez (h0:0<i):RB^(2*i)=RB^(2*(i-1))*RB*RB:=by rw[show 2*i=2*(i-1)+1+1 by omega,eo,eo]
def a5y {B P} :(0+B*R)*(0+B*R)*P=R*R*(P*B*B):=by grind
def a5z {B P} :(B+B*R)*(B+B*R)*P=(R+1)*(R+1)*(P*B*B):=by grind
def Y4.start (h:Vq x k i r) (h0:0<i):Y4 x (i-1) (val RB r.l) 0 65536:=by obtain⟨e,d,-,-⟩:=h;rw[Ez h0] at e d;have f:RB=65536:=dS;refine⟨?_,?_,dc,ai _⟩;rw[a5y];exact e;rw[<-f,a5z];exact d
def Y4.low {low high m} (h:Y4 x i R low high) (hm:m=(low+high)/2) (h2:1<high-low) (d:(m+RB*R)*(m+RB*R)*RB^(2*i)<=x):Y4 x i R m high/\high-m<high-low:=by have:=h.lt;exact⟨⟨d,h.hi,om,h.le⟩,om⟩
def Y4.high {low high m} (h:Y4 x i R low high) (hm:m=(low+high)/2) (h2:1<high-low) (d: ¬(m+RB*R)*(m+RB*R)*RB^(2*i)<=x):Y4 x i R low m/\m-low<high-low:=by have:=h.lt;have:=h.le;exact⟨⟨h.lo,a8Y d,om,om⟩,om⟩
def Y4.done {low high} (h:Y4 x i R low high) (h2:high-low<=1):(low+RB*R)*(low+RB*R)*RB^(2*i)<=x/\x<(low+1+RB*R)*(low+1+RB*R)*RB^(2*i)/\low<65536:=by have d:=h.lt;have e:high=low+1:=om;rw[<-e];exact⟨h.lo,h.hi,by have:=h.le;omega⟩
def Hi {l} (hx:x<65536) (f:Dl RB l):Dl RB (x::l):=λd e=>by rcases br.1 e with rfl|e;rw[dS];exact hx;exact f d e
def Vq.step {low o} (h:Vq x k i r) (h0:0<i) (hl:(low+RB*val RB r.l)*(low+RB*val RB r.l)*RB^(2*(i-1))<=x) (f:x<(low+1+RB*val RB r.l)*(low+1+RB*val RB r.l)*RB^(2*(i-1))) (d:low<65536) (ho:o.l=low::r.l):Vq x k (i-1) o:=by
 have e:val RB o.l=low+RB*val RB r.l:=by rw[ho,fV]
 refine⟨by rw[e];exact hl,?_,?_,?_⟩;rw[e,show low+RB*val RB r.l+1=low+1+RB*val RB r.l by omega];exact f;rw[ho];exact Hi d h.dl;rw[ho,aS];have:=h.len;omega
def Vq.last (h:Vq x k 0 r):xF x=val RB r.l:=by obtain⟨e,d,-,-⟩:=h;rw[Vn,Nat.pow_zero,gE] at e d;exact a2f e d
def xz n l:val RB (au n 0++l)=val RB l*RB^n:=by rw[lD,jS,bb,aN,eI]
end
section
variable {x cap i:Nat}
def zh {Z G:Prop} (h:Z->G) (z:Z):G:=h z
def K5 {a b} (e:a=b) ρ:(SV.c (.val (.bool a))).den ρ=(SV.c (.val (.bool b))).den ρ:=by subst e;rfl
def Zy:Dn:=Tm λX=> .c (.val (.bool (decide (X.z<0))))
def a45 {n:Nat} {z:Int} (h:n=(fK RB z.natAbs).length) (d:z<=0):decide ((0:Int)<(n:Int))=decide (z<0):=by
 by_cases h0:z=0;subst h0;have:n=0:=by rw[h];show(fK RB 0).length=0;rw[hQ];rfl
 subst this;rfl;have:n≠0:=λe=>by rw[e] at h;have:=(mF cT).1 h.symm;omega
 rw[decide_eq_true (by omega:z<0),decide_eq_true om]
def a26:dW prog 186 Zy:=Az ⟨func186,kr,kr⟩ (rS .nil wl 0 λ_=>false) (qV Aj (rS .nil wl 0 λ_=>false) bj bg 0) (λ_ _ _=>rfl) λX k b s e=>by
 refine zB ?_ ?_<;>intro j;refine⟨ff,trivial,⟨_,b,s,rfl,rfl,Fr.raw,(e.sz k),λm d=> ?_⟩⟩;rw[e.natAbs] at d;have g:X.z<=0:=by rcases e.sgn with⟨_,h⟩|⟨h,_⟩;exact h;rw[j] at h;cases h
 conv=>whnf
 exact λf=>K5 (a45 (congrArg ln d) g) f;have g: ¬X.z<0:=by rcases e.sgn with⟨h,_⟩|⟨_,h⟩;rw[j] at h;cases h;omega
 conv=>whnf
 exact λf=>K5 (decide_eq_false g).symm f
def OI.cons (x:Nat) (l:List Nat) (cap:Nat) (h:bZ false (1+ln l) cap):OI:=⟨x::l,[],false,cap,by rw[aS,fu];exact h,by rw[bk,aS,fu];exact h.1⟩
def OI.cons_sl {l d h h'} b ρ:(SV.c (.sli (false&&d) b 0 (1+ln l) cap h)).den ρ=((OI.cons x l cap h').sl b).den ρ:=by simp only[OI.sl,OI.cons,SV.den,C.den,C.cells,CO,aS,fu]
def EV {m l} (hs:bZ false (1+ln l) cap):bZ false (fT (m::l)) cap:=⟨aC (iI _) (by rw[aS,fu];exact hs.1),hs.2.1,λh=>by cases h⟩
def ET {n} (h:n<=1000000000):bZ false n n:=⟨ai _,om,λh=>by cases h⟩
def irk (h:i<=100000000):IR ((i:Int)-1):=ui
def a2Q {n:Nat} (h:n<=80000000):IntKind.i64.wrap (IntKind.i64.wrap ((IntKind.i64.wrap ((n:Int)+1)).tdiv 2)-1)=(((n+1)/2:Nat):Int)-1:=by rw[Ou h,cN ui]
def a5Z (h0:0<i) (h:i<=100000000):IntKind.i64.wrap (2*((i:Int)-1))=((2*(i-1):Nat):Int):=by rw[cN ui];omega
def LW {n l}:xN (tU n (iC 0)++jJ l) 0 (au n 0++l):=by rw[xY,<-jo];exact xN.mk' _
def Vq.le {k r} (h:Vq x k i r):i<=k:=by have:=h.len;omega
def Vq.rl {k r} (h:Vq x k i r):ln r.l<=k:=by have:=h.len;omega
def a5w:List (FuncId×Dn):=[(186,Zy)]
def Hs:dU a5w:= .cons a26 .nil
def a2R:List (FuncId×cP):=(92,Rd)::(89,Rb)::Z8
def O0:iL prog a2R:= .cons RK<| .cons Wv Aj
def UC {T} {o:OI} (ho:o.l=fK RB (T*T)) (h:(fK RB T).length<=100000001):ln o.l<=200000002:=by rw[ho];refine aC (iR cT (k:=(fK RB T).length+(fK RB T).length) ?_) om;have d:=jy cT T;rw[Nat.pow_add];exact Nat.mul_lt_mul'' d d
def Us:dW prog 163 RV:=Az ⟨func163,kr,kr⟩ (rS Hs wl 0 λi=>i==13) (qV O0 (rS Hs wl 0 λi=>i==13) bj bg 0) (λ_ _ _=>rfl) λX kX b s nX=>by
 have c4:8*s.size<=80000000:=by have:=nX.2;omega
 have eX:Bh b s.data.toList=X.z:=nX.1
 refine⟨c4,?_⟩
 refine zB ?_ ?_<;>intro hz
 have hz:X.z<0:=eX▸of_decide_eq_true hz
 conv=>whnf
 refine λρ=>pZ (YV _ _ (by unfold oT;rw[if_pos hz]) ρ) ?_
 show Value.bool false=Value.bool (decide (0<=X.z))
 rw[decide_eq_false om]
 have hz: ¬X.z<0:=eX▸of_decide_eq_false hz
 refine⟨ff,trivial,⟨_,b,s,rfl,rfl,Fr.raw,(nX.sz kX),λy k=> ?_⟩⟩
 rw[nX.natAbs] at k
 have c7:(fK RB X.z.natAbs).length<=50000000:=nX.len16 kX
 have a7:ln y.l<=50000000:=by rw[k];exact c7
 have a8:ln y.l<=1000000000:=aC a7 dc
 have a5:y.l=fK RB (val RB y.l):=by rw[k,dm cT]
 have hK:((ln y.l+1)/2)<=100000000:=om
 conv=>whnf
 refine fC (G:={g:Nat×OI×(Nat->Value)//Vq X.z.natAbs ((ln y.l+1)/2) g.1 g.2.1}) (λg=>.c (.val (g.1.2.2 0)):: .c (.val (g.1.2.2 1)):: .c (.ptr 0 0):: .c (.val (g.1.2.2 3))::(y.sl 1)::(g.1.2.1.sl 2):: .c (.int ((g.1.1:Nat)-1:Int) (irk (aC g.2.le hK)))::tn g.1.2.2 7 53 []) (λg=>[⟨61,false,[.wid 0 0 (by unfold Sm;decide)],0⟩,y.blk,g.1.2.1.blk]) (λg=>g.1.1) ?_ ?_
 exact zYh [1,2,1000+ 3] [2,4,5,6] [0,1,2] (λvs=>⟨(((ln y.l+1)/2),OI.nil,vs),Vq.start (by rw[<-k];omega)⟩) (pc (a2Q (aC a7 dc)))
 rintro⟨⟨i,r,vs⟩,Y⟩
 have Y:Vq X.z.natAbs ((ln y.l+1)/2) i r:=Y
 refine zB ?_ ?_<;>intro h0
 have h0:0<i:=a4I h0
 have a9:i<=100000000:=aC Y.le hK
 have d1:ln r.l<=100000000:=aC Y.rl hK
 have a2:(1+ln r.l)*1<=5000000000000:=om
 have I:=a5Z h0 a9
 have H:2*(i-1)<=1000000000:=om
 conv=>whnf
 refine GT (G:={g:Nat×Nat×(Nat->Value)//Y4 X.z.natAbs (i-1) (val RB r.l) g.1 g.2.1}) (X:={x:Nat//(x+RB*val RB r.l)*(x+RB*val RB r.l)*RB^(2*(i-1))<=X.z.natAbs/\X.z.natAbs<(x+1+RB*val RB r.l)*(x+1+RB*val RB r.l)*RB^(2*(i-1))/\x<65536}) (λg=>.c (.val (g.1.2.2 0)):: .c (.val (g.1.2.2 1)):: .c (.ptr 0 0):: .c (.val (g.1.2.2 3))::(y.sl 1)::(r.sl 2):: .c (.int ((i:Nat)-1:Int) (irk a9)):: .c (.int (g.1.1:Nat) (v5 (aC (bw (dh g.2.lt g.2.le)) dc))):: .c (.int (g.1.2.1:Nat) (v5 (aC g.2.le dc)))::tn g.1.2.2 9 51 []) (λg=>[⟨61,false,[.wid 0 0 (by unfold Sm;decide)],0⟩,y.blk,r.blk]) (λg=>g.1.2.1-g.1.1) 2 (λx j=>(j 0::j 1:: .c (.ptr 0 0)::j 3::(y.sl 1)::(r.sl 2):: .c (.int ((i:Nat)-1:Int) (irk a9)):: .c (.int (x.1:Nat) (v5 (aC (bw x.2.2.2) dc)))::j 8::j 9::j 10::j 11::j 12::j 13::j 14::j 15::j 16::j 17::j 18::j 19::j 20::j 21::j 22::j 23::j 24::j 25::j 26::j 27::j 28::j 29::j 30::j 31::j 32::j 33::j 34::j 35::j 36::j 37::j 38::j 39::j 40::j 41::j 42::j 43::j 44::j 45::j 46::j 47::j 48::j 49::j 50::j 51::j 52::j 53::j 54::j 55::j 56::j 57::j 58::j 59::[])) (λx=>[⟨61,false,[.wid 0 0 (by unfold Sm;decide)],0⟩,y.blk,r.blk]) ?_ ?_ ?_
 exact zY [0,1,2] [2,4,5,6,7,8] [0,1,2] λc2=>⟨(0,65536,c2),Y4.start Y h0⟩
 intro Qx c5
 rintro⟨⟨low,high,c9⟩,U⟩
 have U:Y4 X.z.natAbs (i-1) (val RB r.l) low high:=U
 refine zB ?_ ?_<;>intro O
 have O:=a0F U.lt U.le O
 obtain⟨m,hm⟩: ∃m,m=(low+high)/2:=⟨_,rfl⟩
 have d2:=U.lt
 have d0:=U.le
 have W:=(VL (low:=low) (high:=high) om om).trans (congrArg (λz:Nat=>(z:Int)) hm.symm)
 have B:m<65536:=om
 obtain⟨T,hT⟩: ∃T,T=m+RB*val RB r.l:=⟨_,rfl⟩
 have c0:val RB (m::r.l)=T:=by rw[fV,hT]
 have V:Dl RB (m::r.l):=Hi B Y.dl
 have a0:(fK RB T).length=fT (m::r.l):=by rw[<-c0,ww V]
 have Q:fT (m::r.l)<=200000000:=aC (iI _) (by rw[aS];omega)
 have a6:(fK RB T).length<=100000001:=by rw[a0];exact aC (iI _) (by rw[aS];omega)
 refine iT ?_
 conv=>whnf
 conv=>
  arg 2
  tactic'=>exact(xN.ow r).all rfl
 refine⟨uT _,⟨rfl,rfl,rfl,fr,a2⟩,λD L=> ?_⟩
 have hs:=EW L
 have R: ∀{z:Int} {hz:IR z} (_:z=m),xN ([C.int z hz]++jJ r.l) 0 (fK RB T):=λe=>by rw[<-c0];exact pB (qK B e) V
 conv=>whnf
 refine zh (Z:= ?Z1_0/\ ?Z1_1) (λA=> ?cur1) ?nxt1
 case cur1=>
  refine⟨⟨rfl,2*(i-1),2*(i-1),I,I,ai _,H,λh2=> ?_⟩,?_,trivial⟩
  obtain rfl:h2=ET H:=rfl
  conv=>whnf
  exact A.1
  refine⟨⟨cL ff (dP _),trivial⟩,⟨_,_,_,_,_,_,_,m::r.l,rfl,rfl,fu _ _,qK B W,V,λh3=> ?_⟩⟩
  obtain rfl:h3=EV (m:=m) hs:=rfl
  conv=>whnf
  exact A.2
 case nxt1=>
  refine zh (Z:= ?Z2_0/\ ?Z2_1) (λA=> ?cur2) ?nxt2
  case cur2=>
   refine⟨⟨⟨⟨cL ff (dP _),trivial⟩,⟨_,_,_,_,_,_,_,m::r.l,rfl,rfl,fu _ _,qK B W,V,λh3=> ?_⟩⟩,trivial⟩,?_⟩
   obtain rfl:h3=EV (m:=m) hs:=rfl
   conv=>whnf
   exact A.1
   refine⟨⟨rfl,2*(i-1),2*(i-1),I,I,ai _,H,λh2=> ?_⟩,?_,trivial⟩
   obtain rfl:h2=ET H:=rfl
   conv=>whnf
   exact A.1
   refine⟨⟨cL ff (dP _),trivial⟩,⟨_,_,_,_,_,_,_,m::r.l,rfl,rfl,fu _ _,qK B W,V,λh3=> ?_⟩⟩
   obtain rfl:h3=EV (m:=m) hs:=rfl
   conv=>whnf
   exact A.2
  case nxt2=>
   refine zh (Z:= ?Z3_0) (λA=> ?cur3) ?nxt3
   case cur3=>
    refine⟨⟨⟨⟨cL ff (dP _),trivial⟩,⟨_,_,_,_,_,_,_,m::r.l,rfl,rfl,fu _ _,qK B W,V,λh3=> ?_⟩⟩,trivial⟩,?_⟩
    obtain rfl:h3=EV (m:=m) hs:=rfl
    conv=>whnf
    exact A
    refine⟨⟨rfl,2*(i-1),2*(i-1),I,I,ai _,H,λh2=> ?_⟩,?_,trivial⟩
    obtain rfl:h2=ET H:=rfl
    conv=>whnf
    exact A
    clear A
    refine⟨⟨cL ff (dP _),cL ff (dP _),trivial⟩,⟨_,_,_,_,_,_,_,fK RB T,_,_,_,_,_,_,_,fK RB T,rfl,rfl,a0,a0,R W,R W,eT cT T,eT cT T,Q,Q,trivial,λo _ ho=> ?_⟩⟩
    rw[dm cT] at ho
    have c6:=UC ho a6
    have b7:val RB o.l=(m+RB*val RB r.l)*(m+RB*val RB r.l):=by rw[ho,dm cT,hT]
    have b6:=J7 ho
    refine⟨⟨rfl,2*(i-1),2*(i-1),I,I,ai _,H,λh2=> ?_⟩,trivial⟩
    obtain rfl:h2=ET H:=rfl
    refine iT ?_
    conv=>whnf
    conv=>
     arg 2
     tactic'=>exact(xN.ow o).all rfl
    refine⟨uT _,⟨rfl,rfl,by rw[gE];exact oX rfl _,λ_=>by rw[oX rfl,kz,gE];rfl,om⟩,λb9 M=> ?_⟩
    have c8:=EW M
    obtain⟨p,hLT⟩: ∃p,p=au (2*(i-1)) 0++o.l:=⟨_,rfl⟩
    have J:ln p=2*(i-1)+ln o.l:=by rw[hLT,aa,bb]
    have f:Dl RB p:=by rw[hLT];exact(Dl.replicate fv _).append b6
    have E:val RB p=(m+RB*val RB r.l)*(m+RB*val RB r.l)*RB^(2*(i-1)):=by rw[hLT,xz,b7]
    have d:xN (tU (2*(i-1)) (iC 0)++jJ o.l) 0 p:=by rw[hLT];exact LW
    refine⟨⟨cL (v6 _) (dP _),trivial⟩,⟨_,_,_,_,_,_,_,p,rfl,rfl,J,d,f,λh4=> ?_⟩⟩
    have u:(fK RB (val RB p)).length=fT p:=ww f
    have a1:fT p<=1000000000:=aC (iI _) (by rw[J];omega)
    refine⟨⟨fK RB (val RB p),y.l,⟨pB d f,u,by rw[dm cT],a1⟩,xN.ow y,rfl,a5,a8⟩,?_⟩
    refine zB ?_ ?_<;>intro F
    have q:(m+RB*val RB r.l)*(m+RB*val RB r.l)*RB^(2*(i-1))<=X.z.natAbs:=of_decide_eq_true (DL (m:=_) (n:=X.z.natAbs) ((lU (pB d f) u).trans E) (lU (by rw[<-k];exact xN.ow y) (congrArg ln k).symm) F)
    obtain⟨N,b8⟩:=U.low hm O q
    exact zRh [0,1,2] [2,4,5,6,7,8] [0,1,2] (λP=>⟨(m,high,P),N⟩) (pc W)
    have q: ¬(m+RB*val RB r.l)*(m+RB*val RB r.l)*RB^(2*(i-1))<=X.z.natAbs:=of_decide_eq_false (DL (m:=_) (n:=X.z.natAbs) ((lU (pB d f) u).trans E) (lU (by rw[<-k];exact xN.ow y) (congrArg ln k).symm) F)
    obtain⟨N,b8⟩:=U.high hm O q
    exact zRh [0,1,2] [2,4,5,6,7,8] [0,1,2] (λP=>⟨(low,m,P),N⟩) (pc W)
   case nxt3=>
    refine⟨⟨⟨cL ff (dP _),cL ff (dP _),trivial⟩,⟨_,_,_,_,_,_,_,fK RB T,_,_,_,_,_,_,_,fK RB T,rfl,rfl,a0,a0,R W,R W,eT cT T,eT cT T,Q,Q,trivial,λo _ ho=> ?_⟩⟩,trivial⟩
    rw[dm cT] at ho
    have c6:=UC ho a6
    have b7:val RB o.l=(m+RB*val RB r.l)*(m+RB*val RB r.l):=by rw[ho,dm cT,hT]
    have b6:=J7 ho
    refine iT ?_
    conv=>whnf
    conv=>
     arg 2
     tactic'=>exact(xN.ow o).all rfl
    refine⟨uT _,⟨rfl,rfl,by rw[gE];exact oX rfl _,λ_=>by rw[oX rfl,kz,gE];rfl,om⟩,λb9 M=> ?_⟩
    have c8:=EW M
    obtain⟨p,hLT⟩: ∃p,p=au (2*(i-1)) 0++o.l:=⟨_,rfl⟩
    have J:ln p=2*(i-1)+ln o.l:=by rw[hLT,aa,bb]
    have f:Dl RB p:=by rw[hLT];exact(Dl.replicate fv _).append b6
    have E:val RB p=(m+RB*val RB r.l)*(m+RB*val RB r.l)*RB^(2*(i-1)):=by rw[hLT,xz,b7]
    have d:xN (tU (2*(i-1)) (iC 0)++jJ o.l) 0 p:=by rw[hLT];exact LW
    refine⟨⟨cL (v6 _) (dP _),trivial⟩,⟨_,_,_,_,_,_,_,p,rfl,rfl,J,d,f,λh4=> ?_⟩⟩
    have u:(fK RB (val RB p)).length=fT p:=ww f
    have a1:fT p<=1000000000:=aC (iI _) (by rw[J];omega)
    refine⟨⟨fK RB (val RB p),y.l,⟨pB d f,u,by rw[dm cT],a1⟩,xN.ow y,rfl,a5,a8⟩,?_⟩
    refine zB ?_ ?_<;>intro F
    have q:(m+RB*val RB r.l)*(m+RB*val RB r.l)*RB^(2*(i-1))<=X.z.natAbs:=of_decide_eq_true (DL (m:=_) (n:=X.z.natAbs) ((lU (pB d f) u).trans E) (lU (by rw[<-k];exact xN.ow y) (congrArg ln k).symm) F)
    obtain⟨N,b8⟩:=U.low hm O q
    exact zRh [0,1,2] [2,4,5,6,7,8] [0,1,2] (λP=>⟨(m,high,P),N⟩) (pc W)
    have q: ¬(m+RB*val RB r.l)*(m+RB*val RB r.l)*RB^(2*(i-1))<=X.z.natAbs:=of_decide_eq_false (DL (m:=_) (n:=X.z.natAbs) ((lU (pB d f) u).trans E) (lU (by rw[<-k];exact xN.ow y) (congrArg ln k).symm) F)
    obtain⟨N,b8⟩:=U.high hm O q
    exact zRh [0,1,2] [2,4,5,6,7,8] [0,1,2] (λP=>⟨(low,m,P),N⟩) (pc W)
 have c1:=VM U.lt U.le O
 obtain⟨b3,b2,a4⟩:=U.done c1
 conv=>whnf
 exact c5 ⟨low,b3,b2,a4⟩ (λi=>ij uv (_::_::uv::_::uv::uv::uv::uv::_::_::_::_::_::_::_::_::_::_::_::_::_::_::_::_::_::_::_::_::_::_::_::_::_::_::_::_::_::_::_::_::_::_::_::_::_::_::_::_::_::_::_::_::_::_::_::_::_::_::_::_::[]) i)
 rintro⟨low,b3,b2,a4⟩ jj
 refine iT ?_
 conv=>whnf
 conv=>
  arg 2
  tactic'=>exact(xN.ow r).all rfl
 refine⟨uT _,⟨rfl,rfl,rfl,fr,a2⟩,λD L=> ?_⟩
 have hs:=EW L
 conv=>whnf
 obtain⟨o,ho,hosl,hobk⟩: ∃o:OI,o.l=low::r.l/\o=OI.cons low r.l D hs/\True:=⟨_,rfl,rfl,trivial⟩
 have c3:=Y.step (o:=o) h0 b3 b2 a4 ho
 subst hosl
 exact qg [0,1,4] [2,4,5,6] [0,1,2] (λb5=>⟨(i-1,OI.cons low r.l D hs,b5),c3⟩) (λb5=>zL) (λb5=>⟨ff,dP _,cL ff (dP _),(by exact⟨fr,fr,fr,fr,fr,λρ=>OI.cons_sl (h':=hs) 2 ρ,iY (Lq h0 (v5 (aC Y.le (aC hK dc)))) _ _,fr,fr,fr,fr,fr,fr,fr,fr,fr,fr,fr,fr,fr,fr,fr,fr,fr,fr,fr,fr,fr,fr,fr,fr,fr,fr,fr,fr,fr,fr,fr,fr,fr,fr,fr,fr,fr,fr,fr,fr,fr,fr,fr,fr,fr,fr,fr,fr,fr,fr,fr,fr,fr,trivial⟩),(by exact⟨⟨rfl,rfl,rfl,fr⟩,⟨rfl,rfl,rfl,fr⟩,⟨rfl,rfl,(by show(D-(1+ln r.l))*1=D-((low::r.l)++[]).length;rw[bk];exact V7),λρ=>(by show af ρ _=af ρ (jJ ((low::r.l)++[]));rw[bk];exact IT a4 rfl ρ)⟩,trivial⟩)⟩)
 have h0:i=0:=a4J h0
 subst h0
 have hq:=Y.last
 refine⟨⟨r.l,xN.ow r,rfl,Y.dl,aC Y.rl (aC hK dc)⟩,?_⟩
 conv=>whnf
 refine λρ=>pZ ?_ ?_
 rw[Xo r Y.dl,<-hq]
 refine a3j _ ?_ (λ_=>⟨λh=>(by cases h),λh=> ?_⟩) ρ
 unfold oT;rw[if_neg hz];rfl
 exact absurd h (by unfold oT;rw[if_neg hz];omega)
 show Value.bool true=Value.bool (decide (0<=X.z))
 rw[decide_eq_true om]
end
section
variable {k:Nat} {z:Int}
def Jf:Dn
 |[.c (.int a ha),.c (.int b hb),.c (.int c hc),.c (.int d hd)]=>
  some (none,.agg [.wid 257 (a*b-c*d) (aH (Sm.mul (cG ha) (cG hb)) (Sm.mul (cG hc) (cG hd)))])
 |_=>none
def Yu:dW prog 187 Jf:=dC (un:=20) (n:=0) ⟨func187,kr,kr⟩ mN bg λf p v e=>by
 unfold Jf at e;split at e;rename_i a g b h c i d e;cases e;refine⟨[.c (.int a g),.c (.int b h),.c (.int c i),.c (.int d e)],fr,ff,ff,λ_=> ?_⟩;conv=>whnf
 exact λ_=>rfl;cases e
def K2:List (FuncId×Dn):=(187,Jf)::De
def yu:dU K2:= .cons Yu<|mN
def a1x:Dn
 |[.agg [.int ux hux,.int uy huy,.int uz huz],.agg [.int vx hvx,.int vy hvy,.int vz hvz],.agg [.int wx hwx,.int wy hwy,.int wz hwz]]=>
  some (none,.agg [.wid 965 (ux*(vy*wz-vz*wy)+uy*(vz*wx-vx*wz)+uz*(vx*wy-vy*wx)) (cp (cp (Sm.mul (cG hux) (aH (Sm.mul (cG hvy) (cG hwz)) (Sm.mul (cG hvz) (cG hwy)))) (Sm.mul (cG huy) (aH (Sm.mul (cG hvz) (cG hwx)) (Sm.mul (cG hvx) (cG hwz))))) (Sm.mul (cG huz) (aH (Sm.mul (cG hvx) (cG hwy)) (Sm.mul (cG hvy) (cG hwx)))))])
 |_=>none
def a5M:dW prog 164 a1x:=dC (un:=20) (n:=0) ⟨func164,kr,kr⟩ yu bg λr p v d=>by
 unfold a1x at d;split at d;rename_i s q E i F o y h x e D f B j A g u m;cases d;refine⟨[.agg [.int s q,.int E i,.int F o],.agg [.int y h,.int x e,.int D f],.agg [.int B j,.int A g,.int u m]],fr,ff,ff,λ_=> ?_⟩;conv=>whnf
 exact λ_=>rfl;cases d
def K3:List (FuncId×Dn):=(164,a1x)::K2
def Iv:dU K3:= .cons a5M<|yu
def Qk:List (FuncId×Dn):=(163,RV)::(132,RS)::K3
def vD:dU Qk:= .cons Us<| .cons MR<|Iv
def a4b (un:Nat):ic:={vA un Qk with O:=lR qo}
def lM un:iU prog (a4b un):=⟨(cm vD un).T,(cm vD un).D,gy eD,(cm vD un).R,λ_ _ _ _ h=>(show False from h).elim⟩
def Vh (k:Nat) (z:Int):Prop:=z.natAbs<=k*2^980
def Vh.sm (h:Vh k z) (hk:k<=100000):Sm 1000 z:=by have d:=S3 (n:=980) (m:=1000) (aC hk dc) dc;unfold Vh at h;unfold Sm;exact em h d
def Vh.zero:Vh 0 0:=by unfold Vh;show 0<=_;exact ah _
def VH {P y} (h:z.natAbs<=k*P) (h2:y.natAbs<P):(z+y).natAbs<=(k+1)*P:=by rw[my];omega
def Vh.step {y j} (h:Vh k z) (hy:Sm j y) (hj:j<=980):Vh (k+1) (z+y):=by have d:=hy.mono hj;unfold Sm at d;unfold Vh at*;exact VH h d
def a3Y:cP:=λd e K=> ∃f A cA hA0 tA,d=[.c (.sli f 0 0 (ln A) cA hA0)]/\e=[⟨.t tA,true,bG bU A,0⟩]/\ln A<=100000/\ ∀z hz,K (.agg [.wid 1000 z hz]) []
def a34:jv prog 134 a3Y:=cV (lM 0) bj (ck (lM 0) bj bg 0) ⟨func134,kr,kr⟩ λo r K m=>by
 obtain⟨u,A,D,e,B,rfl,rfl,d,m⟩:=m;refine⟨zD,?_⟩;conv=>whnf
 refine zK [0,1,2] [0,2,3,4] [0] (G:={q:Nat×Int//q.1<=ln A/\Vh q.1 q.2}) (λg=>[(4,.c (.int (g.1.1:Nat) (aR e g.2.1)))]) (λg=>[(2,(⟨.t 61,false,[.wid 1000 g.1.2 (Vh.sm g.2.2 (aC g.2.1 d))],0⟩:aY))]) (λg=>ln A-g.1.1) ⟨(0,0),ah _,Vh.zero⟩ trivial ?_;rintro ⟨⟨k,z⟩,f,h⟩ vs2;have f:k<=ln A:=f;have h:Vh k z:=h;dsimp only;refine zB ?_ ?_<;>intro j;have i:k<ln A:=dL j;refine zG6 ?_;exact dD [0,1,2] ⟨(k+1,z+(A[k].a.x*(A[k].b.y*A[k].c.z-A[k].b.z*A[k].c.y)+A[k].a.y*(A[k].b.z*A[k].c.x-A[k].b.x*A[k].c.z)+A[k].a.z*(A[k].b.x*A[k].c.y-A[k].b.y*A[k].c.x))),i,h.step ((cp (cp (Sm.mul (cG A[k].a.hx) (aH (Sm.mul (cG A[k].b.hy) (cG A[k].c.hz)) (Sm.mul (cG A[k].b.hz) (cG A[k].c.hy)))) (Sm.mul (cG A[k].a.hy) (aH (Sm.mul (cG A[k].b.hz) (cG A[k].c.hx)) (Sm.mul (cG A[k].b.hx) (cG A[k].c.hz))))) (Sm.mul (cG A[k].a.hz) (aH (Sm.mul (cG A[k].b.hx) (cG A[k].c.hy)) (Sm.mul (cG A[k].b.hy) (cG A[k].c.hx)))))) dc⟩;exact zO [0] [0] (v3:=.agg [.wid 1000 z (h.sm (aC f d))]) (m _ _)
def voC:List (FuncId×cP):=[(134,a3Y)]
def a3i:iL prog voC:= .cons a34 .nil
def QU:cP:=λd e K=> ∃f A cA hA0 nB B cB hB0 tA tB,d=[.c (.sli f 0 0 (ln A) cA hA0),.c (.sli nB 1 0 (ln B) cB hB0)]/\e=[⟨.t tA,true,bG bU A,0⟩,⟨.t tB,true,bG bU B,0⟩]/\(ln A<=100000/\ln B<=100000)/\ ∀z hz,K (.agg [.wid 2001 z hz]) []
def Wc:jv prog 109 QU:=cV (lM 0) bj (dX a3i (ck (lM 0) bj bg 0)) ⟨func109,kr,kr⟩ λp r K j=>by obtain⟨s,A,y,o,x,B,cB,m,E,D,rfl,rfl,⟨h,i⟩,j⟩:=j;have g:cC (bG bU A):=ab bU A;have d:cC (bG bU B):=ab bU B;refine⟨zD,?_⟩;exact⟨⟨g,trivial⟩,s,A,y,o,_,rfl,rfl,h,λq f=>⟨⟨d,trivial⟩,x,B,cB,m,_,rfl,rfl,i,λu e=> zO [0,1] [0,1] (v3:=.agg [.wid 2001 (q-u) (aH f e)]) (j _ _)⟩⟩
def Pp (M:Int) (p:PT):Prop:=(0<=p.x/\p.x<=M)/\(0<=p.y/\p.y<=M)/\(0<=p.z/\p.z<=M)
def Lc:cP:=λe f K=> ∃p q:PT,e=[.agg (pC p),.agg (pC q)]/\f=[]/\ ∀d hd b,(Pp 327680 p->Pp 327680 q->0<=d/\d<=1048576)->K (.tup [.c (.int d hd),.c (.val (.bool b))]) []
def Kt {a b:Int} (h0:0<=a/\a<=327680) (h1:0<=b/\b<=327680):(a-b)*(a-b)<=327680*327680:=by have h:(a-b).natAbs<=327680:=om;have e:(a-b)*(a-b)=(((a-b).natAbs*(a-b).natAbs:Nat):Int):=Int.natAbs_mul_self.symm;rw[e];exact Int.ofNat_le.2 (gd h h)
def LB {p q:PT} (hp:Pp 327680 p) (d:Pp 327680 q):(V3.sub ⟨q.x,q.y,q.z⟩ ⟨p.x,p.y,p.z⟩).dot (V3.sub ⟨q.x,q.y,q.z⟩ ⟨p.x,p.y,p.z⟩)<=3*(327680*327680):=by have a:=Kt d.1 hp.1;have b:=Kt d.2.1 hp.2.1;have c:=Kt d.2.2 hp.2.2;show(q.x-p.x)*(q.x-p.x)+(q.y-p.y)*(q.y-p.y)+(q.z-p.z)*(q.z-p.z)<=_;omega
def MF (h:z<=3*(327680*327680)):0<=oT z/\oT z<1048576:=by
 unfold oT;split;decide;rename_i g;refine⟨bC _,?_⟩;have e:=(uV z.natAbs).1;have:xF z.natAbs<1048576:=by refine a8Y λd=> ?_;have f:=gd d d;omega
 omega
def SO (h:0<=z/\z<=1048576):0<=uS z/\uS z<=1048576:=by unfold uS;split;exact h;decide
def Ry:jv prog 131 Lc:=cV (lM 0) bj (ck (lM 0) bj bg 0) ⟨func131,kr,kr⟩ λg h K d=>by obtain⟨p,q,rfl,rfl,d⟩:=d;refine⟨zD,?_⟩;refine⟨aj rfl,?_⟩;refine zB ?_ ?_<;>intro i;exact⟨aj rfl,zO [] [] (v3:=.tup [.c (.int (uS (oT ((V3.sub ⟨q.x,q.y,q.z⟩ ⟨p.x,p.y,p.z⟩).dot (V3.sub ⟨q.x,q.y,q.z⟩ ⟨p.x,p.y,p.z⟩))+1)) (xX _)),.c (.val (.bool (decide (IR (oT ((V3.sub ⟨q.x,q.y,q.z⟩ ⟨p.x,p.y,p.z⟩).dot (V3.sub ⟨q.x,q.y,q.z⟩ ⟨p.x,p.y,p.z⟩))+1)))))]) (d _ _ _ (λf e=>SO (by have:=MF (LB f e);omega)))⟩;exact⟨aj rfl,zO [] [] (v3:=.tup [.c (.int (uS (oT ((V3.sub ⟨q.x,q.y,q.z⟩ ⟨p.x,p.y,p.z⟩).dot (V3.sub ⟨q.x,q.y,q.z⟩ ⟨p.x,p.y,p.z⟩)))) (xX _)),.c (.val (.bool (decide (IR (oT ((V3.sub ⟨q.x,q.y,q.z⟩ ⟨p.x,p.y,p.z⟩).dot (V3.sub ⟨q.x,q.y,q.z⟩ ⟨p.x,p.y,p.z⟩)))))))]) (d _ _ _ (λf e=>SO (by have:=MF (LB f e);omega)))⟩
end
def a61:List (FuncId×cP):=[(125,a0S),(126,xQ),(127,Lg),(128,Zk),(129,Lh),(130,FT),(131,Lc)]
def VU:iL prog a61:= .cons Rv<| .cons yI<| .cons RD<| .cons a1g<| .cons RE<| .cons NZ<| .cons Ry .nil
def z0Z:cP:=λg h K=> ∃i A cA hA0 nB B cB hB0 nM M cM hM0 tA tB tM,g=[.c (.sli i 0 0 (ln A) cA hA0),.c (.sli nB 1 0 (ln B) cB hB0),.c (.sli nM 2 0 (ln M) cM hM0)]/\h=[⟨.t tA,true,bG bU A,0⟩,⟨.t tB,true,bG bU B,0⟩,⟨.t tM,true,bG xZ M,0⟩]/\(ln A<=100000/\ln B<=100000)/\ ∀d hd e he,((∀m∈M,Pp 327680 m.f/\Pp 327680 m.t)->0<=d/\d<=1048576)->K (.tup [.c (.int d hd),.c (.int e he)]) []
def a2n {a b} (h:0<=a/\a<=1048576) (k:0<=b/\b<=1048576):0<=maxI a b/\maxI a b<=1048576:=by unfold maxI;split<;>assumption
def qB:(0:Int)<=0/\(0:Int)<=1048576:=dc
def NY:jv prog 106 z0Z:=cV (lM 0) bj (dX VU (ck (lM 0) bj bg 0)) ⟨func106,kr,kr⟩ λZ a2 K s=>by
 obtain⟨D,A,F,r,E,B,cB,p,Y,M,X,u,J,H,tM,rfl,rfl,⟨a1,R⟩,s⟩:=s;have j:cC (bG bU A):=ab bU A;have i:cC (bG bU B):=ab bU B;have L:cC (bG xZ M):=ab xZ M;refine⟨zD,?_⟩;refine⟨⟨j,trivial⟩,D,ln A,F,r,_,A,rfl,(congrArg (λy=>[(⟨.t J,true,y,0⟩:aY)]) (lH A).symm),rfl,om,λe1 Q=> ?_⟩;refine zB ?_ ?_<;>intro g1;exact zO [0,1,2] [0,1,2] (v3:=.tup [.c (.int 0 dc),.c (.int e1 Q)]) (s _ _ _ _ (λ_=>qB));refine⟨⟨i,trivial⟩,E,ln B,cB,p,_,B,rfl,(congrArg (λy=>[(⟨.t H,true,y,0⟩:aY)]) (lH B).symm),rfl,om,λe2 O=> ?_⟩;refine zB ?_ ?_<;>intro g2;exact zO [0,1,2] [0,1,2] (v3:=.tup [.c (.int 0 dc),.c (.int e2 O)]) (s _ _ _ _ (λ_=>qB));refine⟨⟨j,trivial⟩,D,ln A,F,r,_,A,rfl,(congrArg (λy=>[(⟨.t J,true,y,0⟩:aY)]) (lH A).symm),rfl,om,λe la=>⟨⟨i,trivial⟩,E,ln B,cB,p,_,B,rfl,(congrArg (λy=>[(⟨.t H,true,y,0⟩:aY)]) (lH B).symm),rfl,om,λP lb=> ?_⟩⟩;refine zB ?_ ?_<;>intro g3
 iterate 2
  try
   have I:ln e.l=ln P.l:=by have:=of_decide_eq_true (show decide ((ln e.l:Int)=(ln P.l:Int))=true by simpa using g3);omega
   conv=>whnf
   refine zK [0,1,2,3,4] [0,1,2,9,10,11] [0,1,2,3,4] (G:={k:Nat//k<=ln e.l}) (λg=>[(11,.c (.int (g.1:Nat) (aR e.ok g.2)))]) (λ_=>[]) (λg=>ln e.l-g.1) ⟨0,ah _⟩ trivial ?_
   rintro ⟨k,z⟩ vs2
   have z:k<=ln e.l:=z
   dsimp only
   refine zB ?_ ?_<;>intro W
   have o:k<ln e.l:=dL W
   have a0:k<ln P.l:=by rw[<-I];exact o
   have T:IR (k:Int):=aR e.ok z
   refine wM ?_
   refine zB ?_ ?_<;>intro g4
  exact zO [0,1,2] [0,1,2] (v3:=.tup [.c (.int 0 dc),.c (.int 30 dc)]) (s _ _ _ _ (λ_=>qB))
 exact dD [0,1,2,3,4] ⟨k+1,o⟩;refine⟨⟨j,i,e.new.1,trivial⟩,D,A,F,r,E,B,cB,p,e.nl,e.l,e.cap,e.ok,_,_,_,rfl,(congrArg (λy=>[(⟨.t J,true,bG bU A,0⟩:aY),(⟨.t H,true,bG bU B,0⟩:aY),(⟨.t 186,true,y,0⟩:aY)]) (xT e.l)),λb1=>⟨⟨j,i,e.new.1,trivial⟩,D,A,F,r,E,B,cB,p,e.nl,e.l,e.cap,e.ok,_,_,_,rfl,(congrArg (λy=>[(⟨.t J,true,bG bU A,0⟩:aY),(⟨.t H,true,bG bU B,0⟩:aY),(⟨.t 186,true,y,0⟩:aY)]) (xT e.l)),λb2=> ?_⟩⟩;refine zB ?_ ?_<;>intro g5
 iterate 2
  try refine zB ?_ ?_<;>intro g6
  exact zO [0,1,2] [0,1,2] (v3:=.tup [.c (.int 0 dc),.c (.int 30 dc)]) (s _ _ _ _ (λ_=>qB))
 refine⟨⟨j,i,L,e.new.1,trivial⟩,D,A,F,r,E,B,cB,p,Y,M,X,u,e.nl,e.l,e.cap,e.ok,_,_,_,_,rfl,(congrArg (λy=>[(⟨.t J,true,bG bU A,0⟩:aY),(⟨.t H,true,bG bU B,0⟩:aY),(⟨.t tM,true,bG xZ M,0⟩:aY),(⟨.t 186,true,y,0⟩:aY)]) (xT e.l)),λb3=> ?_⟩;refine zB ?_ ?_<;>intro g7;exact zO [0,1,2] [0,1,2] (v3:=.tup [.c (.int 0 dc),.c (.int 31 dc)]) (s _ _ _ _ (λ_=>qB));refine⟨⟨j,i,L,trivial⟩,D,A,F,r,E,B,cB,p,Y,M,X,u,_,_,_,rfl,rfl,R,λb4=> ?_⟩;refine zB ?_ ?_<;>intro g8;exact zO [0,1,2] [0,1,2] (v3:=.tup [.c (.int 0 dc),.c (.int 32 dc)]) (s _ _ _ _ (λ_=>qB));conv=>whnf
 refine zK [0,1,2] [0,1,2,16,17] [0,1,2] (G:={q:Nat×ZV//q.1<=ln M/\((∀m∈M,Pp 327680 m.f/\Pp 327680 m.t)->0<=q.2.x/\q.2.x<=1048576)}) (λg=>[(16,.c (.int g.1.2.x g.1.2.hx)),(17,.c (.int (g.1.1:Nat) (aR u g.2.1)))]) (λ_=>[]) (λg=>ln M-g.1.1) ⟨(0,zv0),ah _,λ_=>qB⟩ trivial ?_;rintro ⟨⟨k,m⟩,z,N⟩ vs5;have z:k<=ln M:=z;have N:(∀m∈M,Pp 327680 m.f/\Pp 327680 m.t)->0<=m.x/\m.x<=1048576:=N;dsimp only;refine zB ?_ ?_<;>intro V;have o:k<ln M:=dL V;have T:IR (k:Int):=aR u z;refine wM ?_;refine⟨ff,ff,trivial,M[k].f,M[k].t,rfl,rfl,λd hd b9 U=> ?_⟩;refine zB ?_ ?_<;>intro g9;exact zO [0,1,2] [0,1,2] (v3:=.tup [.c (.int 0 dc),.c (.int 3 dc)]) (s _ _ _ _ (λ_=>qB));exact dD [0,1,2] ⟨(k+1,(⟨maxI m.x d,IR.maxI m.hx hd⟩:ZV)),o,(λh=>a2n (N h) (U (h _ (ak o)).1 (h _ (ak o)).2))⟩;exact zO [0,1,2] [0,1,2] (v3:=.tup [.c (.int m.x m.hx),.c (.int 0 dc)]) (s _ _ _ _ (N))
def Q8:cP:=λd e K=> ∃f A c1 h1 n2 B c2 h2 ta tb,d=[.c (.sli f 0 0 (ln A) c1 h1),.c (.sli n2 1 0 (ln B) c2 h2)]/\e=[⟨.t ta,true,bG bU A,0⟩,⟨.t tb,true,bG bU B,0⟩]/\ ∀b:Bool,K (.c (.val (.bool b))) []
def Wq:jv prog 123 Q8:=cV qG bj DZ ⟨func123,kr,kr⟩ λj p K d=>by
 obtain⟨u,A,E,i,y,B,D,s,F,x,rfl,rfl,d⟩:=d;have p1:cC (bG bU A):=ab bU A;have p2:cC (bG bU B):=ab bU B;refine⟨zD,?_⟩;refine zB ?_ ?_<;>intro e;exact zO [0,1] [0,1] (d false);have e:(!decide ((ln A:Int)=(ln B:Nat)))=false:=e;have r:ln A=ln B:=Y1.inj (bo6 e);conv=>whnf
 refine zK [0,1] [0,1,5] [0,1] (G:={k:Nat//k<=ln A}) (λg=>[(5,.c (.int (g.1:Nat) (aR i g.2)))]) (λ_=>[]) (λg=>ln A-g.1) ⟨0,ah _⟩ trivial ?_;rintro ⟨k,o⟩ vs2;dsimp only;refine zB ?_ ?_<;>intro h;have f:k<ln A:=dL h;have m:k<ln B:=om;have q:IR (k:Int):=aR i o;refine wM ?_;refine zB ?_ ?_<;>intro z;exact zO [0,1] [0,1] (d false);exact dD [0,1] ⟨k+1,f⟩;exact zO [0,1] [0,1] (d true)
section
variable {α:Type} {A:List TR}
def U9 (R:RW α) (fam:List mq) (x:LI α):Prop:= ∃d r o,bZ d (ln x.l) x.s.c/\x.s.a=jK d ⟨r,o,none⟩/\(bG R x.l=[]\/pg fam (r,o) (bG R x.l))
def U9.mono {R:RW α} {a b:List mq} (h:m3 a b) {x:LI α} (k:U9 R a x):U9 R b x:=by obtain⟨f,r,o,g,d,e⟩:=k;exact⟨f,r,o,g,d,e.imp id h.inF⟩
def OL.fz (o:OL α) (p:Nat×Nat):LI α:=⟨⟨jK o.nl ⟨p.1,p.2,Option.none⟩,ln o.l,o.cap⟩,o.l,rfl⟩
def OL.fz_im (o:OL α) {R:RW α} {fam:List mq} {p:Nat×Nat} (h:bG R o.l=[]\/pg fam p (bG R o.l)):U9 R fam (o.fz p):=⟨o.nl,p.1,p.2,o.ok,rfl,h⟩
structure RU where
 i:LI TR
 w:Int
 hw:IR w
 o:LI TR
 m:LI MV
def ruC (r:RU):List C:=[r.i.s.v,.int r.w r.hw,r.o.s.v,r.m.s.v]
def tW:RW RU:=⟨ruC,4,fr,λ_ _ _=>rfl,fr⟩
structure SmP (fam:List mq) (o:LI TR) (m:LI MV):Prop where
 io:U9 bU fam o
 im:U9 xZ fam m
 lo:ln o.l<=100000
 co: ∀t∈o.l,mm 327680 t
 mo: ∀x∈m.l,Pp 327680 x.f/\Pp 327680 x.t
 ml:ln m.l<=300000
def SmP.mono {a b} (h:m3 a b) {o m} (k:SmP a o m):SmP b o m:=⟨k.io.mono h,k.im.mono h,k.lo,k.co,k.mo,k.ml⟩
structure Vc (fam:List mq) (r:RU):Prop where
 i:U9 bU fam r.i
 s:SmP fam r.o r.m
def Vc.mono {a b} (h:m3 a b) {r} (k:Vc a r):Vc b r:=⟨k.i.mono h,k.s.mono h⟩
def Dq {S:PT->Prop} (h: ∀t∈A,S t.a/\S t.b/\S t.c) {p:PT} (hp:p∈cor A):S p:=by unfold cor at hp;obtain⟨t,d,hp⟩:=gU.1 hp;unfold pk at hp;simp only[br,cd,or_false] at hp;rcases hp with rfl|rfl|rfl;exact(h t d).1;exact(h t d).2.1;exact(h t d).2.2
def a1b {S:PT->Prop} (h: ∀p,p∈cor A->S p): ∀t∈A,S t.a/\S t.b/\S t.c:=λt d=>by have: ∀q∈pk t,S q:=λq e=>h q (by unfold cor;exact gU.2 ⟨t,d,e⟩);unfold pk at this;exact⟨this _ sp,this _ sp,this _ sp⟩
def a5E:List (FuncId×cP):=[(104,Rc)]
def Yh:vB prog a5E:= .cons Wx .nil
def a5G:List (FuncId×cP):=[(108,QX)]
def Yj:iL prog a5G:= .cons Wh .nil
def a5F:List (FuncId×cP):=[(73,vO),(123,Q8),(124,Zq),(106,z0Z),(109,QU),(107,Ra),(110,IL)]
def Yi:iL prog a5F:= .cons rL<| .cons Wq<| .cons a1m<| .cons NY<| .cons Wc<| .cons Wu<| .cons Lt .nil
def a4G:=a16 (SI (Xc a2J (LU a5E (SJ a5G (hnew a5F (inl y7 Mh 0))))) 2) 3
def Xb:ko prog a4G:=DY (uM (D0 Mt (lP Yh (zf Yj (dX Yi DZ)))) 2) 3
def Xk (E:ic) (F:FuncId->Option Func) (H:FuncId->List SV->List aY->(SV->List aY->Prop)->Prop) (f:FuncId) (args:List SV) (hp:List aY) (K:SV->List aY->Prop):Prop:=
 match F f with
 |some fn=>BH args λargs=>A5 E H fn args hp K
 |none=>H f args hp K
def LZ {P E} (m:iU P E) (hm:P.follows .mixedOrders=true) {F} (j: ∀f fn,F f=some fn->iM P f fn) {H} (k:ko P H):ko P (Xk E F H):=λf e p K h=>by unfold Xk at h;split at h;rename_i fn g;rw[qw] at h;exact⟨(j f fn g).callable,λN q i w o d=>sG m hm k (j f fn g) h N q i w o d⟩;exact k f e p K h
def Sk:ic:={y7 with O:=XR XV (XR XV (XR XV (lR qo)))}
def Sl:iU prog Sk:=⟨qG.T,qG.D,Eo Ex (Eo Ex (Eo Ex (gy eD))),qG.R,λ_ _ _ _ h=>(show False from h).elim⟩
noncomputable def a4x:FuncId->Option Func:=lk [(105, f105)]
def W2: ∀f fn,a4x f=some fn->iM prog f fn:=nV λx d=>by simp only[br,cd,or_false] at d;rcases d with rfl;exact⟨func105,kr,kr⟩
noncomputable def a19:=Xk Sk a4x a4G
def Xd:ko prog a19:=LZ Sl bj W2 Xb
def Nr (o:OL α) (m:List α) {n:Nat} (e:ln m=n) (d:Nat) (h2:bZ (o.nl&&decide (n=0)) (ln o.l+n) d) (b:Nat) (ρ:fF):Value.slice (jK (o.nl&&decide (n=0)) ⟨(ρ b).1,(ρ b).2+0,none⟩) (ln o.l+n) d=Value.slice (jK (o.push m e d h2).nl ⟨(ρ b).1,(ρ b).2+0,none⟩) (o.push m e d h2).l.length (o.push m e d h2).cap:=by simp only[OL.push,aa,e]
def Hy {R:TypeId} {Q:List (LI TR)} {f V:List mq} {X T U:OL ZV} {W:OL PI} {d:OL RU} {q:OL CU} {y:OL GU} {fam:List mq} {t:OL TR} {w:Int} {z:IR w} {K:SV->List aY->Prop} (hM: ∀r∈d.l,Vc fam r) (b2:ln d.l<=1000000) (a9:ln t.l<=100000) (Y: ∀u∈t.l,mm 327680 u) (hK: ∀(oM2:OL RU) (fam2:List mq) (s:LI TR) (m:LI MV),m3 fam fam2->(∀r∈oM2.l,Vc fam2 r)->ln oM2.l<=ln d.l+1->SmP fam2 s m->K (.tup [.c (.val (.slice s.s.a s.s.n s.s.c)),.c (.val (.slice m.s.a m.s.n m.s.c))]) [⟨.t R,true,bG iX Q,0⟩,⟨.x f,true,[],3⟩,⟨30,false,[.val (.slice none 0 0),.val (.slice none 0 0)],0⟩,⟨121,false,[oM2.ch 18],0⟩,⟨30,false,[q.ch 15,y.ch 16],0⟩,⟨.t 0,true,[],0⟩,⟨.t 0,true,[],0⟩,⟨.t 0,true,[],0⟩,⟨.x fam2,true,[],2⟩,X.blk bI 3,W.blk jp 22,⟨.x V,true,[],2⟩,T.blk bI 3,U.blk bI 3,⟨.t 0,true,[],0⟩,q.blk ju 55,y.blk ki 63,t.blk bU 58,oM2.blk tW 181]): a19 105 [.c (.ptr 3 0),t.sl 17,.c (.int w z)] [⟨.t R,true,bG iX Q,0⟩,⟨.x f,true,[],3⟩,⟨30,false,[.val (.slice none 0 0),.val (.slice none 0 0)],0⟩,⟨121,false,[d.ch 14],0⟩,⟨30,false,[q.ch 15,y.ch 16],0⟩,⟨.t 0,true,[],0⟩,⟨.t 0,true,[],0⟩,⟨.t 0,true,[],0⟩,⟨.x fam,true,[],2⟩,X.blk bI 3,W.blk jp 22,⟨.x V,true,[],2⟩,T.blk bI 3,U.blk bI 3,d.blk tW 181,q.blk ju 55,y.blk ki 63,t.blk bU 58] (λv hp=>a1q 18 K v hp):=by
 conv=>whnf
 refine .inr ⟨14,[3],?_⟩;refine iT ?_;conv=>whnf
 refine .inl ⟨⟨ab bU _,trivial⟩,t.nl,0,t.l,t.cap,t.ok,_,bG bU t.l,rfl,rfl,⟨ab bU _,mj.self bU t.l⟩,a9,λc b7 a5=> ?_⟩;refine iT ?_;conv=>whnf
 refine zK [0,1,2,3,4,5,6,7,8,9,10,11,12,13,14,15,16,17,18,19] [0,1,2,8] [0,9,10,12,13,15,16,17,18,19] (G:={k:Nat//k<=ln d.l}) (λg=>[(8,.c (.int (g.1:Nat) (aR d.ok g.2)))]) (λ_=>[]) (λg=>ln d.l-g.1) ⟨0,ah _⟩ trivial ?_;rintro ⟨k,hk⟩ vs2;dsimp only;refine zB ?_ ?_<;>intro a7;have B:k<ln d.l:=dL a7;have J:=hM _ (ak B);obtain⟨I,r9,o9,ok9,a8,a6⟩:=J.i;refine eS ?_;refine zB ?_ ?_<;>intro b9;refine eS ?_;left;conv=>whnf
 refine .inr ⟨0,I,r9,o9,d.l[k].i.l.length,d.l[k].i.s.c,ok9, 58,bG bU d.l[k].i.l,8,(by show Value.slice d.l[k].i.s.a d.l[k].i.s.n _=_;rw[a8,d.l[k].i.hn]),a6.imp id (λh=>⟨_,_,_,rfl,rfl,h⟩),?_⟩;conv=>whnf
 refine .inl ⟨⟨ab bU _,ab bU _,trivial⟩,I,d.l[k].i.l,d.l[k].i.s.c,ok9,c.nl,c.l,c.cap,c.ok,_,_,rfl,rfl,λsb=> ?_⟩;refine iT ?_;refine zB ?_ ?_<;>intro b8;refine wM ?_;refine .inr ⟨[0,1,2,3,4,5,6,7,8,9,10,11,12,13,14,15,16,17,18],[0],[0,9,10,12,13,15,16,17,18],λb5=>⟨ab iX _,ab bI _,ab jp _,ab bI _,ab bI _,ab ju _,ab ki _,ab bU _,ab tW _,[.tup [.c (.val (.slice d.l[k].o.s.a d.l[k].o.s.n d.l[k].o.s.c)),.c (.val (.slice d.l[k].m.s.a d.l[k].m.s.n d.l[k].m.s.c))]],[⟨.t R,true,bG iX Q,0⟩,⟨.x f,true,[],3⟩,⟨30,false,[.val (.slice none 0 0),.val (.slice none 0 0)],0⟩,⟨121,false,[d.ch 18],0⟩,⟨30,false,[q.ch 15,y.ch 16],0⟩,⟨.t 0,true,[],0⟩,⟨.t 0,true,[],0⟩,⟨.t 0,true,[],0⟩,⟨.x fam,true,[],2⟩,X.blk bI 3,W.blk jp 22,⟨.x V,true,[],2⟩,T.blk bI 3,U.blk bI 3,⟨.t 0,true,[],0⟩,q.blk ju 55,y.blk ki 63,t.blk bU 58,d.blk tW 181],⟨fr,trivial⟩,gz _,?_⟩⟩;conv=>whnf
 exact hK d fam d.l[k].o d.l[k].m (m3.refl _) hM (a6e _) J.s;exact dD [0,1,2,3,4,5,6,7,8,9,10,11,12,13,14,15,16,17,18,19] ⟨k+1,B⟩;exact dD [0,1,2,3,4,5,6,7,8,9,10,11,12,13,14,15,16,17,18,19] ⟨k+1,B⟩;refine iT ?_;conv=>whnf
 refine .inl ⟨⟨ab bU _,trivial⟩,c.nl,c.l,c.cap,c.ok,_,w,z,rfl,rfl,om,λs m b6 a4 c1 M=> ?_⟩;refine iT ?_;conv=>whnf
 refine .inr ⟨8,19,[22],[],⟨ab bU _,λh=>OL.nil_cs h⟩,λp1 f1 a1 a0=> ?_⟩;conv=>whnf
 refine .inr ⟨8,20,[22],[9],⟨ab bU _,λh=>OL.nil_cs h⟩,λp2 f2 F Z=> ?_⟩;conv=>whnf
 refine .inr ⟨8,21,[22],[10],⟨ab xZ _,λh=>OL.nil_cs h⟩,λj H D a2=> ?_⟩;conv=>whnf
 refine .inl ⟨rfl,d.app tW 181 (m:=1) (by show(ln d.l+1)*4<=5000000000000;omega),λP N=> ?_⟩;conv=>whnf
 have O:m3 fam H:=a1.trans (F.trans D);have E: ∀t∈c.l,mm 327680 t:=λu hu=>by obtain⟨v,hv,e⟩:=a5 u hu;rw[<-e];exact oU (S:=xP 327680) (Y v hv)
 have L:SmP H (s.fz p2) (m.fz j):=⟨s.fz_im (Z.imp id D.inF),m.fz_im a2,(by show (ln s.l)<=100000;omega),a1b λp hp=>Dq E (a4 p hp),λx hx=>⟨Dq E (M x hx).1,Dq E (M x hx).2⟩,c1⟩;refine .inr ⟨[0,1,2,3,4,5,6,7,8,9,10,11,12,13,14,15,16,17,23],[0],[0,9,10,12,13,15,16,17,18],λb3=>⟨ab iX _,ab bI _,ab jp _,ab bI _,ab bI _,ab ju _,ab ki _,ab bU _,cJ (ab tW _) ff,[.tup [.c (.val (.slice (s.fz p2).s.a (s.fz p2).s.n (s.fz p2).s.c)),.c (.val (.slice (m.fz j).s.a (m.fz j).s.n (m.fz j).s.c))]],[⟨.t R,true,bG iX Q,0⟩,⟨.x f,true,[],3⟩,⟨30,false,[.val (.slice none 0 0),.val (.slice none 0 0)],0⟩,⟨121,false,[(d.push [(⟨c.fz p1,w,z,s.fz p2,m.fz j⟩:RU)] rfl P N).ch 18],0⟩,⟨30,false,[q.ch 15,y.ch 16],0⟩,⟨.t 0,true,[],0⟩,⟨.t 0,true,[],0⟩,⟨.t 0,true,[],0⟩,⟨.x H,true,[],2⟩,X.blk bI 3,W.blk jp 22,⟨.x V,true,[],2⟩,T.blk bI 3,U.blk bI 3,⟨.t 0,true,[],0⟩,q.blk ju 55,y.blk ki 63,t.blk bU 58,(d.push [(⟨c.fz p1,w,z,s.fz p2,m.fz j⟩:RU)] rfl P N).blk tW 181],⟨fr,trivial⟩,(by(iterate 3 refine⟨mL _,?_⟩);refine⟨⟨rfl,rfl,rfl,λρ=>(by show af ρ [_]=af ρ [_];exact congrArg (λv=>[v]) (Nr d [(⟨c.fz p1,w,z,s.fz p2,m.fz j⟩:RU)] rfl P N 18 ρ))⟩,?_⟩;(iterate 14 refine⟨mL _,?_⟩);refine⟨d.push_blk tW 181 (n:=1) [(⟨c.fz p1,w,z,s.fz p2,m.fz j⟩:RU)] rfl P N fr,?_⟩;exact trivial),?_⟩⟩;conv=>whnf
 refine hK (d.push [(⟨c.fz p1,w,z,s.fz p2,m.fz j⟩:RU)] rfl P N) H (s.fz p2) (m.fz j) O (λr hr=>dH (p:=Vc H) (λr hr=>(hM r hr).mono O) ⟨c.fz_im (a0.imp id (F.trans D).inF),L⟩ hr) (by show(d.l++[_]).length<=_;rw[aa];exact ai _) L
end
section
variable {CL:List CU} {k:Nat} {α:Type}
def Ap (CL:List CU) (z v:ZV):List CU:=match CL[z.x.toNat]?with|some c=>CL.set z.x.toNat {c with used:=v.x,hu:=v.hx}|none=>CL
def np (CL:List CU) (l:List ZV) (v:ZV):List CU:=l.foldl (λCL z=>Ap CL z v) CL
def TY {z v} {q:Nat} (e:z.x=(q:Int)) (hq:q<ln CL):Ap CL z v=CL.set q {CL[q] with used:=v.x,hu:=v.hx}:=by unfold Ap;rw[e,bW,ae hq]
def Aq CL z v:(Ap CL z v).length=ln CL:=by unfold Ap;split;rw[aZ];rfl
def AJ v: ∀l CL,(np CL l v).length=ln CL
 |[],_=>rfl
 |z::l,CL=>(AJ v l (Ap CL z v)).trans (Aq CL z v)
def Pg {l v} (hk:k<ln l):np CL (l.take (k+1)) v=Ap (np CL (l.take k) v) l[k] v:=by unfold np;rw[bE hk,CQ];rfl
def tK (n:ZV) (x:LI TR):CU:=⟨x.s,n.x,-1,x.l,n.hx,dc⟩
def qm (a n:Nat):List ZV:=(List.range n).map λi=>zN (a+i)
def oJ a n:qm a (n+1)=qm a n++[zN (a+n)]:=by unfold qm;rw[PG,aV];rfl
def G6 a n:(qm a n).length=n:=by unfold qm;rw[bO,CR]
def U6 {x} (e:x=(k:Int)) h:(⟨x,h⟩:ZV)=zN k:=by subst e;exact(vv h).symm
def U9.ok {fam x} (h:U9 bI fam x):tP fam x.s x.l:=by
 obtain⟨g,r,o,e,f,d⟩:=h;refine⟨x.hn,?_⟩;rcases d with d|d;left;have:=hZ bI x.l;rw[d] at this;have i:ln x.l*1=0:=this.symm;exact aU om
 cases g with
 |true=>left;have a:=e.1;have b:=e.2.2 rfl;exact aU om
 |false=>exact .inr ⟨r,o,f,by rw[KK];exact d⟩
structure GuP (fam:List mq) (g:GU):Prop where
 i: ∃x:LI ZV,U9 bI fam x/\x.s=g.i/\x.l=g.il
 o: ∃x:LI ZV,U9 bI fam x/\x.s=g.o/\x.l=g.ol
 m: ∃x:LI MV,U9 xZ fam x/\x.s=g.m/\ln x.l<=300000
def GuP.mono {a b} (h:m3 a b) {g} (k:GuP a g):GuP b g:=by obtain⟨⟨x,i,m⟩,⟨y,f,d⟩,⟨z,j,e⟩⟩:=k;exact⟨⟨x,i.mono h,m⟩,⟨y,f.mono h,d⟩,⟨z,j.mono h,e⟩⟩
structure a3M (oC:List CU) (oG:List GU) (l:List ZV) (fam:List mq) (C2:List CU) (G2:List GU) (ps:List (LI TR)) (x:GU):Prop where
 c:C2=np (oC++ps.map (tK (zN (ln oG)))) l (zN (ln oG))
 g:G2=oG++[x]
 il:x.il=l
 ol:x.ol=qm (ln oC) (ln ps)
 px:GuP fam x
 pp: ∀p∈ps,Fx fam p/\ ∀t∈p.l,mm 327680 t
 le:4*jH ps<=3*(gF oC l).length
 pos:1<=(gF oC l).length
 tot: ∀T:Int,0<=T->(∀g∈oG,0<=g.total/\g.total<=T)->0<=x.total/\x.total<=T+1048576
 pl: ∀p∈ps,ln p.l<=100000
def ZB:ic:={Sk with ord:=λid=>nu id 17||nu id 22}
def Sf:iU prog ZB:=⟨Sl.T,Sl.D,Sl.O,Sl.R,λ_ _ _ _ h=>(show False from h).elim⟩
noncomputable def a4u:FuncId->Option Func:=lk [(75, f75)]
def WY: ∀f fn,a4u f=some fn->iM prog f fn:=nV λx d=>by simp only[br,cd,or_false] at d;rcases d with rfl;exact⟨func75,kr,kr⟩
noncomputable def hGr:=Xk ZB a4u (hat [105] a19)
def a14:ko prog hGr:=LZ Sf bj WY (ze Xd)
def k8 {a b x y ρ} (h:x.cells ρ=y.cells ρ):af ρ (a++x::b)=af ρ (a++y::b):=by rw[bp,bp,cO,cO,h]
def qu (o:OL α) (m:List α) {n} (e:ln m=n) d (h2:bZ (o.nl&&decide (n=0)) (ln o.l+n) d) b ρ:(C.sli (o.nl&&decide (n=0)) b 0 (ln o.l+n) d h2).cells ρ=((o.push m e d h2).ch b).cells ρ:=by simp only[C.cells,OL.ch,OL.push,aa,e]
def Vp (o:OL α) k (a:α) b ρ:(o.ch b).cells ρ=((o.put k a).ch b).cells ρ:=by simp only[C.cells,OL.ch,OL.put,aZ]
def Fx.right {f g x} (h:Fx g x):Fx (f++g) x:=by obtain⟨d,e⟩:=h;refine⟨?_,e⟩;rcases d with d|⟨r,o,e1,e2⟩;exact .inl d;exact .inr ⟨r,o,e1,e2.right⟩
def kF {Z G:Prop} (h:Z->G) (z:Z):G:=h z
structure PcS (oC:List CU) (gn:Nat) (hgi:IR (gn:Int)) (ps:List (LI TR)) where
 k:Nat
 C:OL CU
 O:OL ZV
 hk:k<=ln ps
 hC:C.l=oC++(ps.take k).map (tK ⟨gn,hgi⟩)
 hO:O.l=qm (ln oC) k
def UN {fam} (h: ∀c∈CL,Fn fam c) {l t} (e:t∈gF CL l):mm 327680 t:=by unfold gF at e;obtain⟨z,-,d⟩:=gU.1 e;unfold l8 pm at d;split at d;rename_i c f;exact(h c (dV f)).cor t d;cases d
def b1v {l:List (LI TR)} {p:LI TR} (h:p∈l):ln p.l<=jH l:=by obtain⟨s,t,rfl⟩:=pi h;unfold jH;rw[aV,PH,aI,KN];omega
def a7z {n m:Nat} (d:k=n) (hm:m<=100000) (hl:n<=100000) (h: ¬IntKind.i64.wrap (3*(m:Int))<IntKind.i64.wrap (4*(k:Int))):4*n<=3*m:=by subst d;rw[cN (z:=3*(m:Int)) ui,cN (z:=4*(k:Int)) ui] at h;omega
def SA {tF:TypeId} {A0:List (LI TR)} {F FG:List mq} {oK oF f:OL ZV} {og:OL PI} {oM:OL RU} {y:OL CU} {i:OL GU} {fam:List mq} {H size:Int} {E:IR H} {W:IR size} {K:SV->List aY->Prop} (hM: ∀r∈oM.l,Vc fam r) (d5:ln oM.l<=1000000) (hC: ∀c∈y.l,Fn fam c) (c6:xA (ln y.l) f.l) (d9: ∀z∈f.l,BC y.l (ln i.l) z.x) (d3:(gF y.l f.l).length<=100000) (g3:ln y.l<=10000000000) (g9:ln i.l<=10000000000) (hF: ∀(oM2:OL RU) (fam2:List mq),m3 fam fam2->(∀r∈oM2.l,Vc fam2 r)->ln oM2.l<=ln oM.l+1->K (.c (.val (.slice none 0 0))) [⟨.t tF,true,bG iX A0,0⟩,⟨.x F,true,[],3⟩,⟨30,false,[.val (.slice none 0 0),.val (.slice none 0 0)],0⟩,⟨121,false,[oM2.ch 14],0⟩,⟨30,false,[y.ch 15,i.ch 16],0⟩,⟨.t 0,true,[],0⟩,⟨.t 0,true,[],0⟩,⟨.t 0,true,[],0⟩,⟨.x fam2,true,[],2⟩,oK.blk bI 3,og.blk jp 22,⟨.x FG,true,[],2⟩,oF.blk bI 3,f.blk bI 3,oM2.blk tW 181,y.blk ju 55,i.blk ki 63]) (hS: ∀(oM2:OL RU) (oC2:OL CU) (oG2:OL GU) (fam2:List mq) (ps:List (LI TR)) (x:GU),m3 fam fam2->(∀r∈oM2.l,Vc fam2 r)->ln oM2.l<=ln oM.l+1->a3M y.l i.l f.l fam2 oC2.l oG2.l ps x->K (.c (.val (.slice x.o.a x.o.n x.o.c))) [⟨.t tF,true,bG iX A0,0⟩,⟨.x F,true,[],3⟩,⟨30,false,[.val (.slice none 0 0),.val (.slice none 0 0)],0⟩,⟨121,false,[oM2.ch 14],0⟩,⟨30,false,[oC2.ch 15,oG2.ch 16],0⟩,⟨.t 0,true,[],0⟩,⟨.t 0,true,[],0⟩,⟨.t 0,true,[],0⟩,⟨.x fam2,true,[],2⟩,oK.blk bI 3,og.blk jp 22,⟨.x FG,true,[],2⟩,oF.blk bI 3,⟨.t 0,true,[],0⟩,oM2.blk tW 181,oC2.blk ju 55,oG2.blk ki 63]): hGr 75 [.c (.ptr 4 0),f.sl 13,.c (.int H E),.c (.int size W),.c (.ptr 3 0)] [⟨.t tF,true,bG iX A0,0⟩,⟨.x F,true,[],3⟩,⟨30,false,[.val (.slice none 0 0),.val (.slice none 0 0)],0⟩,⟨121,false,[oM.ch 5],0⟩,⟨30,false,[y.ch 6,i.ch 7],0⟩,oM.blk tW 181,y.blk ju 55,i.blk ki 63,⟨.x fam,true,[],2⟩,oK.blk bI 3,og.blk jp 22,⟨.x FG,true,[],2⟩,oF.blk bI 3,f.blk bI 3] (λv hp=>a1q 14 K v hp):=by
 conv=>whnf
 refine .inr ⟨5,[3],?_⟩
 conv=>whnf
 refine .inr ⟨6,[4],?_⟩
 conv=>whnf
 refine .inr ⟨7,[4],?_⟩
 refine iT ?_
 refine⟨8,[15,16,13],[.agg [.sli y.nl 0 0 (ln y.l) y.cap y.ok,.sli i.nl 1 0 (ln i.l) i.cap i.ok],.c (.sli f.nl 2 0 (ln f.l) f.cap f.ok)],(λN e5 e=>by
  show cg (SV.den N) [.agg [.sli y.nl 15 0 (ln y.l) y.cap y.ok,.sli i.nl 16 0 (ln i.l) i.cap i.ok],.c (.sli f.nl 13 0 (ln f.l) f.cap f.ok)]=_
  have e0:=e 0 _ rfl
  have e1:=e 1 _ rfl
  have e2:=e 2 _ rfl
  simp only[cg,SV.den,C.den,C.cells,e0,e1,e2,aL,bF,af]),.inl rfl,⟨ab ju _,ab ki _,ab bI _,trivial⟩,y.nl,y.l,y.cap,y.ok,i.nl,i.l,i.cap,i.ok,f.nl,f.l,f.cap,f.ok,fam,_,_,_,rfl,rfl,⟨hC,c6,d3⟩,λt ht=> ?_⟩
 refine iT ?_
 refine zB ?_ ?_<;>intro h0
 conv=>whnf
 refine .inr ⟨[0,1,2,3,4,5,6,7,8,9,10,11,12,13,14,15,16],[0],[0,9,10,12,13,14,15,16],λg2=>⟨ab iX _,ab bI _,ab jp _,ab bI _,ab bI _,ab tW _,ab ju _,ab ki _,[.c (.val (.slice none 0 0))],[⟨.t tF,true,bG iX A0,0⟩,⟨.x F,true,[],3⟩,⟨30,false,[.val (.slice none 0 0),.val (.slice none 0 0)],0⟩,⟨121,false,[oM.ch 14],0⟩,⟨30,false,[y.ch 15,i.ch 16],0⟩,⟨.t 0,true,[],0⟩,⟨.t 0,true,[],0⟩,⟨.t 0,true,[],0⟩,⟨.x fam,true,[],2⟩,oK.blk bI 3,og.blk jp 22,⟨.x FG,true,[],2⟩,oF.blk bI 3,f.blk bI 3,oM.blk tW 181,y.blk ju 55,i.blk ki 63],⟨fr,trivial⟩,(by(iterate 17 refine⟨⟨rfl,rfl,rfl,fr⟩,?_⟩);exact trivial),?_⟩⟩
 conv=>whnf
 exact hF oM fam (m3.refl _) hM (a6e _)
 have f5:True:=trivial
 have d0:1<=ln t.l:=by have:=of_decide_eq_false h0;omega
 have Q:ln t.l<=100000:=by rw[ht];exact d3
 have d6: ∀u∈t.l,mm 327680 u:=λu hu=>by rw[ht] at hu;exact UN hC hu
 conv=>whnf
 refine .mk (Hy hM d5 Q d6 (λoM2 fam2 s m a0 a1 R hsm=> ?_))
 conv=>whnf
 have d7:IR (s.s.n:Nat):=by rw[s.hn];have:=hsm.lo;unfold IR;omega
 conv=>arg 2;tactic'=>exact eC rfl rfl rfl rfl rfl rfl d7
 refine zB ?_ ?_<;>intro b9
 conv=>whnf
 refine .inr ⟨[0,1,2,3,4,5,6,7,8,9,10,11,12,13,18,15,16],[0],[0,9,10,12,13,14,15,16],λg4=>⟨ab iX _,ab bI _,ab jp _,ab bI _,ab bI _,ab tW _,ab ju _,ab ki _,[.c (.val (.slice none 0 0))],[⟨.t tF,true,bG iX A0,0⟩,⟨.x F,true,[],3⟩,⟨30,false,[.val (.slice none 0 0),.val (.slice none 0 0)],0⟩,⟨121,false,[oM2.ch 14],0⟩,⟨30,false,[y.ch 15,i.ch 16],0⟩,⟨.t 0,true,[],0⟩,⟨.t 0,true,[],0⟩,⟨.t 0,true,[],0⟩,⟨.x fam2,true,[],2⟩,oK.blk bI 3,og.blk jp 22,⟨.x FG,true,[],2⟩,oF.blk bI 3,f.blk bI 3,oM2.blk tW 181,y.blk ju 55,i.blk ki 63],⟨fr,trivial⟩,(by(iterate 17 refine⟨⟨rfl,rfl,rfl,fr⟩,?_⟩);exact trivial),?_⟩⟩
 conv=>whnf
 exact hF oM2 fam2 a0 a1 R
 have b9:4*ln s.l<=3*ln t.l:=a7z s.hn Q hsm.lo (of_decide_eq_false b9)
 conv=>whnf
 obtain⟨I,b5,a9,J,X,Y⟩:=id hsm.io
 obtain⟨a6,e7,e8,a8,d2,c7⟩:=id hsm.im
 left
 conv=>whnf
 refine .inr ⟨1,I,b5,a9,ln s.l,s.s.c,J, 58,bG bU s.l,8,(by show Value.slice s.s.a s.s.n _=_;rw[X,s.hn]),Y.imp id (λh=>⟨_,_,_,rfl,rfl,h⟩),?_⟩
 conv=>whnf
 refine .inr ⟨2,a6,e7,e8,ln m.l,m.s.c,a8, 192,bG xZ m.l,8,(by show Value.slice m.s.a m.s.n _=_;rw[d2,m.hn]),c7.imp id (λh=>⟨_,_,_,rfl,rfl,h⟩),⟨ab bU _,ab bU _,ab xZ _,trivial⟩,t.nl,t.l,t.cap,t.ok,I,s.l,s.s.c,J,a6,m.l,m.s.c,a8,_,_,_,rfl,rfl,⟨Q,hsm.lo⟩,λd hd e he c5=> ?_⟩
 refine iT ?_
 conv=>whnf
 have c5:=c5 hsm.mo
 left
 refine iT ?_
 refine⟨[15,16,13],[.agg [.sli y.nl 0 0 (ln y.l) y.cap y.ok,.sli i.nl 1 0 (ln i.l) i.cap i.ok],.c (.sli f.nl 2 0 (ln f.l) f.cap f.ok)],(λN e5 e=>by
  show cg (SV.den N) [.agg [.sli y.nl 15 0 (ln y.l) y.cap y.ok,.sli i.nl 16 0 (ln i.l) i.cap i.ok],.c (.sli f.nl 13 0 (ln f.l) f.cap f.ok)]=_
  have e0:=e 0 _ rfl
  have e1:=e 1 _ rfl
  have e2:=e 2 _ rfl
  simp only[cg,SV.den,C.den,C.cells,e0,e1,e2,aL,bF,af]),⟨ab ju _,ab ki _,ab bI _,trivial⟩,y.nl,y.l,y.cap,y.ok,i.nl,i.l,i.cap,i.ok,f.nl,f.l,f.cap,f.ok,_,_,_,rfl,rfl,d9,λg hg e4=> ?_⟩
 refine A6 ?_
 conv=>whnf
 refine .inl ⟨trivial,d,g,hd,hg,rfl,rfl,λn hn c0 d4=> ?_⟩
 refine iT ?_
 refine zB ?_ ?_<;>intro f6
 conv=>whnf
 refine .inr ⟨[0,1,2,3,4,5,6,7,8,9,10,11,12,13,18,15,16],[0],[0,9,10,12,13,14,15,16],λe6=>⟨ab iX _,ab bI _,ab jp _,ab bI _,ab bI _,ab tW _,ab ju _,ab ki _,[.c (.val (.slice none 0 0))],[⟨.t tF,true,bG iX A0,0⟩,⟨.x F,true,[],3⟩,⟨30,false,[.val (.slice none 0 0),.val (.slice none 0 0)],0⟩,⟨121,false,[oM2.ch 14],0⟩,⟨30,false,[y.ch 15,i.ch 16],0⟩,⟨.t 0,true,[],0⟩,⟨.t 0,true,[],0⟩,⟨.t 0,true,[],0⟩,⟨.x fam2,true,[],2⟩,oK.blk bI 3,og.blk jp 22,⟨.x FG,true,[],2⟩,oF.blk bI 3,f.blk bI 3,oM2.blk tW 181,y.blk ju 55,i.blk ki 63],⟨fr,trivial⟩,(by(iterate 17 refine⟨⟨rfl,rfl,rfl,fr⟩,?_⟩);exact trivial),?_⟩⟩
 conv=>whnf
 exact hF oM2 fam2 a0 a1 R
 refine zB ?_ ?_<;>intro b6
 conv=>whnf
 refine .inr ⟨[0,1,2,3,4,5,6,7,8,9,10,11,12,13,18,15,16],[0],[0,9,10,12,13,14,15,16],λe6=>⟨ab iX _,ab bI _,ab jp _,ab bI _,ab bI _,ab tW _,ab ju _,ab ki _,[.c (.val (.slice none 0 0))],[⟨.t tF,true,bG iX A0,0⟩,⟨.x F,true,[],3⟩,⟨30,false,[.val (.slice none 0 0),.val (.slice none 0 0)],0⟩,⟨121,false,[oM2.ch 14],0⟩,⟨30,false,[y.ch 15,i.ch 16],0⟩,⟨.t 0,true,[],0⟩,⟨.t 0,true,[],0⟩,⟨.t 0,true,[],0⟩,⟨.x fam2,true,[],2⟩,oK.blk bI 3,og.blk jp 22,⟨.x FG,true,[],2⟩,oF.blk bI 3,f.blk bI 3,oM2.blk tW 181,y.blk ju 55,i.blk ki 63],⟨fr,trivial⟩,(by(iterate 17 refine⟨⟨rfl,rfl,rfl,fr⟩,?_⟩);exact trivial),?_⟩⟩
 conv=>whnf
 exact hF oM2 fam2 a0 a1 R
 have f2:c0=true:=by cases c0 with|true=>rfl|false=>cases b6
 have h1:n=d+g:=d4 f2
 refine iT ?_
 conv=>whnf
 refine .inr ⟨1,I,b5,a9,ln s.l,s.s.c,J, 58,bG bU s.l,8,(by show Value.slice s.s.a s.s.n _=_;rw[X,s.hn]),Y.imp id (λh=>⟨_,_,_,rfl,rfl,h⟩),?_⟩
 conv=>whnf
 refine .inl ⟨⟨ab bU _,ab bU _,trivial⟩,t.nl,t.l,t.cap,t.ok,I,s.l,s.s.c,J,_,_,rfl,rfl,⟨Q,hsm.lo⟩,λV f3=> ?_⟩
 refine A6 ?_
 conv=>whnf
 refine .inr ⟨0,I,b5,a9,ln s.l,s.s.c,J, 58,bG bU s.l,8,(by show Value.slice s.s.a s.s.n _=_;rw[X,s.hn]),Y.imp id (λh=>⟨_,_,_,rfl,rfl,h⟩),?_⟩
 conv=>whnf
 refine .inl ⟨⟨ab bU _,trivial⟩,I,s.l,s.s.c,J,_,size,W,rfl,rfl,hsm.lo,λps a7 b7 e9=> ?_⟩
 conv=>whnf
 refine .inr ⟨8,25,?_⟩
 conv=>whnf
 have D:IR ((ln i.l:Nat):Int):=ui
 have f7:ln ps.l<=100000:=aC (E8 b7) om
 refine zK [0,1,2,3,4,5,6,7,8,9,10,11,12,13,18,15,16,22,1000+ 3,24] [0,1,18,19,20] [0,9,10,12,13,14,15,16,18,19] (G:=PcS y.l (ln i.l) D ps.l) (λg=>[(20,.c (.int (g.k:Nat) (aR ps.ok g.hk)))]) (λg=>[(4,⟨30,false,[g.C.ch 15,i.ch 16],0⟩),(15,g.C.blk ju 55),(17,⟨63,false,[.int H E,f.ch 13,g.O.ch 18,m.s.v,.int d hd,.int n hn,.wid 2001 V f3],0⟩),(18,g.O.blk bI 3)]) (λg=>ln ps.l-g.k) ⟨0,y,OL.none,ah _,(bk _).symm,rfl⟩ trivial ?_
 rintro ⟨k,C,O,hk,L,hO⟩ wa2
 dsimp only
 refine zB ?_ ?_<;>intro c4
 have P:k<ln ps.l:=dL c4
 have f0:IR (k:Int):=aR ps.ok hk
 have f1:ln C.l=ln y.l+k:=by rw[L,aa,bO,aO,cq hk]
 have g1:ln O.l=k:=by rw[hO,G6]
 have a2:IR ((ln C.l:Nat):Int):=ui
 refine zl3 ?_
 conv=>whnf
 refine .inl ⟨rfl,O.app bI 3 (m:=1) (by show(ln O.l+1)*1<=5000000000000;omega),λc1 k1=> ?_⟩
 refine p6 ?_
 refine kF (Z:= ?Z1_0/\ ?Z1_1/\ ?Z1_2) (λj=> ?cur1) ?nxt1
 case cur1=>
  refine⟨?_,?_,?_,trivial⟩
  conv=>whnf
  exact j.1
  conv=>whnf
  conv=>arg 2;tactic'=>exact ap rfl rfl rfl rfl ((mj.self iX ps.l).get P) rfl
  conv=>whnf
  exact j.2.1
  conv=>whnf
  exact j.2.2
 case nxt1=>
  refine kF (Z:= ?Z2_0/\ ?Z2_1/\ ?Z2_2) (λj=> ?cur2) ?nxt2
  case cur2=>
   refine⟨⟨?_,?_,trivial⟩,?_,?_⟩
   conv=>whnf
   conv=>arg 2;tactic'=>exact ap rfl rfl rfl rfl ((mj.self iX ps.l).get P) rfl
   conv=>whnf
   exact j.1
   conv=>whnf
   exact j.2.1
   refine⟨?_,?_,trivial⟩
   conv=>whnf
   exact j.1
   conv=>whnf
   exact j.2.2
   refine⟨?_,?_,trivial⟩
   conv=>whnf
   exact j.2.1
   conv=>whnf
   conv=>arg 2;tactic'=>exact ap rfl rfl rfl rfl ((mj.self iX ps.l).get P) rfl
   conv=>whnf
   exact j.2.2
  case nxt2=>
   refine kF (Z:= ?Z3_0/\ ?Z3_1) (λj=> ?cur3) ?nxt3
   case cur3=>
    refine⟨⟨?_,trivial⟩,?_,?_⟩
    conv=>whnf
    exact j.1
    refine⟨?_,trivial⟩
    conv=>whnf
    conv=>arg 2;tactic'=>exact ap rfl rfl rfl rfl ((mj.self iX ps.l).get P) rfl
    conv=>whnf
    exact j.1
    refine⟨?_,?_,trivial⟩
    conv=>whnf
    exact j.1
    conv=>whnf
    exact j.2
   case nxt3=>
    refine kF (Z:= ?Z4_0) (λj=> ?cur4) ?nxt4
    case cur4=>
     refine⟨⟨?_,trivial⟩,?_⟩
     conv=>whnf
     exact j
     refine⟨?_,trivial⟩
     conv=>whnf
     exact j
    case nxt4=>
     refine⟨?_,trivial⟩
     refine YY ?_
     exact⟨rfl,C.app ju 55 (m:=1) (by show(ln C.l+1)*3<=5000000000000;omega),λc2 k2=> dD [0,1,2,3,4,5,6,7,8,9,10,11,12,13,14,23,16,17,21,19] ⟨k+1,(C.push [(tK (⟨(ln i.l:Nat),D⟩:ZV) ps.l[k])] rfl c2 k2),(O.push [(⟨(ln C.l:Nat),a2⟩:ZV)] rfl c1 k1),P,(by show C.l++[_]=_;rw[L,bE P,aV,aJ];rfl),(by show O.l++[_]=_;rw[hO,oJ,U6 (by omega:(ln C.l:Int)=((ln y.l+k:Nat):Int)) a2])⟩ (h:=λg7=>⟨ab iX _,ab bI _,ab jp _,ab bI _,ab bI _,ab tW _,cJ (ab ju _) ff,ab ki _,cJ (ab bI _) ff,ab iX _,(by(iterate 20 refine⟨fr,?_⟩);refine⟨λN=>kM (dr (n:=ln ps.l) P ps.ok.ir) N,?_⟩;exact gm _),(by(iterate 4 refine⟨⟨rfl,rfl,rfl,fr⟩,?_⟩);refine⟨⟨rfl,rfl,rfl,λN=>k8 (a:=[]) (qu C [(tK (⟨(ln i.l:Nat),D⟩:ZV) ps.l[k])] rfl c2 k2 15 N)⟩,?_⟩;(iterate 10 refine⟨⟨rfl,rfl,rfl,fr⟩,?_⟩);refine⟨C.push_blk ju 55 (n:=1) [(tK (⟨(ln i.l:Nat),D⟩:ZV) ps.l[k])] rfl c2 k2 fr,?_⟩;refine⟨⟨rfl,rfl,rfl,fr⟩,?_⟩;refine⟨⟨rfl,rfl,rfl,λN=>k8 (a:=[.int H E,f.ch 13]) (qu O [(⟨(ln C.l:Nat),a2⟩:ZV)] rfl c1 k1 18 N)⟩,?_⟩;refine⟨O.push_blk bI 3 (n:=1) [(⟨(ln C.l:Nat),a2⟩:ZV)] rfl c1 k1 fr,?_⟩;refine⟨⟨rfl,rfl,rfl,fr⟩,?_⟩;exact trivial)⟩)⟩
 have b2:ln ps.l<=k:=gi c4
 obtain rfl:k=ln ps.l:=bo hk b2
 rw[bP] at L
 conv=>whnf
 refine zK [0,1,2,3,4,5,6,7,8,9,10,11,12,13,14,15,16,17,18] [0,1,18,21] [0,9,10,12,13,14,15,16,18] (G:={q:Nat×OL CU//q.1<=ln f.l/\q.2.l=np C.l (f.l.take q.1) (⟨(ln i.l:Nat),D⟩:ZV)}) (λg=>[(21,.c (.int (g.1.1:Nat) (aR f.ok g.2.1)))]) (λg=>[(4,⟨30,false,[g.1.2.ch 15,i.ch 16],0⟩),(15,g.1.2.blk ju 55)]) (λg=>ln f.l-g.1.1) ⟨(0,C),ah _,rfl⟩ trivial ?_
 rintro ⟨⟨k,U⟩,a5,hU⟩ wb2
 have a5:k<=ln f.l:=a5
 have hU:U.l=np C.l (f.l.take k) (⟨(ln i.l:Nat),D⟩:ZV):=hU
 have h2:ln U.l=ln C.l:=by rw[hU,AJ]
 dsimp only
 refine zB ?_ ?_<;>intro d1
 have a4:k<ln f.l:=dL d1
 have f0:IR (k:Int):=aR f.ok a5
 obtain⟨q,hq,g6⟩:=LY c6 a4
 have f1:ln C.l=ln y.l+ln ps.l:=by rw[L,aa,bO]
 have b3:q<ln U.l:=om
 have g0:IR (q:Int):=aR U.ok (bw b3)
 refine zG3 ?_
 conv=>arg 2;tactic'=>exact bM (l:=[.int (ln i.l:Nat) D]) (cs:=bG ju (U.l.set q {U.l[q] with used:=(ln i.l:Nat),hu:=D})) rfl rfl rfl rfl (⟨rfl,rfl⟩) rfl (by exact U.ok.pos om) (by exact ye ju b3 (x:={U.l[q] with used:=(ln i.l:Nat),hu:=D}) (new:=[.int (ln i.l:Nat) D]) (A:=[U.l[q].s.v,.int U.l[q].made U.l[q].hm]) (M:=[.int U.l[q].used U.l[q].hu]) (B:=[]) rfl rfl rfl (by show 0+q*3+2=q*3+2;omega))
 conv=>whnf
 rw[bV]
 exact dD [0,1,2,3,4,5,6,7,8,9,10,11,12,13,14,15,16,17,18] ⟨(k+1,U.put q {U.l[q] with used:=(ln i.l:Nat),hu:=D}),a4,(by show U.l.set q _=_;rw[Pg a4,TY hq (by rw[<-hU];exact b3)];simp only[hU])⟩ (h:=λg5=>⟨ab iX _,ab bI _,ab jp _,ab bI _,ab bI _,ab tW _,ab ju _,ab ki _,ab bI _,(by(iterate 21 refine⟨fr,?_⟩);refine⟨λN=>kM (dr (n:=ln f.l) a4 f.ok.ir) N,?_⟩;exact gm _),(by(iterate 4 refine⟨⟨rfl,rfl,rfl,fr⟩,?_⟩);refine⟨⟨rfl,rfl,rfl,λN=>k8 (a:=[]) (Vp U q {U.l[q] with used:=(ln i.l:Nat),hu:=D} 15 N)⟩,?_⟩;(iterate 10 refine⟨⟨rfl,rfl,rfl,fr⟩,?_⟩);refine⟨⟨rfl,rfl,U.put_tl q {U.l[q] with used:=(ln i.l:Nat),hu:=D} ju _,λN=>rfl⟩,?_⟩;(iterate 3 refine⟨⟨rfl,rfl,rfl,fr⟩,?_⟩);exact trivial)⟩)
 have b2:ln f.l<=k:=gi d1
 obtain rfl:k=ln f.l:=bo a5 b2
 rw[bP] at hU
 conv=>whnf
 refine kF (Z:= ?Z6_0/\ ?Z6_1) (λj=> ?cur6) ?nxt6
 case cur6=>
  refine⟨?_,?_,trivial⟩
  conv=>whnf
  exact j.1
  conv=>whnf
  exact j.2
 case nxt6=>
  refine kF (Z:= ?Z7_0/\ ?Z7_1) (λj=> ?cur7) ?nxt7
  case cur7=>
   refine⟨⟨?_,trivial⟩,?_⟩
   conv=>whnf
   exact j.1
   refine⟨?_,?_,trivial⟩
   conv=>whnf
   exact j.1
   conv=>whnf
   exact j.2
  case nxt7=>
   refine kF (Z:= ?Z8_0) (λj=> ?cur8) ?nxt8
   case cur8=>
    refine⟨⟨?_,trivial⟩,?_⟩
    conv=>whnf
    exact j
    refine⟨?_,trivial⟩
    conv=>whnf
    exact j
   case nxt8=>
    refine⟨?_,trivial⟩
    conv=>whnf
    refine .inr ⟨8,13,[19],[],⟨ab bI _,λh=>OL.nil_cs h⟩,λp8 f8 d8 e3=> ?_⟩
    conv=>whnf
    refine .inr ⟨8,18,[19,17],[],⟨ab bI _,λh=>OL.nil_cs h⟩,λp9 f9 c9 f4=> ?_⟩
    refine iT ?_
    conv=>whnf
    refine .inl ⟨rfl,i.app ki 63 (m:=1) (by show(ln i.l+1)*8<=5000000000000;omega),λc3 k3=> ?_⟩
    conv=>whnf
    refine .inr ⟨[0,1,2,3,4,5,6,7,8,9,10,11,12,13,14,15,20],[0],[0,9,10,12,14,15,16],λg8=>⟨ab iX _,ab bI _,ab jp _,ab bI _,ab tW _,ab ju _,cJ (ab ki _) ff,[.c (.val (.slice (O.fz p9).s.a (O.fz p9).s.n (O.fz p9).s.c))],[⟨.t tF,true,bG iX A0,0⟩,⟨.x F,true,[],3⟩,⟨30,false,[.val (.slice none 0 0),.val (.slice none 0 0)],0⟩,⟨121,false,[oM2.ch 14],0⟩,⟨30,false,[U.ch 15,(i.push [(⟨H,(f.fz p8).s,(O.fz p9).s,m.s,d,n,decide (V<0),⟨(kv V.natAbs).toArray⟩,f.l,O.l,E,hd,hn⟩:GU)] rfl c3 k3).ch 16],0⟩,⟨.t 0,true,[],0⟩,⟨.t 0,true,[],0⟩,⟨.t 0,true,[],0⟩,⟨.x f9,true,[],2⟩,oK.blk bI 3,og.blk jp 22,⟨.x FG,true,[],2⟩,oF.blk bI 3,⟨.t 0,true,[],0⟩,oM2.blk tW 181,U.blk ju 55,(i.push [(⟨H,(f.fz p8).s,(O.fz p9).s,m.s,d,n,decide (V<0),⟨(kv V.natAbs).toArray⟩,f.l,O.l,E,hd,hn⟩:GU)] rfl c3 k3).blk ki 63],⟨fr,trivial⟩,(by(iterate 4 refine⟨⟨rfl,rfl,rfl,fr⟩,?_⟩);refine⟨⟨rfl,rfl,rfl,λN=>k8 (a:=[U.ch 15]) (qu i [(⟨H,(f.fz p8).s,(O.fz p9).s,m.s,d,n,decide (V<0),⟨(kv V.natAbs).toArray⟩,f.l,O.l,E,hd,hn⟩:GU)] rfl c3 k3 16 N)⟩,?_⟩;(iterate 11 refine⟨⟨rfl,rfl,rfl,fr⟩,?_⟩);refine⟨i.push_blk ki 63 (n:=1) [(⟨H,(f.fz p8).s,(O.fz p9).s,m.s,d,n,decide (V<0),⟨(kv V.natAbs).toArray⟩,f.l,O.l,E,hd,hn⟩:GU)] rfl c3 k3 fr,?_⟩;exact trivial),?_⟩⟩
    conv=>whnf
    have c8:m3 (fam2++a7) f9:=d8.trans c9
    have b8:m3 fam2 f9:=m3.trans ⟨a7,rfl⟩ c8
    refine hS oM2 U (i.push [(⟨H,(f.fz p8).s,(O.fz p9).s,m.s,d,n,decide (V<0),⟨(kv V.natAbs).toArray⟩,f.l,O.l,E,hd,hn⟩:GU)] rfl c3 k3) f9 ps.l (⟨H,(f.fz p8).s,(O.fz p9).s,m.s,d,n,decide (V<0),⟨(kv V.natAbs).toArray⟩,f.l,O.l,E,hd,hn⟩:GU) (a0.trans b8) (λr hr=>(a1 r hr).mono b8) R ⟨(by rw[hU,L,vv D]),rfl,rfl,hO,⟨⟨f.fz p8,f.fz_im (e3.imp id c9.inF),rfl,rfl⟩,⟨O.fz p9,O.fz_im f4,rfl,rfl⟩,⟨m,hsm.im.mono b8,rfl,hsm.ml⟩⟩,(λp hp=>⟨((b7 p hp).1.right).mono c8,λt ht=>by obtain⟨u,hu,e⟩:=(b7 p hp).2.2 t ht;rw[<-e];exact oU (S:=xP 327680) (hsm.co u hu)⟩),(by rw[e9,<-ht];exact b9),(by rw[<-ht];exact d0),(λT h0 hT=>by have:=e4 T h0 hT;show 0<=n/\n<=T+1048576;omega),(λp hp=>aC (b1v hp) (by rw[e9];exact hsm.lo))⟩
end
section
variable {α:Type} {CL:List CU} {k r c3:Nat} {o:OL CU} {L:List GU} {fa F:List mq} {m:List MV}
def OL.em :OL α:=⟨[],false,0,ai _,dc,λh=>by cases h⟩
structure b5X where
 r:Nat
 cap:Nat
 c:CU
 ok:bZ false (ln c.tl) cap
def b5X.cu (x:b5X):CU:=⟨⟨some ⟨x.r,0,none⟩,ln x.c.tl,x.cap⟩,x.c.made,x.c.used,x.c.tl,x.c.hm,x.c.hu⟩
def b5X.ent (x:b5X):mq:=⟨(x.r,0),bG bU x.c.tl, 58,(x.cap-ln x.c.tl)*9⟩
structure OwC (CL:List CU) (k:Nat) (X:List b5X) (o:OL CU):Prop where
 k1:k<=ln CL
 c:X.map b5X.c=CL.take k
 o:o.l=X.map b5X.cu
 nd:(X.map b5X.ent).Pairwise λx y=>x.a.1≠y.a.1
def OwC.len {X} (h:OwC CL k X o):ln o.l=k:=by have d:=congrArg ln h.c;rw[bO,aO,cq h.k1] at d;rw[h.o,bO,d]
def b0n {l:List mq} {x:mq} (h:l.Pairwise λx y=>x.a.1≠y.a.1) (hx: ∀e,e∈l->e.a.1≠x.a.1):(l++[x]).Pairwise λx y=>x.a.1≠y.a.1:=by rw[List.pairwise_append];exact⟨h,List.pairwise_singleton _ _,λa d b f=>by rw[bq.1 f];exact hx a d⟩
def OwC.next {X:List b5X} (h:OwC CL k X o) (hk:k<ln CL) (f: ∀e,e∈X.map b5X.ent->e.a.1≠r) {c:Nat} (ok:bZ false CL[k].tl.length c) {d:bZ (o.nl&&decide (1=0)) (ln o.l+1) c3}:OwC CL (k+1) (X++[⟨r,c,CL[k],ok⟩]) (o.push [(⟨r,c,CL[k],ok⟩:b5X).cu] rfl c3 d):=by refine⟨hk,?_,?_,?_⟩;rw[aV,h.c,bE hk];rfl;show o.l++_=_;rw[aV,h.o];rfl;rw[aV];exact b0n h.nd f
def it0 (g:GU):(List ZV×List ZV)×Int:=((g.il,g.ol),g.total)
structure OwG (L:List GU) (fa:List mq) (k:Nat) (F:List mq) (o:OL GU):Prop where
 k1:k<=ln L
 itm:o.l.map it0=(L.take k).map it0
 gu: ∀g∈o.l,GuP F g
 nd:(fa++F).Pairwise λx y=>x.a.1≠y.a.1
def OwG.len {o} (h:OwG L fa k F o):ln o.l=k:=by have d:=congrArg ln h.itm;rw[bO,bO,aO,cq h.k1] at d;exact d
def OwG.start (h:fa.Pairwise λx y=>x.a.1≠y.a.1):OwG L fa 0 [] OL.none:=⟨ah _,rfl,λg d=>(by cases d),(by rw[bk];exact h)⟩
def fzE (R:RW α) (l:List α) (t:TypeId) (r c:Nat):mq:=⟨(r,0),bG R l,t,(c-ln l)*R.n⟩
def fz_im {R:RW α} {l:List α} {t:TypeId} {c:Nat} (ok:bZ false (ln l) c) (h:fzE R l t r c∈F):U9 R F ⟨⟨some ⟨r,0,none⟩,ln l,c⟩,l,rfl⟩:=⟨false,r,0,ok,rfl,.inr ⟨_,h,rfl,rfl⟩⟩
def b2H (g:GU) (i o:List ZV) (m:List MV) (j h d e f c3:Nat):GU:={g with i:=⟨some ⟨j,0,none⟩,ln i,h⟩,o:=⟨some ⟨d,0,none⟩,ln o,e⟩,m:=⟨some ⟨f,0,none⟩,ln m,c3⟩}
def OwG.next {o:OL GU} (h:OwG L fa k F o) (hk:k<ln L) {d f i j p:Nat} (u:bZ false L[k].il.length f) (y:bZ false L[k].ol.length j) (A:bZ false (ln m) c3) (hm:ln m<=300000) (h1: ∀e,e∈fa++F->e.a.1≠d) (h2: ∀e,e∈fa++F++[fzE bI L[k].il 3 d f]->e.a.1≠i) (B: ∀e,e∈fa++F++[fzE bI L[k].il 3 d f]++[fzE bI L[k].ol 3 i j]->e.a.1≠p) {s:Nat} {z:bZ (o.nl&&decide (1=0)) (ln o.l+1) s}:OwG L fa (k+1) (F++[fzE bI L[k].il 3 d f,fzE bI L[k].ol 3 i j,fzE xZ m 192 p c3]) (o.push [b2H L[k] L[k].il L[k].ol m d f i j p c3] rfl s z):=by refine⟨hk,?_,λg q=> ?_,?_⟩;show(o.l++_).map _=_;rw[aV,h.itm,bE hk,aV];rfl;rcases aT.1 (show g∈o.l++_ from q) with q|q;exact(h.gu g q).mono ⟨_,rfl⟩;rw[bq.1 q];exact⟨⟨_,fz_im (t:= 3) u (gG _ sp),rfl,rfl⟩,⟨_,fz_im (t:= 3) y (gG _ sp),rfl,rfl⟩,⟨_,fz_im (t:= 192) A (gG _ sp),rfl,hm⟩⟩;have:=b0n (b0n (b0n h.nd h1) h2) (x:=fzE xZ m 192 p c3) B;rw[show F++[fzE bI L[k].il 3 d f,fzE bI L[k].ol 3 i j,fzE xZ m 192 p c3]=F++[fzE bI L[k].il 3 d f]++[fzE bI L[k].ol 3 i j]++[fzE xZ m 192 p c3] by simp];rw[<-aJ,<-aJ,<-aJ];exact this
def b3h:ic:={y7 with O:=Tt y7 hP0 (XS y7.O 3) 1}
def b0P:iU prog b3h:=⟨qG.T,qG.D,Es qG DZ (Er qG.O 3) 1,qG.R,qG.X⟩
def b1o:cP:=λd e K=> ∃f CL c1 h1 n2 L c2 h2 fam tc td,d=[.agg [.sli f 0 0 (ln CL) c1 h1,.sli n2 1 0 (ln L) c2 h2]]/\e=[⟨.t tc,true,bG ju CL,0⟩,⟨.t td,true,bG ki L,0⟩,⟨.x fam,true,[],3⟩]/\((∀c∈CL,Fn fam c)/\(∀g∈L,GuP fam g/\ln g.il<=2000000000/\ln g.ol<=2000000000)/\ln CL<=2000000000/\ln L<=2000000000)/\
 ∀X oC oG F,OwC CL (ln CL) X oC->OwG L (X.map b5X.ent) (ln L) F oG->K (.agg [oC.ch 3,oG.ch 4]) [oC.blk ju 55,oG.blk ki 63,⟨.x (X.map b5X.ent++F),true,[],2⟩]
def b2s {c k} h:(⟨(r,0),[]++bG bU k.tl, 58,(c-(0+ln k.tl))*9⟩:mq)=(⟨r,c,k,h⟩:b5X).ent:=by rw[aN];rfl
def b1X {c k} h {x} ρ:af ρ [.val (.slice (jK (false&&x) ⟨r,0,none⟩) (0+ln k.tl) c),.int k.made k.hm,.int k.used k.hu]=af ρ (bG ju [(⟨r,c,k,h⟩:b5X).cu]):=by rw[aN];rfl
def b1W (o:OL CU) x c3 (d:bZ (o.nl&&decide (1=0)) (ln o.l+1) c3) ρ:af ρ [.sli (o.nl&&decide (1=0)) 6 0 (ln o.l+1) c3 d,.val (.slice none 0 0)]=af ρ [(o.push [x] rfl c3 d).ch 6,.val (.slice none 0 0)]:=by simp only[cO,C.cells,OL.ch,OL.push,aa,aS,b0l]
def b10 (o:OL CU) (p:OL GU) x c3 (d:bZ (p.nl&&decide (1=0)) (ln p.l+1) c3) ρ:af ρ [o.ch 6,.sli (p.nl&&decide (1=0)) 8 0 (ln p.l+1) c3 d]=af ρ [o.ch 6,(p.push [x] rfl c3 d).ch 8]:=by simp only[cO,C.cells,OL.ch,OL.push,aa,aS,b0l]
def b00 {R:RW α} {l m:List α} {t:TypeId} {c:Nat} (e:l=m):(⟨(r,0),[]++bG R l,t,(c-(0+ln l))*R.n⟩:mq)=fzE R m t r c:=by subst e;rw[aN];rfl
def b11 {g i o j h d e f} (p:i=g.il) (q:o=g.ol) {x y z} ρ:af ρ [.int g.level g.hl,.val (.slice (jK (false&&x) ⟨j,0,none⟩) (0+ln i) h),.val (.slice (jK (false&&y) ⟨d,0,none⟩) (0+ln o) e),.val (.slice (jK (false&&z) ⟨f,0,none⟩) (0+ln m) c3),.int g.err g.he,.int g.total g.ht,.val (.bool g.dn),.val (.string g.dd)]=af ρ (bG ki [b2H g g.il g.ol m j h d e f c3]):=by subst p;subst q;rw[aN,aN,aN];rfl
def b1V:pd prog 23 b1o:=iA b0P bj (ck b0P bj bg 0) ⟨func23,kr,kr⟩ λd3 d4 K hc=>by
 obtain⟨n1,CL,c1,h1,n2,L,c2,h2,fam,tc,td,rfl,rfl,⟨hC,hL,d5,d8⟩,hc⟩:=hc;have p1:cC (bG ju CL):=ab ju CL;have p2:cC (bG ki L):=ab ki L;refine⟨zD,?_⟩;conv=>whnf
 refine zK [0,1,2,3,4,5,1000+ 55,1000000] [1,2,3,4] [0,1,6] (G:={q:Nat×List b5X×OL CU//OwC CL q.1 q.2.1 q.2.2}) (λg=>[(4,.c (.int (g.1.1:Nat) (aR h1 g.2.k1)))]) (λg=>[(5,⟨30,false,[g.1.2.2.ch 6,.val (.slice none 0 0)],0⟩),(6,g.1.2.2.blk ju 55),(7,⟨.x (g.1.2.1.map b5X.ent),true,[],2⟩)]) (λg=>ln CL-g.1.1) ⟨(0,[],OL.none),⟨ah _,rfl,rfl,List.Pairwise.nil⟩⟩ trivial ?_;rintro ⟨⟨k,X,o⟩,R⟩ vs2;have R:OwC CL k X o:=R;have hk:k<=ln CL:=R.k1;have d7:ln o.l=k:=R.len;dsimp only;refine zB ?_ ?_<;>intro Z;have f:k<ln CL:=dL Z;have a6:IR (k:Int):=aR h1 hk;have z:=hC _ (ak f);have e6:=z.le;obtain⟨r9,o9,a5,b8⟩:=z.at_;have Y:bZ false CL[k].tl.length CL[k].s.c:=z.n▸z.ok;refine eS ?_;refine .inr ⟨22,false,r9,o9,CL[k].tl.length,CL[k].s.c,Y, 58,bG bU CL[k].tl,2,(by show Value.slice CL[k].s.a CL[k].s.n _=_;rw[a5,z.n];rfl),D7 b8 rfl rfl,?_⟩;refine A6 ?_;conv=>whnf
 rw[show dk (bG bU CL[k].tl) 0 (CL[k].tl.length*9)=some (bG bU CL[k].tl) from gQ bU CL[k].tl];refine⟨fZ bU _,(OL.em:OL TR).app bU 58 (m:=CL[k].tl.length) (by show(0+CL[k].tl.length)*9<=5000000000000;omega),λB k9=> ?_⟩;refine iT ?_;conv=>whnf
 refine .inr ⟨7,11,12,⟨cJ ff (ab bU _),rfl,rfl⟩,λr hr=> ?_⟩;have O: ∀e,e∈X.map b5X.ent->e.a.1≠r:=hr.2.2.2.2.2.2.2.1;refine iT ?_;conv=>whnf
 refine .inl ⟨rfl,o.app ju 55 (m:=1) (by show(ln o.l+1)*3<=5000000000000;omega),λc3 D=> ?_⟩;conv=>whnf
 have j:bZ false CL[k].tl.length B:=by rw[aN] at k9;exact k9
 obtain⟨I,hx9⟩: ∃I:b5X,I=⟨r,B,CL[k],j⟩:=⟨_,rfl⟩;have t1:OwC CL (k+1) (X++[I]) (o.push [I.cu] rfl c3 D):=by subst hx9;exact R.next f O j
 exact dD [0,1,2,3,4,5,13,7] ⟨(k+1,X++[I],o.push [I.cu] rfl c3 D),t1⟩ (h:=λe5=>⟨p1,p2,cJ (ab ju _) ff,(by exact⟨fr,fr,fr,fr,λA=>kM (dr (n:=ln CL) f h1.ir) A,gm _⟩),(by(iterate 5 refine⟨mL _,?_⟩);refine⟨⟨rfl,rfl,rfl,λA=>b1W o I.cu c3 D A⟩,?_⟩;refine⟨o.push_blk ju 55 [I.cu] rfl c3 D (λA=>by subst hx9;exact b1X j A),?_⟩;refine⟨⟨congrArg TyX.x (by rw[aV];subst hx9;exact congrArg (λx=>X.map b5X.ent++[x]) (b2s j)),rfl,rfl,fr⟩,?_⟩;exact trivial)⟩);have Q:ln CL<=k:=gi Z;obtain rfl:k=ln CL:=bo hk Q;conv=>whnf
 refine zK [0,1,2,3,4,5,6,7,1000+ 63] [1,2,3,6] [0,1,6,8] (G:={q:Nat×List mq×OL GU//OwG L (X.map b5X.ent) q.1 q.2.1 q.2.2}) (λg=>[(6,.c (.int (g.1.1:Nat) (aR h2 g.2.k1)))]) (λg=>[(5,⟨30,false,[o.ch 6,g.1.2.2.ch 8],0⟩),(7,⟨.x (X.map b5X.ent++g.1.2.1),true,[],2⟩),(8,g.1.2.2.blk ki 63)]) (λg=>ln L-g.1.1) ⟨(0,[],OL.none),OwG.start R.nd⟩ (pc (congrArg TyX.x (bk _).symm)) ?_;rintro ⟨⟨k,F,p⟩,U⟩ wa2;have U:OwG L (X.map b5X.ent) k F p:=U;have hk:k<=ln L:=U.k1;have e0:ln p.l=k:=U.len;dsimp only;refine zB ?_ ?_<;>intro N;have f:k<ln L:=dL N;have a6:IR (k:Int):=aR h2 hk;obtain⟨b5,e4,d6⟩:=hL _ (ak f);obtain⟨⟨y,ii,c6,H⟩,⟨u,b9,a1,E⟩,⟨d,im,d0,a8⟩⟩:=b5;obtain⟨a9,ri,oi,c5,b7,b6⟩:=ii;obtain⟨d2,ro,oo,a7,b3,c0⟩:=b9;obtain⟨d1,rm,om,c4,a0,a4⟩:=im;refine eS ?_;refine .inr ⟨45,a9,ri,oi,ln y.l,y.s.c,c5, 3,bG bI y.l,2,(by show Value.slice L[k].i.a L[k].i.n L[k].i.c=_;rw[<-c6,b7,y.hn]),b6.imp id (λh=>⟨_,_,_,rfl,rfl,h⟩),?_⟩;refine A6 ?_;conv=>whnf
 rw[show dk (bG bI y.l) 0 (ln y.l*1)=some (bG bI y.l) from gQ bI y.l];refine⟨fZ bI _,(OL.em:OL ZV).app bI 3 (m:=ln y.l) (by show(0+ln y.l)*1<=5000000000000;rw[H];omega),λM k7=> ?_⟩;conv=>whnf
 refine .inr ⟨50,d2,ro,oo,ln u.l,u.s.c,a7, 3,bG bI u.l,2,(by show Value.slice L[k].o.a L[k].o.n L[k].o.c=_;rw[<-a1,b3,u.hn]),c0.imp id (λh=>⟨_,_,_,rfl,rfl,h⟩),?_⟩;refine A6 ?_;conv=>whnf
 rw[show dk (bG bI u.l) 0 (ln u.l*1)=some (bG bI u.l) from gQ bI u.l];refine⟨fZ bI _,(OL.em:OL ZV).app bI 3 (m:=ln u.l) (by show(0+ln u.l)*1<=5000000000000;rw[E];omega),λP k8=> ?_⟩;conv=>whnf
 refine .inr ⟨55,d1,rm,om,ln d.l,d.s.c,c4, 192,bG xZ d.l,2,(by show Value.slice L[k].m.a L[k].m.n L[k].m.c=_;rw[<-d0,a0,d.hn]),a4.imp id (λh=>⟨_,_,_,rfl,rfl,h⟩),?_⟩;refine A6 ?_;conv=>whnf
 rw[show dk (bG xZ d.l) 0 (ln d.l*6)=some (bG xZ d.l) from gQ xZ d.l];refine⟨fZ xZ _,(OL.em:OL MV).app xZ 192 (m:=ln d.l) (by show(0+ln d.l)*6<=5000000000000;omega),λB k9=> ?_⟩;refine iT ?_;conv=>whnf
 refine .inr ⟨7,12,19,⟨cJ ff (ab bI _),rfl,rfl⟩,λJ a2=> ?_⟩;conv=>whnf
 refine .inr ⟨7,15,19,⟨cJ ff (ab bI _),rfl,rfl⟩,λT O=> ?_⟩;conv=>whnf
 refine .inr ⟨7,18,19,⟨cJ ff (ab xZ _),rfl,rfl⟩,λV b2=> ?_⟩;conv=>whnf
 refine .inl ⟨rfl,p.app ki 63 (m:=1) (by show(ln p.l+1)*8<=5000000000000;omega),λc3 D=> ?_⟩;conv=>whnf
 have q7:bZ false L[k].il.length M:=by rw[aN,H] at k7;exact k7
 have q8:bZ false L[k].ol.length P:=by rw[aN,E] at k8;exact k8
 have q9:bZ false (ln d.l) B:=by rw[aN] at k9;exact k9
 have e1:(⟨(J,0),[]++bG bI y.l, 3,(M-(0+ln y.l))*1⟩:mq)=fzE bI L[k].il 3 J M:=b00 H;have e2:(⟨(T,0),[]++bG bI u.l, 3,(P-(0+ln u.l))*1⟩:mq)=fzE bI L[k].ol 3 T P:=b00 E;have e3:(⟨(V,0),[]++bG xZ d.l, 192,(B-(0+ln d.l))*6⟩:mq)=fzE xZ d.l 192 V B:=b00 rfl;have f1: ∀e,e∈X.map b5X.ent++F->e.a.1≠J:=a2.2.2.2.2.2.2.2.1;have f2: ∀e,e∈X.map b5X.ent++F++[fzE bI L[k].il 3 J M]->e.a.1≠T:=by rw[<-e1];exact O.2.2.2.2.2.2.2.1
 have f3: ∀e,e∈X.map b5X.ent++F++[fzE bI L[k].il 3 J M]++[fzE bI L[k].ol 3 T P]->e.a.1≠V:=by rw[<-e1,<-e2];exact b2.2.2.2.2.2.2.2.1
 obtain⟨W,hg9⟩: ∃W:GU,W=(b2H L[k] L[k].il L[k].ol d.l J M T P V B):=⟨_,rfl⟩;have t2:OwG L (X.map b5X.ent) (k+1) (F++[fzE bI L[k].il 3 J M,fzE bI L[k].ol 3 T P,fzE xZ d.l 192 V B]) (p.push [W] rfl c3 D):=by subst hg9;exact U.next f q7 q8 q9 a8 f1 f2 f3
 exact dD [0,1,2,3,4,5,6,7,20] ⟨(k+1,F++[fzE bI L[k].il 3 J M,fzE bI L[k].ol 3 T P,fzE xZ d.l 192 V B],p.push [W] rfl c3 D),t2⟩ (h:=λd9=>⟨p1,p2,ab ju _,cJ (ab ki _) ff,(by exact⟨fr,fr,fr,fr,fr,fr,λA=>kM (dr (n:=ln L) f h2.ir) A,gm _⟩),(by(iterate 5 refine⟨mL _,?_⟩);refine⟨⟨rfl,rfl,rfl,λA=>b10 o p W c3 D A⟩,?_⟩;refine⟨mL _,?_⟩;refine⟨⟨congrArg TyX.x (by rw[e1,e2,e3];simp only[aJ,cK,ge]),rfl,rfl,fr⟩,?_⟩;refine⟨p.push_blk ki 63 [W] rfl c3 D (λA=>by subst hg9;exact b11 H E A),?_⟩;exact trivial)⟩);have Q:ln L<=k:=gi N;obtain rfl:k=ln L:=bo hk Q;exact zO [0,1,2,6,8,7] [0,1,3,4] (hc X o p F R U)
end
section
variable {CL P:List CU} {z:ZV} {q:Nat} {ps:List (LI TR)} {L:List GU} {cur fresh:List ZV} {p:PI} {rest:List PI}
def uf (c d:CU):Prop:=c.s=d.s/\c.tl=d.tl/\c.made=d.made
def iJ (CL:List CU) (z:ZV):Int:=match pm CL z with|some c=>c.used|none=>0
def nT (e:z.x=(q:Int)):pm CL z=CL[q]? :=by unfold pm;rw[e,bW]
def nU {n:Nat} (h:0<=z.x/\z.x<(n:Int)): ∃q:Nat,z.x=(q:Int)/\q<n:=⟨z.x.toNat,om,om⟩
def Ye {v} (g:0<=z.x/\z.x<(ln CL:Int)) (i:q<ln CL): ∃c,(Ap CL z v)[q]? =some c/\uf c CL[q]/\(z.x=(q:Int)->c.used=v.x)/\(z.x≠(q:Int)->c.used=CL[q].used):=by obtain⟨p,f,d⟩:=nU g;rw[TY f d];by_cases e:p=q;subst e;refine⟨{CL[p] with used:=v.x,hu:=v.hx},?_,⟨rfl,rfl,rfl⟩,fr,λh=>absurd f h⟩;rw[pj d];refine⟨CL[q],?_,⟨rfl,rfl,rfl⟩,λh=>absurd (by omega:p=q) e,fr⟩;rw[eF e,ae i]
def uf.trans {a b c} (h:uf a b) (k:uf b c):uf a c:=⟨h.1.trans k.1,h.2.1.trans k.2.1,h.2.2.trans k.2.2⟩
def Ff {v:ZV}: ∀{l:List ZV} {CL:List CU} (_:xA (ln CL) l) {q:Nat} (hq:q<ln CL),
  ∃c,(np CL l v)[q]? =some c/\uf c CL[q]/\((∃z∈l,z.x=(q:Int))->c.used=v.x)/\((∀z∈l,z.x≠(q:Int))->c.used=CL[q].used)
 |[],CL,_,q,hq=>⟨CL[q],ae hq,⟨rfl,rfl,rfl⟩,λ⟨z,h,_⟩=>absurd h cd,fr⟩
 |z::l,CL,hin,q,hq=>by obtain⟨c,k,m,u,r⟩:=Ye (v:=v) (hin z aP) hq;(have g:q<(Ap CL z v).length:=by rw[Aq];exact hq);obtain⟨d,s,j,o,i⟩:=Ff (v:=v) (l:=l) (CL:=Ap CL z v) (λy f=>by rw[Aq];exact hin y (aD _ f)) g;(have A:(Ap CL z v)[q]=c:=by rw[ae g] at k;exact bL.inj k);rw[A] at j i;refine⟨d,s,j.trans m,λ⟨y,f,e⟩=> ?_,λh=> ?_⟩;by_cases hl: ∃z∈l,z.x=(q:Int);exact o hl;rw[i λy f e=>hl ⟨y,f,e⟩];rcases br.1 f with rfl|f;exact u e;exact absurd ⟨y,f,e⟩ hl;rw[i λy f=>h y (aD _ f)];exact r (h z aP)
def uL {l} {v:ZV} (d:xA (ln CL) l) (g:q<ln CL): ∃c,(np (CL++P) l v)[q]? =some c/\uf c CL[q]/\((∃z∈l,z.x=(q:Int))->c.used=v.x)/\((∀z∈l,z.x≠(q:Int))->c.used=CL[q].used):=by
 have e:q<(CL++P).length:=by rw[aa];omega
 have:=Ff (v:=v) (l:=l) (CL:=CL++P) (λz f=>by have:=d z f;rw[aa];omega) e;rw[List.getElem_append_left g] at this;exact this
def zd {l v} (d:xA (ln CL) l) {i:Nat} (hi:i<ln P): ∃c,(np (CL++P) l v)[ln CL+i]? =some c/\uf c P[i]/\c.used=P[i].used:=by
 have j:ln CL+i<(CL++P).length:=by rw[aa];omega
 obtain⟨c,k,g,-,f⟩:=Ff (v:=v) (l:=l) (CL:=CL++P) (λz h=>by have:=d z h;rw[aa];omega) j;rw[List.getElem_append_right om] at g f;simp only[a8W] at g f;exact⟨c,k,g,f λz h e=>by have:=d z h;omega⟩
def qI {l v}:(np (CL++P) l v).length=ln CL+ln P:=by rw[AJ,aa]
def GJ {S:CU->Prop} {l:List ZV} {v:ZV} (e:xA (ln CL) l) (hS: ∀c d,uf c d->S d->S c) (h1: ∀c∈CL,S c) (h2: ∀c∈P,S c): ∀c∈np (CL++P) l v,S c:=λc k=>by obtain⟨q,j,rfl⟩:=ns k;rw[qI] at j;rcases cj q (ln CL) with g|g;obtain⟨d,f,h,-⟩:=uL (P:=P) (v:=v) e g;rw[ae (by rw[qI];exact j)] at f;rw[bL.inj f];exact hS _ _ h (h1 _ (ak g));obtain⟨d,f,h,-⟩:=zd (P:=P) (v:=v) e (i:=q-ln CL) om;rw[show (ln CL)+(q-ln CL)=q by omega,ae (by rw[qI];exact j)] at f;rw[bL.inj f];exact hS _ _ h (h2 _ (ak om))
def Fn.same {fam c d} (e:uf c d) (h:Fn fam d):Fn fam c:=by obtain⟨g,f,-⟩:=e;exact⟨by rw[g,f];exact h.n,by rw[f];exact h.pos,by rw[g];exact h.ok,by rw[g,f];exact h.at_,by rw[f];exact h.cor,by rw[f];exact h.le⟩
def Ot {l v} (e:xA (ln CL) l) (i:0<=z.x/\z.x<(ln CL:Int)):l8 (np (CL++P) l v) z=l8 CL z:=by obtain⟨q,f,d⟩:=nU i;obtain⟨c,h,g,-⟩:=uL (P:=P) (v:=v) e d;unfold l8;rw[nT f,nT f,h,ae d];exact g.2.1
def Oq {l v} (d:xA (ln CL) l) {m} (hm:xA (ln CL) m):gF (np (CL++P) l v) m=gF CL m:=by
 unfold gF
 induction m with
 |nil=>rfl
 |cons z m ih=>rw[aL,aL,Ot d (hm z aP),ih λy e=>hm y (aD _ e)]
def Cb {l v} (e:xA (ln CL) l) (g:0<=z.x/\z.x<(ln CL:Int)):((∃y∈l,y.x=z.x)->iJ (np (CL++P) l v) z=v.x)/\((∀y∈l,y.x≠z.x)->iJ (np (CL++P) l v) z=iJ CL z):=by obtain⟨q,f,d⟩:=nU g;obtain⟨c,h,-,j,i⟩:=uL (P:=P) (v:=v) e d;unfold iJ;rw[nT f,nT f,h,ae d,f];exact⟨j,i⟩
def oI {a n} (h:z∈qm a n) (hb:a+n<=100000000000): ∃i,i<n/\z=zN (a+i)/\z.x=((a+i:Nat):Int):=by unfold qm at h;obtain⟨i,d,rfl⟩:=bD.1 h;have d:=jG.1 d;exact⟨i,d,rfl,AT ui⟩
def GK {l n v} (d:xA (ln CL) l) (hb:ln CL+ln ps<=100000000000) {i} (hi:i<ln ps): l8 (np (CL++ps.map (tK n)) l v) (zN (ln CL+i))=ps[i].l/\iJ (np (CL++ps.map (tK n)) l v) (zN (ln CL+i))= -1:=by obtain⟨c,g,e,f⟩:=zd (P:=ps.map (tK n)) (v:=v) d (i:=i) (by rw[bO];exact hi);rw[go] at e f;have h:(zN (ln CL+i)).x=((ln CL+i:Nat):Int):=AT ui;unfold l8 iJ;rw[nT h,g];exact⟨e.2.1,f⟩
def nj CL a b:gF CL (a++b)=gF CL a++gF CL b:=by unfold gF;rw[dG]
def Ca {CL ps l n v} (d:xA (ln CL) l) (hb:ln CL+ln ps<=100000000000): ∀k,k<=ln ps->(gF (np (CL++ps.map (tK n)) l v) (qm (ln CL) k)).length=jH (ps.take k)
 |0,_=>rfl
 |k+1,hk=>by rw[oJ,nj,aa,Ca d hb k om,bE (show k<(ln ps) from hk),xh];unfold gF jH;simp only[aL,bF,bk,aI,dj,KN,List.sum_nil,fM];rw[(GK d hb (show k<(ln ps) from hk)).1]
def AC {CL}: ∀{A S},A.Nodup->(∀a∈A,a∈S)->(gF CL A).length<=(gF CL S).length
 |[],_,_,_=>ah _
 |a::A,S,hn,hs=>by obtain⟨s,t,rfl⟩:=pi (hs a aP);have e:=xO.1 hn;(have:=AC (CL:=CL) (A:=A) (S:=s++t) e.2 λb f=>by have d:=hs b (aD _ f);rcases aT.1 d with d|d;exact aT.2 (.inl d);rcases br.1 d with rfl|d;exact absurd f e.1;exact aT.2 (.inr d));rw[show gF CL (a::A)=l8 CL a++gF CL A from rfl,nj,show gF CL (a::t)=l8 CL a++gF CL t from rfl];rw[nj] at this;simp only[aa] at this⊢;omega
def Te {l:List ZV} (h:(l.map ZV.x).Nodup):l.Nodup:=by unfold List.Nodup at h⊢;rw[mr] at h;exact h.imp λd e=>d (by rw[e])
inductive Bld:List CU->List GU->Prop
 |start {CL:List CU} (h: ∀c∈CL,c.made= -1/\c.used= -1):Bld CL []
 |grp {CL:List CU} {L:List GU} {l:List ZV} {ps:List (LI TR)} {x:GU} (h:Bld CL L) (hn:(l.map ZV.x).Nodup) (hi:xA (ln CL) l) (hu: ∀z∈l,iJ CL z<0) (il:x.il=l) (ol:x.ol=qm (ln CL) (ln ps)) (hb:ln CL+ln ps<=100000000000/\ln L<=1000000):Bld (np (CL++ps.map (tK (zN (ln L)))) l (zN (ln L))) (L++[x])
structure Po (fam:List mq) (CL:List CU) (L:List GU):Prop where
 cu: ∀c∈CL,Fn fam c
 gu: ∀g∈L,GuP fam g
 bld:Bld CL L
 md: ∀c∈CL,c.made<(ln L:Int)
 cnt:ln CL<=36864+36864*ln L
 tot: ∀g∈L,0<=g.total/\g.total<=(ln L:Int)*1048576
 ll:ln L<=36864
def Po.mono {a b} (h:m3 a b) (k:Po a CL L):Po b CL L:=⟨λc e=>(k.cu c e).mono h,λg d=>(k.gu g d).mono h,k.bld,k.md,k.cnt,k.tot,k.ll⟩
structure LvI (CL:List CU) (L:List GU) (cur:List ZV):Prop where
 inn:xA (ln CL) cur
 nd:(cur.map ZV.x).Nodup
 un: ∀z∈cur,iJ CL z<0
 w:ln L+(gF CL cur).length<=36864
def Pf (CL:List CU) (z:ZV):Bool:=decide (iJ CL z<0)
def nv (cur:List ZV) (z:ZV):ZV:=match cur[z.x.toNat]?with|some y=>y|none=>Z0
structure Vj (CL:List CU) (L:List GU) (cur fresh:List ZV) (rest:List PI):Prop where
 inn:xA (ln CL) cur
 nd:(cur.map ZV.x).Nodup
 fin:xA (ln CL) fresh
 fnd:(fresh.map ZV.x).Nodup
 fun_: ∀z∈fresh,iJ CL z<0
 dis: ∀z∈cur,∀y∈fresh,z.x≠y.x
 rest: ∀p∈rest,∀z∈p.l,iJ CL (nv cur z)<0
 w:ln L+(gF CL (cur.filter (Pf CL))).length+(gF CL fresh).length<=36864
structure A7 (n:Nat) (l:List PI):Prop where
 lt: ∀p∈l,∀z∈p.l,0<=z.x/\z.x<(n:Int)
 nd: ∀p∈l,(p.l.map ZV.x).Nodup
 dis:l.Pairwise λp q=> ∀a∈p.l,∀b∈q.l,a.x≠b.x
def a47 {n l} (h:CX n l):A7 n l:=by
 have d:(l.flatMap λp=>p.l.map ZV.x).Nodup:=by apply h.symm.nodup;unfold List.Nodup;rw[mr];exact List.nodup_range.imp λf e=>f (Y1.inj e)
 unfold List.Nodup at d;rw[List.pairwise_flatMap] at d;refine⟨λp g z m=> ?_,λp g=>d.1 p g,d.2.imp λh a i b j=>h _ (bD.2 ⟨a,i,rfl⟩) _ (bD.2 ⟨b,j,rfl⟩)⟩;obtain⟨q,o,k⟩:=JR h g m;omega
def xS (e:z.x=(q:Int)) (d:q<ln cur):nv cur z=cur[q]:=by unfold nv;rw[e,bW,ae d]
def rM (h:0<=z.x/\z.x<(ln cur:Int)):nv cur z∈cur:=by obtain⟨q,e,d⟩:=nU h;rw[xS e d];exact ak d
def BW (k:(cur.map ZV.x).Nodup) {a b} (h:0<=a.x/\a.x<(ln cur:Int)) (hb:0<=b.x/\b.x<(ln cur:Int)) (e:(nv cur a).x=(nv cur b).x):a.x=b.x:=by obtain⟨p,j,d⟩:=nU h;obtain⟨q,i,f⟩:=nU hb;rw[xS j d,xS i f] at e;have:=a3J.1 k;rcases iu p q with g|g|g;exact absurd (by rw[go,go];exact e) (this p q (by rw[bO];exact d) (by rw[bO];exact f) g);omega;exact absurd (by rw[go,go];exact e.symm) (this q p (by rw[bO];exact f) (by rw[bO];exact d) g)
def GS {l:List (LI TR)} (h: ∀p∈l,1<=ln p.l):ln l<=jH l:=by
 induction l with
 |nil=>exact ah _
 |cons x l ih=>have f:=h x aP;have e:=ih λp d=>h p (aD _ d);unfold jH at*;rw[aI,KN,aS];omega
structure PJ (CL:List CU) (cur l:List ZV):Prop where
 inn:xA (ln CL) l
 nd:(l.map ZV.x).Nodup
 un: ∀z∈l,iJ CL z<0
 sub: ∀z∈l,z∈cur
def LR (h:Vj CL L cur fresh (p::rest)) (j:A7 (ln cur) (p::rest)):PJ CL cur (p.l.map (nv cur)):=by have d:=j.lt p aP;refine⟨λz f=> ?_,?_,λz f=> ?_,λz f=> ?_⟩;obtain⟨y,g,rfl⟩:=bD.1 f;exact h.inn _ (rM (d y g));have:=j.nd p aP;unfold List.Nodup at this⊢;rw[t9,mr];rw[mr] at this;exact this.imp_of_mem λ{a b} k m i e=>i (BW h.nd (d a k) (d b m) e);obtain⟨y,g,rfl⟩:=bD.1 f;exact h.rest p aP y g;obtain⟨y,g,rfl⟩:=bD.1 f;exact rM (d y g)
def PJ.filt {l} (h:PJ CL cur l): ∀z∈l,z∈cur.filter (Pf CL):=λz d=>iQ.2 ⟨h.sub z d,decide_eq_true (h.un z d)⟩
def PJ.len {l} (h:PJ CL cur l):(gF CL l).length<=(gF CL (cur.filter (Pf CL))).length:=AC (Te h.nd) h.filt
def W9 (h:Vj CL L cur fresh (p::rest)):Vj CL L cur fresh rest:=⟨h.inn,h.nd,h.fin,h.fnd,h.fun_,h.dis,λq d=>h.rest q (aD _ d),h.w⟩
def Tq {n} (h:A7 n (p::rest)):A7 n rest:=⟨λq d=>h.lt q (aD _ d),λq d=>h.nd q (aD _ d),(a0s.1 h.dis).2⟩
def Em a n (hb:a+n<=100000000000):((qm a n).map ZV.x).Nodup:=by unfold qm List.Nodup;rw[t9,mr];refine List.nodup_range.imp_of_mem λ{i j} g f d e=>d ?_;have g:=jG.1 g;have f:=jG.1 f;have e:(zN (a+i)).x=(zN (a+j)).x:=e;rw[AT ui,AT ui] at e;omega
def W8 {fam:List mq} {A:List CU} {V:List GU} {x:GU} (N:Po fam CL L) (h:Vj CL L cur fresh (p::rest)) (X:A7 (ln cur) (p::rest)) (j:a3M CL L (p.l.map (nv cur)) fam A V ps x): Po fam A V/\Vj A V cur (fresh++x.ol) rest:=by
 have s:=LR h X;have a1:=X.lt p aP;have a5:=s.len;have hw:=h.w;have a7:ln ps<=jH ps:=GS λq F=>(j.pp q F).1.2.1;have a6:=j.le;have a4:=j.pos;have a0:ln L+1<=36864:=om;have a2:=N.cnt;have I:ln CL+ln ps<=100000000000:=om;have Z:IR ((ln L:Nat):Int):=ui;have R:(zN (ln L)).x=(ln L:Int):=AT Z;have Y:ln A=ln CL+ln ps:=by rw[j.c,qI,bO]
 have E:ln V=ln L+1:=by rw[j.g,aa];rfl
 have H: ∀z,0<=z.x/\z.x<(ln CL:Int)->iJ A z<0-> ∀y∈p.l.map (nv cur),y.x≠z.x:=λz f hu y o e=>by have:=(Cb (P:=ps.map (tK (zN (ln L)))) (v:=zN (ln L)) s.inn f).1 ⟨y,o,e⟩;rw[<-j.c,R] at this;omega
 have r: ∀z,0<=z.x/\z.x<(ln CL:Int)->(∀y∈p.l.map (nv cur),y.x≠z.x)->iJ A z=iJ CL z:=λz f o=>by rw[j.c];exact(Cb s.inn f).2 o
 have G: ∀{m:List ZV},xA (ln CL) m->gF A m=gF CL m:=λhm=>by rw[j.c];exact Oq s.inn hm
 refine⟨⟨?_,?_,?_,?_,?_,?_,?_⟩,⟨?_,h.nd,?_,?_,?_,?_,?_,?_⟩⟩;rw[j.c];refine GJ s.inn (λc d e k=>k.same e) N.cu λc Q=> ?_;obtain⟨q,F,rfl⟩:=bD.1 Q;obtain⟨⟨O,q2,q3⟩,q4⟩:=j.pp q F;refine⟨q.hn,q2,q3,?_,q4,j.pl q F⟩;rcases O with O|O;rw[O] at q2;exact absurd q2 dc;exact O;rw[j.g];intro g B;rcases aT.1 B with B|B;exact N.gu g B;rw[bq.1 B];exact j.px;rw[j.c,j.g];exact .grp N.bld s.nd s.inn s.un j.il j.ol ⟨I,om⟩;rw[j.c,E];refine GJ (S:=λc=>c.made<((ln L+1:Nat):Int)) s.inn (λc d e k=>by rw[e.2.2];exact k) (λc Q=>by have:=N.md c Q;omega) λc Q=> ?_;obtain⟨q,F,rfl⟩:=bD.1 Q;show(zN (ln L)).x<_;rw[R];omega;rw[Y,E];omega;rw[j.g];intro g B;rw[aa];rcases aT.1 B with B|B;have:=N.tot g B;show _/\_<=((ln L+1:Nat):Int)*_;omega;rw[bq.1 B];have:=j.tot ((ln L:Int)*1048576) om N.tot;show _/\_<=((ln L+1:Nat):Int)*_;omega;rw[E];exact a0;intro z f;have:=h.inn z f;omega;intro z f;rcases aT.1 f with f|f;have:=h.fin z f;omega;rw[j.ol] at f;obtain⟨i,W,-,e⟩:=oI f I;omega;rw[aV,gB];refine⟨h.fnd,by rw[j.ol];exact Em _ _ I,λa D b M e=> ?_⟩;obtain⟨z,f,rfl⟩:=bD.1 D;obtain⟨y,o,rfl⟩:=bD.1 M;rw[j.ol] at o;obtain⟨i,W,-,e2⟩:=oI o I;have:=h.fin z f;omega;intro z f;rcases aT.1 f with f|f;rw[r z (h.fin z f) λy o=>h.dis y (s.sub y o) z f];exact h.fun_ z f;rw[j.ol] at f;obtain⟨i,W,e,-⟩:=oI f I;rw[e,j.c,(GK s.inn I W).2];decide;intro z f y o;rcases aT.1 o with o|o;exact h.dis z f y o;rw[j.ol] at o;obtain⟨i,W,-,e⟩:=oI o I;have:=h.inn z f;omega;intro q F z f;have U:=X.lt q (aD _ F) z f;rw[r _ (h.inn _ (rM U)) λy o e=> ?_];exact h.rest q (aD _ F) z f;obtain⟨w,T,rfl⟩:=bD.1 o;exact(a0s.1 X.dis).1 q F w T z f (BW h.nd (a1 w T) U e);have hA:(gF CL (cur.filter (Pf A)++p.l.map (nv cur))).length<=(gF CL (cur.filter (Pf CL))).length:=by apply AC;rw[gB];refine⟨(Te h.nd).filter _,Te s.nd,λa D b M e=> ?_⟩;obtain⟨u,J⟩:=iQ.1 D;exact H a (h.inn a u) (of_decide_eq_true J) b M (by rw[e]);intro a D;rcases aT.1 D with D|D;obtain⟨u,J⟩:=iQ.1 D;have h3:iJ A a<0:=of_decide_eq_true J;rw[r a (h.inn a u) (H a (h.inn a u) h3)] at h3;exact iQ.2 ⟨u,decide_eq_true h3⟩;exact s.filt a D
 rw[nj,aa] at hA;rw[nj,aa,G h.fin,G (m:=cur.filter (Pf A)) (λz f=>h.inn z (iQ.1 f).1),E];have e2:(gF A x.ol).length=jH ps:=by have:=Ca (ps:=ps) (n:=zN (ln L)) (v:=zN (ln L)) s.inn I (ln ps) (ai _);rw[bP] at this;rw[j.c,j.ol];exact this
 omega
def Sz (h:LvI CL L cur) (g:A7 (ln cur) rest):Vj CL L cur [] rest:=by have e:cur.filter (Pf CL)=cur:=List.filter_eq_self.2 λz d=>decide_eq_true (h.un z d);refine⟨h.inn,h.nd,λz d=>absurd d cd,sZ,λz d=>absurd d cd,λz _ y f=>absurd f cd,λp i z d=>h.un _ (rM (g.lt p i z d)),?_⟩;rw[e];have:=h.w;show _+_+0<=_;omega
def Xy (h:Vj CL L cur fresh []):LvI CL L (cur.filter (Pf CL)++fresh):=by refine⟨λz d=> ?_,?_,λz d=> ?_,?_⟩;rcases aT.1 d with d|d;exact h.inn z (iQ.1 d).1;exact h.fin z d;rw[aV,gB];refine⟨?_,h.fnd,λa f b g e=> ?_⟩;have:=h.nd;unfold List.Nodup at this⊢;rw[mr] at this⊢;exact this.filter _;obtain⟨z,d,rfl⟩:=bD.1 f;obtain⟨y,i,rfl⟩:=bD.1 g;exact h.dis z (iQ.1 d).1 y i e;rcases aT.1 d with d|d;exact of_decide_eq_true (iQ.1 d).2;exact h.fun_ z d;rw[nj,aa];have:=h.w;omega
end
section
variable {CL:List CU} {L:List GU}
structure SdI (CL:List CU) (L:List GU):Prop where
 ll:ln L<=1000001
 c: ∀c∈CL,(-1<=c.made/\c.made<(ln L:Int))/\ -1<=c.used/\c.used<(ln L:Int)
 g: ∀g∈L,xA (ln CL) g.il/\xA (ln CL) g.ol
 mkp:MkP CL L
def ya {a n:Nat} {z:ZV} (h:z∈qm a n) (hb:a+n<=100000000000):(a:Int)<=z.x/\z.x<((a+n:Nat):Int):=by obtain⟨i,d,-,e⟩:=oI h hb;omega
def a0G (h:Bld CL L):SdI CL L:=by
 induction h with
 | @start CL h=>refine⟨ah _,λc Y=> ?_,λg V=>absurd V cd,⟨⟨sZ,λe k=>absurd k cd,sZ⟩,λi T=> ?_⟩⟩;obtain⟨a,b⟩:=h c Y;rw[a,b];exact⟨⟨dc,dc⟩,dc,dc⟩;obtain⟨a,b⟩:=h _ (ak T);exact⟨.inr ⟨by rw[b];decide,λe k=>absurd k cd⟩,.inr ⟨by rw[a];decide,λe k=>absurd k cd⟩⟩
 | @grp CL L l ps x hB hn T hu il ol hb ih=>have D:(zN (ln L)).x=(ln L:Int):=AT ui;obtain⟨a4,Y,V,⟨⟨n1,m1,n2⟩,H⟩⟩:=ih;(have F: ∀f:GU->List ZV,dI f 0 (L++[x])=dI f 0 L++(f x).map (λz=>(z,zN (ln L))):=λf=>by rw[rO,aN];show _++(_++[])=_;rw[bk]);(have u:(np (CL++ps.map (tK (zN (ln L)))) l (zN (ln L))).length=ln CL+ln ps:=by rw[qI,bO]);(have W:(L++[x]).length=ln L+1:=by rw[aa];rfl);(have key: ∀f:GU->List ZV,(∀g∈L,xA (ln CL) (f g))-> ∀e∈dI f 0 L,0<=e.1.x/\e.1.x<(ln CL:Int):=λf hf e k=>by obtain⟨j,hj,Q,-⟩:=(rP f L 0 e).1 k;exact hf _ (ak hj) _ Q);have k1:=key GU.il λg I=>(V g I).1;have k2:=key GU.ol λg I=>(V g I).2;(have a0: ∀e∈dI GU.il 0 L,∀z∈l,e.1.x≠z.x:=λe k z m ee=>by obtain⟨q,A,E⟩:=nU (k1 e k);have X:=hu z m;unfold iJ at X;rw[nT (by rw[<-ee];exact A),ae E] at X;have X:CL[q].used<0:=X;rcases(H q E).1 with⟨h4,-⟩|⟨-,h4⟩;omega;exact h4 e k A);have R:=λ{q:Nat} (A:q<ln CL)=>uL (P:=ps.map (tK (zN (ln L)))) (v:=zN (ln L)) T A;have new:=λ{j:Nat} (hj:j<ln ps)=>zd (P:=ps.map (tK (zN (ln L)))) (v:=zN (ln L)) T (i:=j) (by rw[bO];exact hj);generalize hC:np (CL++ps.map (tK (zN (ln L)))) l (zN (ln L))=C2 at*;(have G: ∀{q:Nat} {d:CU} (A:q<ln C2),C2[q]? =some d->C2[q]=d:=λA e=>by rw[ae A] at e;exact bL.inj e);refine⟨by rw[W];omega,λc h=> ?_,λg h=> ?_,⟨⟨?_,?_,?_⟩,λi M=> ?_⟩⟩;rw[W];obtain⟨q,A,rfl⟩:=ns h;rcases cj q (ln CL) with g|g;obtain⟨d,s,⟨-,-,p⟩,y,Z⟩:=R g;rw[G A s,p];have a5:=Y _ (ak g);by_cases m: ∃z∈l,z.x=(q:Int);rw[y m,D];omega;rw[Z λz Q B=>m ⟨z,Q,B⟩];omega;obtain⟨d,s,⟨-,-,p⟩,y⟩:=new (j:=q-ln CL) om;rw[show (ln CL)+(q-ln CL)=q by omega] at s;rw[go] at p y;have p:d.made=(zN (ln L)).x:=p;have y:d.used= -1:=y;rw[G A s,p,y,D];omega;rw[u];rcases aT.1 h with h|h;have B:=V g h;exact⟨λz m=>by have:=B.1 z m;omega,λz m=>by have:=B.2 z m;omega⟩;rw[bq.1 h];refine⟨λz m=> ?_,λz m=> ?_⟩;rw[il] at m;have:=T z m;omega;rw[ol] at m;have:=ya m hb.1;omega;unfold wN;rw[F,aV,gB];refine⟨n1,?_,λa ha b O e=> ?_⟩;rw[t9,il];exact hn;obtain⟨s,N,rfl⟩:=bD.1 ha;obtain⟨p,J,rfl⟩:=bD.1 O;obtain⟨z,m,rfl⟩:=bD.1 J;rw[il] at m;exact a0 s N z m e;intro e k c U;rw[F] at k;(have step: ∀z:ZV,0<=z.x/\z.x<(ln CL:Int)->pm C2 z=some c-> ∃d,pm CL z=some d/\c.made=d.made:=λz m o=>by obtain⟨q,A,E⟩:=nU m;obtain⟨d,s,⟨-,-,p⟩,-⟩:=R E;rw[nT A,s] at o;refine⟨CL[q],by rw[nT A,ae E],?_⟩;rw[<-bL.inj o];exact p);rcases aT.1 k with k|k;obtain⟨d,Q,B⟩:=step e.1 (k1 e k) U;rw[B];exact m1 e k d Q;obtain⟨z,m,rfl⟩:=bD.1 k;rw[il] at m;obtain⟨d,Q,B⟩:=step z (T z m) U;rw[B];show d.made<(zN (ln L)).x;rw[D];exact(Y d (dV Q)).1.2;unfold wN;rw[F,aV,gB];refine⟨n2,?_,λa ha b O e=> ?_⟩;rw[t9,ol];exact Em _ _ hb.1;obtain⟨s,N,rfl⟩:=bD.1 ha;obtain⟨p,J,rfl⟩:=bD.1 O;obtain⟨z,m,rfl⟩:=bD.1 J;rw[ol] at m;have a1:=k2 s N;have a2:=ya m hb.1;have e:s.1.x=z.x:=e;omega;rw[u] at M;rcases cj i (ln CL) with g|g;obtain⟨d,s,⟨-,-,p⟩,y,Z⟩:=R g;rw[G (by rw[u];exact M) s];refine⟨?_,?_⟩;by_cases m: ∃z∈l,z.x=(i:Int);have e5:=y m;obtain⟨z,r,o⟩:=m;refine .inl ⟨by rw[e5,D];omega,(z,zN (ln L)),?_,o,e5.symm⟩;rw[F,aT];exact .inr (bD.2 ⟨z,by rw[il];exact r,rfl⟩);rw[Z λz r o=>m ⟨z,r,o⟩];rcases(H i g).1 with⟨a,e,k,b⟩|⟨a,b⟩;exact .inl ⟨a,e,by rw[F];exact aT.2 (.inl k),b⟩;refine .inr ⟨a,λe k=> ?_⟩;rw[F,aT] at k;rcases k with k|k;exact b e k;obtain⟨z,r,rfl⟩:=bD.1 k;exact λo=>m ⟨z,by rw[<-il];exact r,o⟩;rw[p];rcases(H i g).2 with⟨a,e,k,b⟩|⟨a,b⟩;exact .inl ⟨a,e,by rw[F];exact aT.2 (.inl k),b⟩;refine .inr ⟨a,λe k=> ?_⟩;rw[F,aT] at k;rcases k with k|k;exact b e k;obtain⟨z,r,rfl⟩:=bD.1 k;rw[ol] at r;have:=ya r hb.1;intro o;have o:z.x=(i:Int):=o;omega;obtain⟨d,s,⟨-,-,p⟩,y⟩:=new (j:=i-ln CL) om;rw[show (ln CL)+(i-ln CL)=i by omega] at s;rw[go] at p y;have p:d.made=(zN (ln L)).x:=p;have y:d.used= -1:=y;rw[G (by rw[u];exact M) s];refine⟨.inr ⟨by rw[y];decide,λe k=> ?_⟩,.inl ⟨by rw[p,D];omega,(zN i,zN (ln L)),?_,AT ui,p.symm⟩⟩;rw[F,aT] at k;rcases k with k|k;have:=k1 e k;omega;obtain⟨z,m,rfl⟩:=bD.1 k;rw[il] at m;have:=T z m;intro B;have B:z.x=(i:Int):=B;omega;rw[F,aT];refine .inr (bD.2 ⟨zN i,?_,rfl⟩);rw[ol];unfold qm;exact bD.2 ⟨i-ln CL,jG.2 om,by rw[show (ln CL)+(i-ln CL)=i by omega]⟩
def VN (h:Bld CL L):vC CL L:=by
 have s:=a0G h;refine⟨?_,s.mkp⟩;have inr: ∀{n l},xA n l->l.all (A4 n)=true:=λh=>fE.2 λz e=>by have:=h z e;unfold A4;simp only[aG,dE,decide_eq_false_iff_not,decide_eq_true_eq];omega
 unfold sk;rw[aG];refine⟨fE.2 λc f=> ?_,fE.2 λg d=> ?_⟩;have:=s.c c f;unfold qL minI maxI;simp only[aG,dE,decide_eq_false_iff_not];constructor<;>split<;>omega;have:=s.g g d;unfold w8;rw[aG];exact⟨inr this.1,inr this.2⟩
end
end Go.Proofs.YtlgcobafjbajdaaGreatDoor
