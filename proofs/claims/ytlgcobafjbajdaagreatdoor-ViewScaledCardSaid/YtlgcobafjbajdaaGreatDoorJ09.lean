/- w -/
import Derived.Test.YtlgcobafjbajdaaGreatDoorJ01
import Derived.Test.YtlgcobafjbajdaaGreatDoorJ08
import Derived.Test.YtlgcobafjbajdaaGreatDoorJ07
import Derived.Test.YtlgcobafjbajdaaGreatDoorJ04
import Derived.Test.YtlgcobafjbajdaaGreatDoorJ06
namespace Go.Proofs.YtlgcobafjbajdaaGreatDoor
open Tryz
open Go.RowKit
open Int renaming tdiv→Nq
open IntKind renaming i64→ix,wrap→wr
open List renaming append_assoc→aJ,length→ln,replicate→au
open Nat renaming ble→a6d
set_option linter.all false
set_option maxRecDepth 100000
set_option maxHeartbeats 64000000
section
variable {A O:List TR} {u:PT} {P im:List PT} {k:Nat}
def mB (A:List TR) (p:PT) (k:Fin 10):Int:=if (ln A)<=1000000 then yq A p k.val else 0
def fD A p k:Sm 3510 (mB A p k):=by unfold mB;split;rename_i h;exact mU p k.val h;exact sm0.mono dc
noncomputable def a1s:Dr
 |[.c (.sli _ b off n _ _),.agg [.int x hx,.int y hy,.int z hz]],hf=>(match hf b with
  |some ⟨.t _,_,cs,_⟩=>some (some (off=0/\n<=1000000/\ ∃A:List TR,ln A=n/\cs=bG bU A),.agg [.wid 3510 (mB (eU bU cs 0 n) ⟨x,y,z,hx,hy,hz⟩ 0) (fD _ _ _),.wid 3510 (mB (eU bU cs 0 n) ⟨x,y,z,hx,hy,hz⟩ 1) (fD _ _ _),.wid 3510 (mB (eU bU cs 0 n) ⟨x,y,z,hx,hy,hz⟩ 2) (fD _ _ _),.wid 3510 (mB (eU bU cs 0 n) ⟨x,y,z,hx,hy,hz⟩ 3) (fD _ _ _),.wid 3510 (mB (eU bU cs 0 n) ⟨x,y,z,hx,hy,hz⟩ 4) (fD _ _ _),.wid 3510 (mB (eU bU cs 0 n) ⟨x,y,z,hx,hy,hz⟩ 5) (fD _ _ _),.wid 3510 (mB (eU bU cs 0 n) ⟨x,y,z,hx,hy,hz⟩ 6) (fD _ _ _),.wid 3510 (mB (eU bU cs 0 n) ⟨x,y,z,hx,hy,hz⟩ 7) (fD _ _ _),.wid 3510 (mB (eU bU cs 0 n) ⟨x,y,z,hx,hy,hz⟩ 8) (fD _ _ _),.wid 3510 (mB (eU bU cs 0 n) ⟨x,y,z,hx,hy,hz⟩ 9) (fD _ _ _)])
  |_=>none)
 |_,_=>none
def a5H:CY prog 146 a1s:=by
 refine⟨Km.1,λr s p v j=> ?_⟩;unfold a1s at j;split at j;rename_i I b E n c h x g y f z i;split at j;rename_i t L N M H;cases j;refine⟨ff,λG d w F=> ?_⟩;obtain⟨rfl,m,A,rfl,rfl⟩:=G _ rfl;have D:uE [.c (.sli I b 0 (ln A) c h),.agg [.int x g,.int y f,.int z i]] s=some (none,.agg (Qe A ⟨x,y,z,g,f,i⟩ m)):=by unfold uE;simp only[H,<-lH,Cy];rw[dif_pos ⟨trivial,m⟩]
 have o:=(Km.2 _ s _ _ D).2 (λq J=>by cases J) d w F;have e: ∀k:Fin 10,mB (eU bU (bG bU A) 0 (ln A)) ⟨x,y,z,g,f,i⟩ k=yq A ⟨x,y,z,g,f,i⟩ k.val:=λk=>by rw[m7 pX];exact if_pos m
 have B: ∀d:fF,(SV.agg (Qe A ⟨x,y,z,g,f,i⟩ m)).den d=(SV.agg [.wid 3510 (mB (eU bU (bG bU A) 0 (ln A)) ⟨x,y,z,g,f,i⟩ 0) (fD _ _ _),.wid 3510 (mB (eU bU (bG bU A) 0 (ln A)) ⟨x,y,z,g,f,i⟩ 1) (fD _ _ _),.wid 3510 (mB (eU bU (bG bU A) 0 (ln A)) ⟨x,y,z,g,f,i⟩ 2) (fD _ _ _),.wid 3510 (mB (eU bU (bG bU A) 0 (ln A)) ⟨x,y,z,g,f,i⟩ 3) (fD _ _ _),.wid 3510 (mB (eU bU (bG bU A) 0 (ln A)) ⟨x,y,z,g,f,i⟩ 4) (fD _ _ _),.wid 3510 (mB (eU bU (bG bU A) 0 (ln A)) ⟨x,y,z,g,f,i⟩ 5) (fD _ _ _),.wid 3510 (mB (eU bU (bG bU A) 0 (ln A)) ⟨x,y,z,g,f,i⟩ 6) (fD _ _ _),.wid 3510 (mB (eU bU (bG bU A) 0 (ln A)) ⟨x,y,z,g,f,i⟩ 7) (fD _ _ _),.wid 3510 (mB (eU bU (bG bU A) 0 (ln A)) ⟨x,y,z,g,f,i⟩ 8) (fD _ _ _),.wid 3510 (mB (eU bU (bG bU A) 0 (ln A)) ⟨x,y,z,g,f,i⟩ 9) (fD _ _ _)]).den d:=λd=>by refine rD (aW (cW ?_ d) (aW (cW ?_ d) (aW (cW ?_ d) (aW (cW ?_ d) (aW (cW ?_ d) (aW (cW ?_ d) (aW (cW ?_ d) (aW (cW ?_ d) (aW (cW ?_ d) (aW (cW ?_ d) rfl))))))))));exact(e 0).symm;exact(e 1).symm;exact(e 2).symm;exact(e 3).symm;exact(e 4).symm;exact(e 5).symm;exact(e 6).symm;exact(e 7).symm;exact(e 8).symm;exact(e 9).symm
 rw[B d] at o;exact o;cases j;cases j
structure MV where
 f:PT
 t:PT
def mvC (a:MV):List C:=[.int a.f.x a.f.hx,.int a.f.y a.f.hy,.int a.f.z a.f.hz,.int a.t.x a.t.hx,.int a.t.y a.t.hy,.int a.t.z a.t.hz]
def xZ:RW MV:=⟨mvC,6,fr,λ_ _ _=>rfl,fr⟩
def uD {B} (h: ∀t∈B,∃s∈A,jC s=t) {p} (hp:p∈cor B):p∈cor A:=by obtain⟨t,f,d⟩:=gU.1 hp;obtain⟨s,g,rfl⟩:=h t f;refine gU.2 ⟨s,g,?_⟩;unfold pk at*;simp only[br,cd,or_false] at*;rcases MG s with e|e|e<;>rw[e] at d;exact d;rcases d with d|d|d;exact .inr (.inl d);exact .inr (.inr d);exact .inl d;rcases d with d|d|d;exact .inr (.inr d);exact .inl d;exact .inr (.inl d)
def Rq {v p} (hv:v∈cor A) (hp:p∈cor (qz A u v)):p∈cor A:=by
 obtain⟨t,e,d⟩:=gU.1 hp;obtain⟨s,f,rfl⟩:=Rp e
 have m: ∀x,x∈pk s->qW x u v∈cor A:=λx g=>by
  unfold qW
  cases eN x u with
  |true=>exact hv
  |false=>exact gU.2 ⟨s,f,g⟩
 have d:p∈[qW s.a u v,qW s.b u v,qW s.c u v]:=d;simp only[br,cd,or_false] at d;rcases d with rfl|rfl|rfl;exact m _ (by unfold pk;simp);exact m _ (by unfold pk;simp);exact m _ (by unfold pk;simp)
def XM {v} (h:Il A u v): ∃s∈A,JU (jO s u v)=false:=by obtain⟨d,s,i,f,e⟩:=h;refine⟨s,i,?_⟩;have g:eN u u=true:=(jV _ _).2 rfl;have j:eN v v=true:=(jV _ _).2 rfl;have m:qW u u v=v:=lm g;have mv:qW v u v=v:=lj d;obtain⟨a,b,c⟩:=s;unfold Bf at f e;simp only[dY,jV] at f e;unfold JU jO;rcases f with rfl|rfl|rfl<;>rcases e with rfl|rfl|rfl;all_goals first|(rw[g] at d;cases d)|(simp only[m,mv,j];simp)
def a30 {q:Fin 10->Int} (h: ∀i,Sm 3510 (q i)): ∀i,Sm 200000 (q i):=λi=>(h i).mono dc
def siC:List (FuncId×cP):=[(73,vO),(125,a0S),(145,uu),(147,K9),(148,Zg),(149,Zo),(150,QT)]
def a2V:iL prog siC:= .cons rL<| .cons Rv<| .cons vR<| .cons IU<| .cons a1c<| .cons a1k<| .cons Rw .nil
noncomputable def a5q:List (FuncId×Dr):=[(173,yL),(151,Lw),(146,a1s)]
def X5:nN a5q:= .cons E0<| .cons Ul<| .cons a5H .nil
noncomputable def a4n (un:Nat):ic:=p7 (Gr un) a5q
def Gu un:iU prog (a4n un):=jM (uJ un) X5
structure A8 (O:List TR) (P:List PT) (l:List TR) (c:List CN) (im:List PT):Prop where
 len:ln l<=ln O
 sub: ∀p,p∈cor l->p∈cor O
 pts:c.map CN.p=P
 sm: ∀x∈c,∀i,Sm (3510+(ln O-ln l)) (x.q i)
 tl:ln im=ln P
 tm: ∀p∈im,p∈cor O
def A8.cov {l c} (h:A8 O P l c im) (e: ∀q,q∈P↔q∈cor O): ∀p,p∈cor l-> ∃x∈c,x.p=p:=λp d=>by have:=(e p).2 (h.sub p d);rw[<-h.pts,bD] at this;exact this
def pQ {l c} (h:A8 O P l c im) (e:ln O<=100000) {a b} (d:a∈c) (hb:b∈c): ∀i,Sm 200000 (a.q i+b.q i):=λi=>((h.sm a d i).add (h.sm b hb i)).mono om
def A8.step {l f c d} (h:A8 O P l c im) {v} (z:Il l u v) (hl:ln f=(qz l u v).length) (hm: ∀t∈f,∃s∈qz l u v,jC s=t) (hk:k<ln c) {x} (hx:x.p=c[k].p) (hs: ∀i,Sm (3510+(ln O-ln l)+1) (x.q i)) (D:ln d=ln im) (g: ∀p∈d,p∈cor O):A8 O P f (c.set k x) d/\ln f<ln l:=by
 obtain⟨s,o,m⟩:=XM z;have j:ln f<ln l:=by rw[hl];exact V0 o m
 have B:=h.len;refine⟨⟨om,λp E=>h.sub p (Rq (zS z).2 (uD hm E)),?_,λy F i=> ?_,D.trans h.tl,g⟩,j⟩;rw[<-h.pts,List.map_set,hx];refine jg sp λi r G=> ?_;by_cases e:i=k;subst e;simp;rw[List.getElem_set_ne (Ne.symm e)];rcases iW F with r|rfl;exact(h.sm y r i).mono om;exact(hs i).mono om
def OL.lit0 {d:Type}:OL d:=⟨[],false,0,ai _,dc,fr⟩
def qS (a b:CN):List C:=[.wid (200000+200000+1) (a.q 0+b.q 0) (cp (a.h 0) (b.h 0)),.wid (200000+200000+1) (a.q 1+b.q 1) (cp (a.h 1) (b.h 1)),.wid (200000+200000+1) (a.q 2+b.q 2) (cp (a.h 2) (b.h 2)),.wid (200000+200000+1) (a.q 3+b.q 3) (cp (a.h 3) (b.h 3)),.wid (200000+200000+1) (a.q 4+b.q 4) (cp (a.h 4) (b.h 4)),.wid (200000+200000+1) (a.q 5+b.q 5) (cp (a.h 5) (b.h 5)),.wid (200000+200000+1) (a.q 6+b.q 6) (cp (a.h 6) (b.h 6)),.wid (200000+200000+1) (a.q 7+b.q 7) (cp (a.h 7) (b.h 7)),.wid (200000+200000+1) (a.q 8+b.q 8) (cp (a.h 8) (b.h 8)),.wid (200000+200000+1) (a.q 9+b.q 9) (cp (a.h 9) (b.h 9))]
def F3 (l:List CN) (k:Nat) (p:PT) (L:List C):List C:=(bG mD (l.take k)++pC p)++(L++([]++bG mD (l.drop (k+1))))
def N0 l (hk:k<ln l) L (f:bu L=20):ga (bG mD l) (0+k*23+3) L=some (F3 l k l[k].p L):=by
 have e:=km mD hk;have s:bu (bG mD (l.take k)++pC l[k].p)=0+k*23+3:=by rw[cw,fx mD (bw hk)];show k*23+3=_;omega
 have d:bG mD l=(bG mD (l.take k)++pC l[k].p)++(qC l[k]++([]++bG mD (l.drop (k+1)))):=by rw[e,show mD.c l[k]=pC l[k].p++qC l[k] from rfl];simp only[aJ,ge]
 rw[d,<-s];exact jt _ (qC l[k]) _ L f
def IW l k p a b:cC (F3 l k p (qS a b)):=cJ (cJ (ab mD _) ff) (cJ ff (ab mD _))
def F4 l (hk:k<ln l) a b x (hp:x.p=l[k].p) (d: ∀i,x.q i=a.q i+b.q i) ρ:af ρ (F3 l k l[k].p (qS a b))=af ρ (bG mD (l.set k x)):=by obtain⟨p,q,h⟩:=x;obtain rfl:p=l[k].p:=hp;obtain rfl:q=λi=>a.q i+b.q i:=funext d;rw[cZ,if_pos hk,en];unfold F3;rw[aJ,bp,bp ρ (bG mD (l.take k)) (bG mD (_::_))];congr 1
def a4O {nl cap} (e:ln im=ln P) (h:bZ nl (ln P) cap) (hk:k<=ln im):IR (k:Int):=aR h om
def Zq:cP:=λd e K=> ∃g A c h t w hw,d=[.c (.sli g 0 0 (ln A) c h),.c (.int w hw)]/\e=[⟨.t t,true,bG bU A,0⟩]/\ln A<=100000/\
 ∀(o:OL TR) (m:OL MV),ln o.l<=ln A->(∀p,p∈cor o.l->p∈cor A)->ln m.l<=300000->(∀x∈m.l,x.f∈cor A/\x.t∈cor A)->K (.tup [o.t 1,m.t 2]) [o.blk bU 58,m.blk xZ 192]
def a1m:jv prog 124 Zq:=cV (Gu 0) bj (dX a2V (ck (Gu 0) bj bg 0)) ⟨func124,kr,kr⟩ λc5 d4 K hc=>by
 obtain⟨nl,A,c,h,t,w,hw,rfl,rfl,b3,hc⟩:=hc;have V:cC (bG bU A):=ab bU A;refine⟨zD,?_⟩;refine⟨⟨V,trivial⟩,nl,0,A,c,h,_,_,rfl,rfl,⟨V,mj.self bU A⟩,b3,λE k1 m1=> ?_⟩;conv=>whnf
 have M:ln E.l<=100000:=om;refine⟨⟨ab bU _,trivial⟩,E.nl,ln E.l,E.cap,E.ok,_,E.l,rfl,(congrArg (λx=>[(⟨.t 58,true,x,0⟩:aY)]) (lH E.l).symm),rfl,om,λe he=> ?_⟩;refine zB ?_ ?_<;>intro d7;exact zO [0,1,1000+ 192] [0,1] (v3:=.tup [E.t 1,OL.none.t 2]) (hc E OL.none om (λp V=>uD m1 V) (ah _) (λx hx=>by cases hx));refine⟨⟨ab bU _,trivial⟩,E.nl,ln E.l,E.cap,E.ok,_,E.l,rfl,(congrArg (λx=>[(⟨.t 58,true,x,0⟩:aY)]) (lH E.l).symm),rfl,om,λd sc mc lc=> ?_⟩;conv=>whnf
 refine zK [0,1,2,1000+ 219] [0,1,6,7,8] [0,1,2,3] (G:={q:Nat×OL CN//q.1<=ln d.l/\q.2.l.map CN.p=d.l.take q.1/\ ∀c∈q.2.l,∀i,Sm 3510 (c.q i)}) (λg=>[(0,E.sl 1),(1,.c (.int w hw)),(6,g.1.2.sl 3),(7,d.sl 2),(8,.c (.int (g.1.1:Nat) (aR d.ok g.2.1)))]) (λg=>[(0,⟨.t t,true,bG bU A,0⟩),(1,E.blk bU 58),(2,d.blk),(3,g.1.2.blk mD 219)]) (λg=>ln d.l-g.1.1) ⟨(0,OL.none),ah _,rfl,(λc hc=>by cases hc)⟩ trivial ?_;rintro ⟨⟨k,o⟩,X,hn,hs⟩ vs2;have X:k<=ln d.l:=X;have hn:o.l.map CN.p=d.l.take k:=hn;have hs: ∀c∈o.l,∀i,Sm 3510 (c.q i):=hs;have d9:ln o.l=k:=by have:=congrArg ln hn;rw[bO,aO] at this;omega
 dsimp only;refine zB ?_ ?_<;>intro b7;have H:k<ln d.l:=dL b7;have a9:IR (k:Int):=aR d.ok X;refine p6 ?_;conv=>arg 2;tactic'=>exact ap rfl rfl rfl rfl (by exact(by rw[aN];exact ib d.l H:dk (fm d.l) (0+k*3) 3=some (mK d.l[k]))) rfl
 refine p6 ?_;conv=>arg 2;tactic'=>exact ap rfl rfl rfl rfl (by exact(by rw[aN];exact ib d.l H:dk (fm d.l) (0+k*3) 3=some (mK d.l[k]))) rfl
 refine⟨⟨rfl,om,E.l,rfl,rfl⟩,?_⟩;refine iT ?_;exact⟨rfl,o.app mD 219 (m:=1) (by show(ln o.l+1)*23<=5000000000000;omega),λc9 k9=> dD [0,1,2,5] ⟨(k+1,o.push [(⟨d.l[k],λi=>mB (eU bU (bG bU E.l) 0 (ln E.l)) d.l[k] i,a30 (λi=>fD _ _ _)⟩:CN)] rfl c9 k9),H,(by show(o.l++[_]).map CN.p=_;rw[List.map_append,hn,eG,ae H];rfl),(λc hc=>dH (p:=λc:CN=> ∀i,Sm 3510 (c.q i)) hs (λi=>fD _ _ _) hc)⟩⟩;have c0:ln d.l<=k:=gi b7;obtain rfl:k=ln d.l:=bo X c0;rw[bP] at hn;refine⟨⟨ab bU _,trivial⟩,E.nl,E.l,E.cap,E.ok,_,rfl,rfl,M,λob kb=> ?_⟩;refine iT ?_;conv=>whnf
 rw[show dk d.blk.cs 0 (ln d.l*3)=some (bG fp d.l) from by show dk (fm d.l) 0 _=_;rw[Mx];exact gQ fp d.l];refine⟨fZ fp _,(OL.lit0:OL PT).app fp 33 (m:=ln d.l) (by show(0+ln d.l)*3<=17592186044416;omega),λc9 k9=> ?_⟩;conv=>whnf
 have a6:A8 E.l d.l E.l o.l ([]++d.l):=⟨ai _,λ_ h=>h,hn,λx hx i=>(hs x hx i).mono (a8X _ _),rfl,λp V=>(mc p).1 V⟩;refine zK [0,1,2,3,4,6] [0,1,6,7,9,10] [0,1,2,3,4,5] (G:={g:OL TR×OL CN×OL PT//A8 E.l d.l g.1.l g.2.1.l g.2.2.l}) (λg=>[(0,g.1.1.sl 1),(1,.c (.int w hw)),(6,g.1.2.1.sl 3),(7,d.sl 2),(9,ob.sl 4),(10,g.1.2.2.sl 5)]) (λg=>[(0,⟨.t t,true,bG bU A,0⟩),(1,g.1.1.blk bU 58),(2,d.blk),(3,g.1.2.1.blk mD 219),(4,ob.blk fp 33),(5,g.1.2.2.blk fp 33)]) (λg=>ln g.1.1.l) ⟨(E,o,(OL.lit0:OL PT).push d.l (n:=ln d.l) rfl c9 k9),a6⟩ (zA ((OL.lit0:OL PT).push_sl (n:=ln d.l) d.l rfl c9 k9 5) (pc ((OL.lit0:OL PT).push_blk fp 33 (n:=ln d.l) d.l rfl c9 k9 fr))) ?_;rintro ⟨⟨l,c,im⟩,Z⟩ vs5;have Z:A8 E.l d.l l.l c.l im.l:=Z;have a8:ln l.l<=100000:=aC Z.len M;dsimp only;refine zB ?_ ?_<;>intro d8;refine⟨⟨ab bU _,ab mD _,ab fp _,trivial⟩,l.nl,l.l,l.cap,l.ok,c.nl,c.l,c.cap,c.ok,ob.nl,ob.l,ob.cap,ob.ok,_,_,_,rfl,rfl,a8,Z.cov mc,λB ka=> ?_⟩;conv=>whnf
 refine zK [0,1,2,3,4,5,6] [0,1,6,7,9,10,11,12,13] [0,1,2,3,4,5,6] (G:={g:Bool×Nat×OL TR×OL CN×OL PT//g.2.1<=ln B.l/\A8 E.l d.l g.2.2.1.l g.2.2.2.1.l g.2.2.2.2.l/\ln g.2.2.1.l<=ln l.l/\(g.1=true->ln g.2.2.1.l<ln l.l)}) (λg=>[(0,g.1.2.2.1.sl 1),(1,.c (.int w hw)),(6,g.1.2.2.2.1.sl 3),(7,d.sl 2),(9,ob.sl 4),(10,g.1.2.2.2.2.sl 5),(11,B.sl 6),(12,.c (.val (.bool g.1.1))),(13,.c (.int (g.1.2.1:Nat) (aR B.ok g.2.1)))]) (λg=>[(0,⟨.t t,true,bG bU A,0⟩),(1,g.1.2.2.1.blk bU 58),(2,d.blk),(3,g.1.2.2.2.1.blk mD 219),(4,ob.blk fp 33),(5,g.1.2.2.2.2.blk fp 33),(6,B.blk IM 223)]) (λg=>ln B.l-g.1.2.1) ⟨(false,0,l,c,im),ah _,Z,ai _,(λh=>by cases h)⟩ trivial ?_;rintro ⟨⟨md,k,N,s,J⟩,X,D,L,a1⟩ vs7;have X:k<=ln B.l:=X;have D:A8 E.l d.l N.l s.l J.l:=D;have L:ln N.l<=ln l.l:=L;have a1:md=true->ln N.l<ln l.l:=a1;have R:ln N.l<=100000:=aC D.len M;dsimp only;refine zB ?_ ?_<;>intro h4;refine zB ?_ ?_<;>intro a4;have H:k<ln B.l:=dL h4;have a9:IR (k:Int):=aR B.ok X;refine wM ?_;refine⟨ff,ff,⟨ab bU _,trivial⟩,N.nl,N.l,N.cap,N.ok,_,B.l[k].u,B.l[k].v,rfl,rfl,R,λbm c1=> ?_⟩;refine zB ?_ ?_<;>intro Q;have Q:(!bm)=true:=Q;exact dD [0,1,2,3,4,5,6] ⟨(bm,k+1,N,s,J),H,D,L,(λh=>by have h:bm=true:=h;rw[h] at Q;cases Q)⟩;have Q:(!bm)=false:=Q;obtain rfl:bm=true:=by simpa using Q
 have a5:=c1 rfl;refine⟨ff,ff,⟨ab bU _,trivial⟩,N.nl,0,N.l,N.cap,N.ok,_,_,B.l[k].u,B.l[k].v,rfl,rfl,⟨ab bU _,mj.self bU N.l⟩,R,λol kl ml=>⟨⟨ab mD _,s.l,rfl,mj.self mD s.l⟩,?_⟩⟩;obtain⟨z,y,b5,c7⟩:=xV (A:=s.l) (p:=B.l[k].v) (aR s.ok (ai _)) (D.cov mc _ (zS a5).2);have b8:IR (z:Int):=aR s.ok (bw y);have c8:(kh (eU mD (bG mD s.l) 0 (ln s.l)) B.l[k].v).1=(z:Int):=by rw[m7 uB s.l];exact b5
 refine⟨⟨ab mD _,s.l,rfl,mj.self mD s.l⟩,?_⟩;obtain⟨T,F,b9,d5⟩:=xV (A:=s.l) (p:=B.l[k].u) (aR s.ok (ai _)) (D.cov mc _ (zS a5).1);have d1:IR (T:Int):=aR s.ok (bw F);have d6:(kh (eU mD (bG mD s.l) 0 (ln s.l)) B.l[k].u).1=(T:Int):=by rw[m7 uB s.l];exact b9
 refine p6 ?_;conv=>arg 2;tactic'=>exact ap rfl rfl rfl rfl ((mj.self mD s.l).part F 3 20 (r:=qC s.l[T]) rfl) rfl
 refine p6 ?_;conv=>arg 2;tactic'=>exact ap rfl rfl rfl rfl ((mj.self mD s.l).part y 3 20 (r:=qC s.l[z]) rfl) rfl
 refine p6 ?_;conv=>arg 2;tactic'=>exact bM (l:=(qS s.l[T] s.l[z])) (cs:=F3 s.l z s.l[z].p (qS s.l[T] s.l[z])) rfl rfl rfl rfl (⟨rfl,rfl⟩) rfl (s.nlf (em (ah _) y)) (N0 s.l y _ rfl)
 conv=>whnf
 rw[bV];conv=>whnf
 refine zK [0,9,2,3,4,5,6,7,8] [0,1,6,7,9,10,11,12,13,14,15,17] [0,1,2,3,4,5,6] (G:={q:Nat×OL PT//q.1<=ln J.l/\ln q.2.l=ln J.l/\ ∀p∈q.2.l,p∈cor E.l}) (λg=>[(0,ol.sl 1),(1,.c (.int w hw)),(6,(s.put z (⟨s.l[z].p,λi=>s.l[T].q i+s.l[z].q i,pQ D M (ak F) (ak y)⟩:CN)).sl 3),(7,d.sl 2),(9,ob.sl 4),(10,g.1.2.sl 5),(11,B.sl 6),(12,.c (.val (.bool true))),(13,.c (.int (k:Nat) a9)),(14,.c (.ptr 7 0)),(15,.c (.ptr 8 0)),(17,.c (.int (g.1.1:Nat) (a4O D.tl d.ok g.2.1)))]) (λg=>[(0,⟨.t t,true,bG bU A,0⟩),(1,ol.blk bU 58),(2,d.blk),(3,(s.put z (⟨s.l[z].p,λi=>s.l[T].q i+s.l[z].q i,pQ D M (ak F) (ak y)⟩:CN)).blk mD 219),(4,ob.blk fp 33),(5,g.1.2.blk fp 33),(6,B.blk IM 223),(7,(⟨.t 33,false,pC B.l[k].u,0⟩:aY)),(8,(⟨.t 33,false,pC B.l[k].v,0⟩:aY))]) (λg=>ln J.l-g.1.1) ⟨(0,J),ah _,rfl,D.tm⟩ trivial ?_ (hent:=λ_ d2=>⟨V,ab bU _,d.new.1,IW _ _ _ _ _,ab fp _,ab fp _,ab IM _,(by(iterate 6 refine⟨fr,?_⟩);refine⟨λρ=>s.put_sl z (⟨s.l[z].p,λi=>s.l[T].q i+s.l[z].q i,pQ D M (ak F) (ak y)⟩:CN) 3 ρ,?_⟩;(iterate 11 refine⟨fr,?_⟩);exact gm _),(by(iterate 3 refine⟨⟨rfl,rfl,rfl,fr⟩,?_⟩);refine⟨⟨rfl,rfl,s.put_tl z (⟨s.l[z].p,λi=>s.l[T].q i+s.l[z].q i,pQ D M (ak F) (ak y)⟩:CN) mD 219,λρ=>F4 s.l y s.l[T] s.l[z] (⟨s.l[z].p,λi=>s.l[T].q i+s.l[z].q i,pQ D M (ak F) (ak y)⟩:CN) rfl fr ρ⟩,?_⟩;(iterate 5 refine⟨⟨rfl,rfl,rfl,fr⟩,?_⟩);exact trivial)⟩);rintro ⟨⟨j,I⟩,hj,U,a0⟩ vs61;have hj:j<=ln J.l:=hj;have U:ln I.l=ln J.l:=U;have a0: ∀p∈I.l,p∈cor E.l:=a0;dsimp only;refine zB ?_ ?_<;>intro h6;have a2:j<ln I.l:=dL h6;have b6:j<ln J.l:=by rw[<-U];exact a2
 have e0:IR (j:Int):=aR I.ok (bw a2);refine eS ?_;refine zB ?_ ?_<;>intro d3;refine p6 ?_;conv=>arg 2;tactic'=>exact bM (l:=pC B.l[k].v) (cs:=bG fp (I.l.set j B.l[k].v)) rfl rfl rfl rfl (⟨rfl,rfl⟩) rfl (I.nlf (em (ah _) a2)) (iH fp I.l a2 B.l[k].v)
 conv=>whnf
 rw[bV];conv=>whnf
 exact nq [0,1,2,3,4,5,6,7,8] ⟨(j+1,I.put j B.l[k].v),b6,(by show(I.l.set j _).length=_;rw[aZ];exact U),(λp V=>(iW V).elim (a0 p) (λe=>e▸D.sub _ (zS a5).2))⟩ (zA (I.put_sl j B.l[k].v 5) (pc (I.put_tl j B.l[k].v fp 33)));exact dD [0,1,2,3,4,5,6,7,8] ⟨(j+1,I),b6,U,a0⟩;have a7:=A8.step D a5 kl ml y (x:=(⟨s.l[z].p,λi=>s.l[T].q i+s.l[z].q i,pQ D M (ak F) (ak y)⟩:CN)) rfl (λi=>(D.sm _ (ak F) i).add (D.sm _ (ak y) i)) U a0;exact dD [0,1,2,3,4,5,6] ⟨(true,k+1,ol,(s.put z (⟨s.l[z].p,λi=>s.l[T].q i+s.l[z].q i,pQ D M (ak F) (ak y)⟩:CN)),I),H,a7.1,bw (dh a7.2 L),(λ_=>dh a7.2 L)⟩;have a4:(!md)=false:=a4;refine zB ?_ ?_<;>intro Y;exact Bool.noConfusion (Y.symm.trans a4);exact dD [0,1,2,3,4,5] ⟨(N,s,J),D⟩ (hm:=(a1 (by simpa using a4))) (h:=λc6=>⟨V,ab bU _,d.new.1,ab mD _,ab fp _,ab fp _,gm _,(by(iterate 6 refine⟨⟨rfl,rfl,rfl,fr⟩,?_⟩);exact trivial)⟩);refine zB ?_ ?_<;>intro Y;conv=>whnf
 clear Z a8;obtain⟨Z,a8⟩:A8 E.l d.l N.l s.l J.l/\ln N.l<=100000:=⟨D,R⟩;clear D R a1;obtain⟨l,rfl⟩: ∃x,x=N:=⟨_,rfl⟩;obtain⟨im,rfl⟩: ∃x,x=J:=⟨_,rfl⟩
 iterate 2
  try
   have Y:(!md)=false:=Y
   exact dD [0,1,2,3,4,5] ⟨(N,s,J),D⟩ (hm:=(a1 (by simpa using Y))) (h:=λd0=>⟨V,ab bU _,d.new.1,ab mD _,ab fp _,ab fp _,gm _,(by(iterate 6 refine⟨⟨rfl,rfl,rfl,fr⟩,?_⟩);exact trivial)⟩)
   conv=>whnf
  refine zK [0,1,2,5,1000+ 192] [0,7,10,18,19] [0,1,2,3,4] (G:={q:Nat×OL MV//q.1<=ln d.l/\ln q.2.l<=q.1/\ ∀x∈q.2.l,x.f∈cor E.l/\x.t∈cor E.l}) (λg=>[(0,l.sl 1),(7,d.sl 2),(10,im.sl 3),(18,g.1.2.sl 4),(19,.c (.int (g.1.1:Nat) (aR d.ok g.2.1)))]) (λg=>[(0,⟨.t t,true,bG bU A,0⟩),(1,l.blk bU 58),(2,d.blk),(3,im.blk fp 33),(4,g.1.2.blk xZ 192)]) (λg=>ln d.l-g.1.1) ⟨(0,OL.none),ah _,ai _,(λx hx=>by cases hx)⟩ trivial ?_
  rintro ⟨⟨k,o⟩,X,b2,W⟩ vs81
  have X:k<=ln d.l:=X
  have b2:ln o.l<=k:=b2
  have W: ∀x∈o.l,x.f∈cor E.l/\x.t∈cor E.l:=W
  dsimp only
  refine zB ?_ ?_<;>intro c2
  have H:k<ln d.l:=dL c2
  have a9:IR (k:Int):=aR d.ok X
  have c3:k<ln im.l:=by rw[Z.tl];exact H
  refine zG3 ?_
  conv=>arg 2;tactic'=>exact ap rfl rfl rfl rfl (by exact(by rw[aN];exact ib d.l H:dk (fm d.l) (0+k*3) 3=some (mK d.l[k]))) rfl
  refine zB ?_ ?_<;>intro e1
  refine p6 ?_
  conv=>arg 2;tactic'=>exact ap rfl rfl rfl rfl (by exact(by rw[aN];exact ib d.l H:dk (fm d.l) (0+k*3) 3=some (mK d.l[k]))) rfl
  refine eS ?_
  exact .inl ⟨rfl,o.app xZ 192 (m:=1) (by show(ln o.l+1)*6<=5000000000000;omega),λc9 k9=> dD [0,1,2,3,6] ⟨(k+1,o.push [(⟨d.l[k],im.l[k]⟩:MV)] rfl c9 k9),H,(by show(o.l++[_]).length<=k+1;rw[aa];show (ln o.l)+1<=k+1;omega),(λx hx=>dH (p:=λx:MV=>x.f∈cor E.l/\x.t∈cor E.l) W ⟨(mc _).1 (ak H),Z.tm _ (ak c3)⟩ hx)⟩⟩
  exact dD [0,1,2,3,4] ⟨(k+1,o),H,(by show (ln o.l)<=k+1;omega),W⟩
  exact zO [0,1,4] [0,1,2] (hc l o (aC Z.len om) (λp V=>uD m1 (Z.sub p V)) om (λx hx=>⟨by have:=(W x hx).1;exact uD m1 this,by have:=(W x hx).2;exact uD m1 this⟩))
end
section
variable {A:List TR} {p:PT} {k:Nat}
def QY:cP:=λd e K=> ∃n M c h t p,d=[.c (.sli n 0 0 (ln M) c h),.agg (pC p)]/\e=[⟨.t t,true,bG xZ M,0⟩]/\ ∀q:PT,K (.agg (pC q)) []
def Wi:jv prog 161 QY:=cV (dK 0) bj (ck (dK 0) bj bg 0) ⟨func161,kr,kr⟩ λm o K d=>by
 obtain⟨n,M,c,h,t,p,rfl,rfl,d⟩:=d;refine⟨zD,?_⟩;conv=>whnf
 refine zK [0,1,2] [0,3,4,5] [0] (G:={k:Nat//k<=ln M}) (λg=>[(5,.c (.int (g.1:Nat) (aR h g.2)))]) (λ_=>[]) (λg=>ln M-g.1) ⟨0,ah _⟩ trivial ?_;rintro ⟨k,f⟩ vs2;have f:k<=ln M:=f;dsimp only;refine zB ?_ ?_<;>intro j;have i:k<ln M:=dL j;refine eS ?_;refine zB ?_ ?_<;>intro e;refine eS ?_;exact zO [0] [0] (d _);exact dD [0,1,2] ⟨k+1,i⟩;exact zO [0] [0] (d _)
def Kv (p:PT) (t:TR):Bool:=eN t.a p||(eN t.b p||eN t.c p)
def pA (A:List TR) (p:PT):Bool:=A.any (Kv p)
def SD (hk:k<ln A) (h:pA (A.take k) p=false) (e:Kv p A[k]=false):pA (A.take (k+1)) p=false:=by unfold pA at*;rw[<-List.take_append_getElem hk,List.any_append,h];simp[e]
def D5 (hk:k<ln A) (e:Kv p A[k]=true):pA A p=true:=nP.2 ⟨_,ak hk,e⟩
def a6X:cP:=λd e K=> ∃f oA A cA hA tA csA p,d=[.c (.sli f 0 oA (ln A) cA hA),.agg (pC p)]/\e=[⟨.t tA,true,csA,0⟩]/\(cC csA/\mj bU csA oA A)/\K (.c (.val (.bool (pA A p)))) []
def a32:jv prog 160 a6X:=cV (dK 0) bj (ck (dK 0) bj bg 0) ⟨func160,kr,kr⟩ λy z K o=>by
 obtain⟨H,E,A,J,s,I,D,p,rfl,rfl,⟨e,F⟩,o⟩:=o;refine⟨zD,?_⟩;conv=>whnf
 refine zK [0,1] [0,3,5] [0] (G:={k:Nat//k<=ln A/\pA (A.take k) p=false}) (λg=>[(5,.c (.int (g.1:Nat) (aR s g.2.1)))]) (λ_=>[]) (λg=>ln A-g.1) ⟨0,ah _,rfl⟩ trivial ?_;rintro ⟨k,u,r⟩ vs2;have u:k<=ln A:=u;have r:pA (A.take k) p=false:=r;dsimp only;refine zB ?_ ?_<;>intro q;have d:k<ln A:=dL q;refine eS ?_;refine zB ?_ ?_<;>intro f;have f:eN A[k].a p=true:=f;exact⟨[0],[0],λi=>⟨e,_,[],rfl,gz _,trivial,.c (.val (.bool (pA A p))),λj=>ss (D5 d (by unfold Kv;rw[f];rfl)).symm j,o⟩⟩;have f:eN A[k].a p=false:=f;refine eS ?_;refine zB ?_ ?_<;>intro h;have h:eN A[k].b p=true:=h;exact⟨[0],[0],λi=>⟨e,_,[],rfl,gz _,trivial,.c (.val (.bool (pA A p))),λj=>ss (D5 d (by unfold Kv;rw[f,h];rfl)).symm j,o⟩⟩;have h:eN A[k].b p=false:=h;refine eS ?_;refine zB ?_ ?_<;>intro m;have m:eN A[k].c p=true:=m;exact⟨[0],[0],λi=>⟨e,_,[],rfl,gz _,trivial,.c (.val (.bool (pA A p))),λj=>ss (D5 d (by unfold Kv;rw[f,h,m];rfl)).symm j,o⟩⟩;have m:eN A[k].c p=false:=m;exact dD [0,1] ⟨k+1,d,SD d r (by unfold Kv;rw[f,h,m];rfl)⟩;have x:ln A<=k:=gi q;obtain rfl:k=ln A:=bo u x;rw[bP] at r;exact⟨[0],[0],λi=>⟨e,_,[],rfl,gz _,trivial,.c (.val (.bool (pA A p))),λj=>ss (r).symm j,o⟩⟩
noncomputable def WG:Dr
 |[.c (.sli _ bA oA nA _ _),.agg [.int px hpx,.int py hpy,.int pz hpz]],hf=>(match hf bA with|some ⟨.t _,_,csA,_⟩=>some (some ((cC csA/\ ∃A:List TR,ln A=nA/\mj bU csA oA A)),.c (.val (.bool (pA (eU bU csA oA nA) (⟨px,py,pz,hpx,hpy,hpz⟩:PT)))))|_=>none)
 |_,_=>none
def a0d:CY prog 160 WG:=pS a32 λB N p v h=>by
 unfold WG at h;split at h;rename_i E J y M G z s e q d u g;split at h;rename_i D O m H r;cases h;refine⟨ff,λI=> ?_⟩;obtain⟨f,A,rfl,j⟩:=I _ rfl;refine⟨[.c (.sli E 0 y (ln A) G z),.agg (pC (⟨s,q,u,e,d,g⟩:PT))],[⟨.t D,true,m,0⟩],[J],⟨E,y,A,G,z,D,m,(⟨s,q,u,e,d,g⟩:PT),rfl,rfl,⟨f,j⟩,λF=>(congrArg (λx=>SV.den F (.c (.val (.bool (pA x (⟨s,q,u,e,d,g⟩:PT)))))) (lQ pX j).symm)⟩,⟨⟨rfl,rfl⟩,trivial⟩,⟨f,trivial⟩,λF=>rfl,λi L o=> ?_⟩
 match i,o with
 |0,o=>cases o;exact⟨_,r,rfl,f⟩
 |i+1,o=>cases o
 cases h;cases h
def vw (t:TR) (p a:PT):Nat->Bool
 |0=>eN t.a p&&eN t.b a
 |1=>eN t.b p&&eN t.c a
 |_=>eN t.c p&&eN t.a a
def R9 (t:TR) (p a:PT):Bool:=vw t p a 0||(vw t p a 1||vw t p a 2)
def oIx (A:List TR) (p a:PT):Nat:=A.findIdx λt=>R9 t p a
def kV (A:List TR) (p a:PT):{z:Int//IR z}:=if h:oIx A p a<ln A/\IR (oIx A p a:Int) then⟨oIx A p a,h.2⟩ else⟨-1,dc⟩
def Ew {a} (hk:k<ln A) (hi:IR (k:Int)) (e:R9 A[k] p a=true) (h: ∀j (hj:j<ln A),j<k->R9 A[j] p a=false):(k:Int)=(kV A p a).1:=by have:oIx A p a=k:=(List.findIdx_eq hk).2 ⟨e,λj hj=>h j om hj⟩;unfold kV;rw[dif_pos (by rw[this];exact⟨hk,hi⟩)];show(k:Int)=(oIx A p a:Int);rw[this]
def Ty {a} (h: ∀j (hj:j<ln A),j<ln A->R9 A[j] p a=false):(-1:Int)=(kV A p a).1:=by
 have:oIx A p a=ln A:=List.findIdx_eq_length.2 λx d=>by obtain⟨j,hj,rfl⟩:=List.mem_iff_getElem.1 d;exact h j hj hj
 unfold kV;rw[dif_neg (by rw[this];omega)]
def a2F {a} (h: ¬(kV A p a).1<0): ∃k,∃_:k<ln A,(kV A p a).1=(k:Int):=by unfold kV at*;split;rename_i d;exact⟨_,d.1,rfl⟩;rename_i d;rw[dif_neg d] at h;exact absurd (by decide:(-1:Int)<0) h
def WM {a} (hk:k<ln A) (g: ∀j (hj:j<ln A),j<k->R9 A[j] p a=false) (e: ∀i,i<3->vw A[k] p a i=false): ∀j (hj:j<ln A),j<k+1->R9 A[j] p a=false:=λj hj f=>by rcases cj j k with d|d;exact g j hj d;obtain rfl:j=k:=om;unfold R9;rw[e 0 dc,e 1 dc,e 2 dc];rfl
def Sa {t a i} (hi:i<3) (e:vw t p a i=true):R9 t p a=true:=by
 unfold R9
 match i,hi with
 |0,_=>rw[e];rfl
 |1,_=>rw[e];simp
 |2,_=>rw[e];simp
def oo {t a j} (h: ∀i,i<j->vw t p a i=false) (e:vw t p a j=false): ∀i,i<j+1->vw t p a i=false:=λi f=>by rcases cj i j with d|d;exact h i d;obtain rfl:i=j:=om;exact e
def a6Y:cP:=λd e K=> ∃f oA A cA hA tA csA p a,d=[.c (.sli f 0 oA (ln A) cA hA),.agg (pC p),.agg (pC a)]/\e=[⟨.t tA,true,csA,0⟩]/\(cC csA/\mj bU csA oA A)/\K (.c (.int (kV A p a).1 (kV A p a).2)) []
def a33:jv prog 183 a6Y:=cV (dK 0) bj (ck (dK 0) bj bg 0) ⟨func183,kr,kr⟩ λH I K y=>by
 obtain⟨N,L,A,P,B,O,J,p,a,rfl,rfl,⟨o,M⟩,y⟩:=y;refine⟨zD,?_⟩;conv=>whnf
 refine zK [0,1,2] [0,4,5,7] [0] (G:={k:Nat//k<=ln A/\ ∀j (E:j<ln A),j<k->R9 A[j] p a=false}) (λg=>[(7,.c (.int (g.1:Nat) (aR B g.2.1)))]) (λ_=>[]) (λg=>ln A-g.1) ⟨0,ah _,λj _ h=>absurd h (gh _)⟩ trivial ?_;rintro ⟨k,D,u⟩ vs2;have D:k<=ln A:=D;have u: ∀j (E:j<ln A),j<k->R9 A[j] p a=false:=u;dsimp only;refine zB ?_ ?_<;>intro z;have m:k<ln A:=dL z;have s:IR (k:Int):=aR B D;conv=>whnf
 refine zK [0,1,2] [0,4,5,7,8] [0] (G:={j:Nat//j<=3/\ ∀i,i<j->vw A[k] p a i=false}) (λg=>[(8,.c (.int (g.1:Nat) (SQ g.2.1)))]) (λ_=>[]) (λg=>3-g.1) ⟨0,ah _,λi h=>absurd h (gh _)⟩ trivial ?_;rintro ⟨j,E,f⟩ vs4;have E:j<=3:=E;have f: ∀i,i<j->vw A[k] p a i=false:=f;dsimp only;have r:j=3\/j=0\/j=1\/j=2:=om;rcases r with rfl|rfl|rfl|rfl;exact dD [0,1,2] ⟨k+1,m,WM m u f⟩;refine eS ?_;refine zB ?_ ?_<;>intro d;have d:eN A[k].a p=true:=d;refine eS ?_;refine zB ?_ ?_<;>intro e;have e:eN A[k].b a=true:=e;exact⟨[0],[0],λx=>⟨o,_,[],rfl,gz _,trivial,.c (.int (kV A p a).1 (kV A p a).2),λq=>kM (Ew m s (Sa (i:=0) dc (show vw A[k] p a 0=true by unfold vw;rw[d,e];rfl)) u) q,y⟩⟩;have e:eN A[k].b a=false:=e;exact dD [0,1,2] ⟨1,dc,oo f (show vw A[k] p a 0=false by unfold vw;rw[d,e];rfl)⟩;have d:eN A[k].a p=false:=d;exact dD [0,1,2] ⟨1,dc,oo f (show vw A[k] p a 0=false by unfold vw;rw[d];rfl)⟩;refine eS ?_;refine zB ?_ ?_<;>intro d;have d:eN A[k].b p=true:=d;refine eS ?_;refine zB ?_ ?_<;>intro e;have e:eN A[k].c a=true:=e;exact⟨[0],[0],λx=>⟨o,_,[],rfl,gz _,trivial,.c (.int (kV A p a).1 (kV A p a).2),λq=>kM (Ew m s (Sa (i:=1) dc (show vw A[k] p a 1=true by unfold vw;rw[d,e];rfl)) u) q,y⟩⟩;have e:eN A[k].c a=false:=e;exact dD [0,1,2] ⟨2,dc,oo f (show vw A[k] p a 1=false by unfold vw;rw[d,e];rfl)⟩;have d:eN A[k].b p=false:=d;exact dD [0,1,2] ⟨2,dc,oo f (show vw A[k] p a 1=false by unfold vw;rw[d];rfl)⟩;refine eS ?_;refine zB ?_ ?_<;>intro d;have d:eN A[k].c p=true:=d;refine eS ?_;refine zB ?_ ?_<;>intro e;have e:eN A[k].a a=true:=e;exact⟨[0],[0],λx=>⟨o,_,[],rfl,gz _,trivial,.c (.int (kV A p a).1 (kV A p a).2),λq=>kM (Ew m s (Sa (i:=2) dc (show vw A[k] p a 2=true by unfold vw;rw[d,e];rfl)) u) q,y⟩⟩;have e:eN A[k].a a=false:=e;exact dD [0,1,2] ⟨3,dc,oo f (show vw A[k] p a 2=false by unfold vw;rw[d,e];rfl)⟩;have d:eN A[k].c p=false:=d;exact dD [0,1,2] ⟨3,dc,oo f (show vw A[k] p a 2=false by unfold vw;rw[d];rfl)⟩;have F:ln A<=k:=gi z;obtain rfl:k=ln A:=bo D F;exact⟨[0],[0],λx=>⟨o,_,[],rfl,gz _,trivial,.c (.int (kV A p a).1 (kV A p a).2),λq=>kM (Ty u) q,y⟩⟩
noncomputable def a1A:Dr
 |[.c (.sli _ bA oA nA _ _),.agg [.int px hpx,.int py hpy,.int pz hpz],.agg [.int ax hax,.int ay hay,.int az haz]],hf=>(match hf bA with|some ⟨.t _,_,csA,_⟩=>some (some ((cC csA/\ ∃A:List TR,ln A=nA/\mj bU csA oA A)),.c (.int (kV (eU bU csA oA nA) (⟨px,py,pz,hpx,hpy,hpz⟩:PT) (⟨ax,ay,az,hax,hay,haz⟩:PT)).1 (kV (eU bU csA oA nA) (⟨px,py,pz,hpx,hpy,hpz⟩:PT) (⟨ax,ay,az,hax,hay,haz⟩:PT)).2))|_=>none)
 |_,_=>none
def a5P:CY prog 183 a1A:=pS a33 λI U p v o=>by
 unfold a1A at o;split at o;rename_i L Q G T N H D f z e E h x d y j B g;split at o;rename_i J V r O F;cases o;refine⟨ff,λP=> ?_⟩;obtain⟨m,A,rfl,q⟩:=P _ rfl;refine⟨[.c (.sli L 0 G (ln A) N H),.agg (pC (⟨D,z,E,f,e,h⟩:PT)),.agg (pC (⟨x,y,B,d,j,g⟩:PT))],[⟨.t J,true,r,0⟩],[Q],⟨L,G,A,N,H,J,r,(⟨D,z,E,f,e,h⟩:PT),(⟨x,y,B,d,j,g⟩:PT),rfl,rfl,⟨m,q⟩,λM=>(congrArg (λu=>SV.den M (.c (.int (kV u (⟨D,z,E,f,e,h⟩:PT) (⟨x,y,B,d,j,g⟩:PT)).1 (kV u (⟨D,z,E,f,e,h⟩:PT) (⟨x,y,B,d,j,g⟩:PT)).2))) (lQ pX q).symm)⟩,⟨⟨rfl,rfl⟩,trivial⟩,⟨m,trivial⟩,λM=>rfl,λi R s=> ?_⟩
 match i,s with
 |0,s=>cases s;exact⟨_,F,rfl,m⟩
 |i+1,s=>cases s
 cases o;cases o
end
section
variable {k:Nat} {A:List TR} {p:PT}
def uF {T h ev hp t x g i} (ho:h= .slice t x (some g) (some i) none) {sz m z e d q eq} (hT:T t=some ⟨sz,m,z,.slice e d q,eq⟩) {nl b off len cap hl} (hx:ev x= .c (.sli nl b off len cap hl)) {l h1 h2} (j:ev g= .c (.int l h1)) (o:ev i= .c (.int k h2)) (f:l<=k/\k<=cap/\cap<=cap): mf T h ev hp=some (.val (.c (.sli nl b (gP off d l cap) (k-l) (cap-l) (hl.sub f)))):=by subst ho;simp only[mf,hT,hx,Option.map,lW,j,o];show(if f:_ then _ else _)=_;rw[dif_pos ⟨f,rfl⟩]
def LC:RW ED:=⟨Oh,6,fr,λ_ _ _=>rfl,fr⟩
def xT: ∀l:List ED,gK l=bG LC l
 |[]=>rfl
 |t::l=>by rw[gK,xT l];rfl
noncomputable def a5l:List (FuncId×Dr):=[(160,WG),(183,a1A)]
def XZ:nN a5l:= .cons a0d<| .cons a5P .nil
noncomputable def a39 (un:Nat):ic:=p7 (Gr un) a5l
def oq un:iU prog (a39 un):=jM (uJ un) XZ
def Ld:cP:=λd e K=> ∃n A c h t p q,d=[.c (.sli n 0 0 (ln A) c h),.agg (pC p),.agg (pC q)]/\e=[⟨.t t,true,bG bU A,0⟩]/\ ∀b:Bool,K (.c (.val (.bool b))) []
def La:cP:=λd e K=> ∃n E c h t p,d=[.c (.sli n 0 0 (ln E) c h),.agg (pC p)]/\e=[⟨.t t,true,bG LC E,0⟩]/\ ∀b:Bool,K (.c (.val (.bool b))) []
def Rz:jv prog 158 Ld:=cV (oq 0) bj (ck (oq 0) bj bg 0) ⟨func158,kr,kr⟩ λu z K r=>by
 obtain⟨n,A,c,h,t,p,q,rfl,rfl,r⟩:=r;have x:cC (bG bU A):=ab bU A;have y:mj bU (bG bU A) 0 A:=mj.self bU A;refine⟨zD,?_⟩;conv=>whnf
 refine zK [0,1,2] [0,4,5,7] [0] (G:={k:Nat//k<=ln A}) (λg=>[(7,.c (.int (g.1:Nat) (aR h g.2)))]) (λ_=>[]) (λg=>ln A-g.1) ⟨0,ah _⟩ trivial ?_;rintro ⟨k,o⟩ vs2;have o:k<=ln A:=o;dsimp only;refine zB ?_ ?_<;>intro s;have d:k<ln A:=dL s;have j:IR (k:Int):=aR h o;have e:IR ((k+1:Nat):Int):=aR h d;have m:ln A<=c:=h.1;have i:mj bU (bG bU A) (gP 0 9 k c) ((A.drop k).take 1):=(y.from o m).take 1;have f:((A.drop k).take 1).length=k+1-k:=by rw[aO,bN];omega
 conv=>whnf
 conv=>arg 2;tactic'=>exact uF (l:=k) (k:=k+1) (h1:=j) (h2:=e) rfl rfl rfl rfl (eA (dr (n:=ln A) d h.ir)) (by exact⟨a6e k,om,ai _⟩)
 refine⟨⟨x,_,f,i⟩,?_⟩;conv=>whnf
 conv=>arg 2;tactic'=>exact uF (l:=k) (k:=k+1) (h1:=j) (h2:=e) rfl rfl rfl rfl (eA (dr (n:=ln A) d h.ir)) (by exact⟨a6e k,om,ai _⟩)
 refine⟨⟨x,_,f,i⟩,?_⟩;refine zB ?_ ?_<;>intro D;refine zB ?_ ?_<;>intro B;exact zO [0] [0] (r _);exact dD [0,1,2] ⟨k+1,d⟩;exact dD [0,1,2] ⟨k+1,d⟩;exact zO [0] [0] (r _)
def Ru:jv prog 157 La:=cV (oq 0) bj (ck (oq 0) bj bg 0) ⟨func157,kr,kr⟩ λj m K d=>by
 obtain⟨n,E,c,h,t,p,rfl,rfl,d⟩:=d;refine⟨zD,?_⟩;conv=>whnf
 refine zK [0,1] [0,3,5] [0] (G:={k:Nat//k<=ln E}) (λg=>[(5,.c (.int (g.1:Nat) (aR h g.2)))]) (λ_=>[]) (λg=>ln E-g.1) ⟨0,ah _⟩ trivial ?_;rintro ⟨k,e⟩ vs2;have e:k<=ln E:=e;dsimp only;refine zB ?_ ?_<;>intro i;have f:k<ln E:=dL i;refine eS ?_;refine zB ?_ ?_<;>intro u;exact zO [0] [0] (d _);refine eS ?_;refine zB ?_ ?_<;>intro q;exact zO [0] [0] (d _);exact dD [0,1] ⟨k+1,f⟩;exact zO [0] [0] (d _)
def Bm (t:TR) (p a:PT):PT:=bif eN t.a p then t.c else bif eN t.b p then t.a else bif eN t.c p then t.b else a
def a48 (A:List TR) (p a:PT):PT:=match A[(kV A p a).1.toNat]?with|some t=>Bm t p a|none=>a
def DO (A:List TR) (p:PT):Nat->PT->PT
 |0,a=>a
 |n+1,a=>if(kV A p a).1<0 then a else DO A p n (a48 A p a)
def yX (A:List TR) (p a:PT):PT:=DO A p (ln A) a
def Sb {a d} (hk:k<ln A) (h:DO A p (ln A-k) a=yX A p d) (e:(kV A p a).1<0):a=yX A p d:=by obtain⟨j,hj⟩: ∃j,ln A-k=j+1:=⟨ln A-k-1,om⟩;rw[<-h,hj,DO,if_pos e]
def uH {a d b} {m:Nat} (hk:k<ln A) (h:DO A p (ln A-k) a=yX A p d) (hm:m<ln A) (e:(kV A p a).1=(m:Int)) (hb:b=Bm A[m] p a):DO A p (ln A-(k+1)) b=yX A p d:=by obtain⟨j,hj⟩: ∃j,ln A-k=j+1:=⟨ln A-k-1,om⟩;rw[<-h,hj,DO,if_neg om,show (ln A)-(k+1)=j by omega];unfold a48;rw[e,bW,ae hm];simp only;rw[hb]
def yH (t:TR):Nat->PT
 |0=>t.a
 |1=>t.b
 |_=>t.c
def Do {t j} (h: ∀i,i<j->eN (yH t i) p=false) (e:eN (yH t j) p=false): ∀i,i<j+1->eN (yH t i) p=false:=λi f=>by rcases cj i j with d|d;exact h i d;obtain rfl:i=j:=om;exact e
def a49 {t a} (e:eN t.a p=true):t.c=Bm t p a:=by unfold Bm;rw[e];rfl
def a5a {t a} (h: ∀i,i<1->eN (yH t i) p=false) (e:eN t.b p=true):t.a=Bm t p a:=by have d:eN t.a p=false:=h 0 dc;unfold Bm;rw[d,e];rfl
def a5b {t a} (h: ∀i,i<2->eN (yH t i) p=false) (e:eN t.c p=true):t.b=Bm t p a:=by have f:eN t.a p=false:=h 0 dc;have d:eN t.b p=false:=h 1 dc;unfold Bm;rw[f,d,e];rfl
def a5c {t a} (h: ∀i,i<3->eN (yH t i) p=false):a=Bm t p a:=by have f:eN t.a p=false:=h 0 dc;have e:eN t.b p=false:=h 1 dc;have d:eN t.c p=false:=h 2 dc;unfold Bm;rw[f,e,d];rfl
def a6W:cP:=λd e K=> ∃f oA A cA hA tA csA p a,d=[.c (.sli f 0 oA (ln A) cA hA),.agg (pC p),.agg (pC a)]/\e=[⟨.t tA,true,csA,0⟩]/\(cC csA/\mj bU csA oA A)/\K (.agg (pC (yX A p a))) []
def a5i {q} (h:p=q) ρ:(SV.agg (pC p)).den ρ=(SV.agg (pC q)).den ρ:=by rw[h]
def a31:jv prog 159 a6W:=cV (oq 0) bj (ck (oq 0) bj bg 0) ⟨func159,kr,kr⟩ λN Q K F=>by
 obtain⟨U,P,A,W,x,V,L,p,a,rfl,rfl,⟨u,D⟩,F⟩:=F;refine⟨zD,?_⟩;conv=>whnf
 refine zK [0,1,2,3] [0,4,5,6,7] [0] (G:={q:Nat×PT//q.1<=ln A/\DO A p (ln A-q.1) q.2=yX A p a}) (λg=>[(7,.c (.int (g.1.1:Nat) (aR x g.2.1)))]) (λg=>[(2,(⟨.t 33,false,pC g.1.2,0⟩:aY))]) (λg=>ln A-g.1.1) ⟨(0,a),ah _,rfl⟩ trivial ?_;rintro ⟨⟨k,b⟩,E,r⟩ vs2;have E:k<=ln A:=E;have r:DO A p (ln A-k) b=yX A p a:=r;dsimp only;refine zB ?_ ?_<;>intro B;have e:k<ln A:=dL B;refine⟨⟨u,A,rfl,D⟩,?_⟩;refine zB ?_ ?_<;>intro y;have y:(kV A p b).1<0:=by have:=of_decide_eq_true y;rw[lQ pX D] at this;exact this
 exact⟨[0],[0],λJ=>⟨u,_,[],rfl,gz _,trivial,.agg (pC (yX A p a)),λM=>a5i (Sb e r y) M,F⟩⟩;have y: ¬(kV A p b).1<0:=by have:=of_decide_eq_false y;rw[lQ pX D] at this;exact this
 obtain⟨m,o,z⟩:=a2F y;have I:(kV (eU bU L P (ln A)) p b).1=(m:Int):=by rw[lQ pX D];exact z
 conv=>whnf
 refine zK [0,1,2,3] [0,4,5,6,7,8,9] [0] (G:={j:Nat//j<=3/\ ∀i,i<j->eN (yH A[m] i) p=false}) (λg=>[(9,.c (.int (g.1:Nat) (SQ g.2.1)))]) (λ_=>[]) (λg=>3-g.1) ⟨0,ah _,λi h=>absurd h (gh _)⟩ (pc I) ?_;rintro ⟨j,O,f⟩ vs4;have O:j<=3:=O;have f: ∀i,i<j->eN (yH A[m] i) p=false:=f;dsimp only;have s:j=3\/j=0\/j=1\/j=2:=om;rcases s with rfl|rfl|rfl|rfl;exact dD [0,1,2,3] ⟨(k+1,b),e,uH e r o z (a5c f)⟩;refine eS ?_;refine zB ?_ ?_<;>intro d;have d:eN A[m].a p=true:=d;refine eS ?_;exact dD [0,1,2,3] ⟨(k+1,A[m].c),e,uH e r o z (a49 d)⟩;have d:eN A[m].a p=false:=d;exact dD [0,1,2,3] ⟨1,dc,Do f (show eN (yH A[m] 0) p=false from d)⟩;refine eS ?_;refine zB ?_ ?_<;>intro d;have d:eN A[m].b p=true:=d;refine eS ?_;exact dD [0,1,2,3] ⟨(k+1,A[m].a),e,uH e r o z (a5a f d)⟩;have d:eN A[m].b p=false:=d;exact dD [0,1,2,3] ⟨2,dc,Do f (show eN (yH A[m] 1) p=false from d)⟩;refine eS ?_;refine zB ?_ ?_<;>intro d;have d:eN A[m].c p=true:=d;refine eS ?_;exact dD [0,1,2,3] ⟨(k+1,A[m].b),e,uH e r o z (a5b f d)⟩;have d:eN A[m].c p=false:=d;exact dD [0,1,2,3] ⟨3,dc,Do f (show eN (yH A[m] 2) p=false from d)⟩;have H:ln A<=k:=gi B;obtain rfl:k=ln A:=bo E H;rw[kz] at r;exact⟨[0],[0],λJ=>⟨u,_,[],rfl,gz _,trivial,.agg (pC (yX A p a)),λM=>a5i (r) M,F⟩⟩
noncomputable def a1y:Dr
 |[.c (.sli _ bA oA nA _ _),.agg [.int px hpx,.int py hpy,.int pz hpz],.agg [.int ax hax,.int ay hay,.int az haz]],hf=>(match hf bA with|some ⟨.t _,_,csA,_⟩=>some (some ((cC csA/\ ∃A:List TR,ln A=nA/\mj bU csA oA A)),.agg (pC (yX (eU bU csA oA nA) (⟨px,py,pz,hpx,hpy,hpz⟩:PT) (⟨ax,ay,az,hax,hay,haz⟩:PT))))|_=>none)
 |_,_=>none
def a5N:CY prog 159 a1y:=pS a31 λI U p v o=>by
 unfold a1y at o;split at o;rename_i L Q G T N H D f y e E j u d x m B h;split at o;rename_i J V r O z;cases o;refine⟨ff,λP=> ?_⟩;obtain⟨g,A,rfl,q⟩:=P _ rfl;refine⟨[.c (.sli L 0 G (ln A) N H),.agg (pC (⟨D,y,E,f,e,j⟩:PT)),.agg (pC (⟨u,x,B,d,m,h⟩:PT))],[⟨.t J,true,r,0⟩],[Q],⟨L,G,A,N,H,J,r,(⟨D,y,E,f,e,j⟩:PT),(⟨u,x,B,d,m,h⟩:PT),rfl,rfl,⟨g,q⟩,λM=>(congrArg (λF=>SV.den M (.agg (pC (yX F (⟨D,y,E,f,e,j⟩:PT) (⟨u,x,B,d,m,h⟩:PT))))) (lQ pX q).symm)⟩,⟨⟨rfl,rfl⟩,trivial⟩,⟨g,trivial⟩,λM=>rfl,λi R s=> ?_⟩
 match i,s with
 |0,s=>cases s;exact⟨_,z,rfl,g⟩
 |i+1,s=>cases s
 cases o;cases o
end
noncomputable def a5m:List (FuncId×Dr):=[(160,WG),(159,a1y)]
def X0:nN a5m:= .cons a0d<| .cons a5N .nil
noncomputable def a4a (un:Nat):ic:=p7 (Gr un) a5m
def lL un:iU prog (a4a un):=jM (uJ un) X0
def c3C:List (FuncId×cP):=[(157,La),(158,Ld),(161,QY)]
def II:iL prog c3C:= .cons Ru<| .cons Rz<| .cons Wi .nil
def Zk:cP:=λd e K=> ∃f A cA hA0 nB B cB hB0 nE E cE hE0 tA tB tE,d=[.c (.sli f 0 0 (ln A) cA hA0),.c (.sli nB 1 0 (ln B) cB hB0),.c (.sli nE 2 0 (ln E) cE hE0)]/\e=[⟨.t tA,true,bG bU A,0⟩,⟨.t tB,true,bG bU B,0⟩,⟨.t tE,true,bG LC E,0⟩]/\ ∀b:Bool,K (.c (.val (.bool b))) []
def a1g:jv prog 128 Zk:=cV (lL 0) bj (ck (lL 0) bj bg 0) ⟨func128,kr,kr⟩ λo r K e=>by
 obtain⟨L,A,z,q,J,B,cB,u,H,E,F,d,y,I,D,rfl,rfl,e⟩:=e;have m:cC (bG bU A):=ab bU A;have j:cC (bG bU B):=ab bU B;refine⟨zD,?_⟩;conv=>whnf
 refine zK [0,1,2] [0,1,2,7] [0,1,2] (G:={k:Nat//k<=ln E}) (λg=>[(7,.c (.int (g.1:Nat) (aR d g.2)))]) (λ_=>[]) (λg=>ln E-g.1) ⟨0,ah _⟩ trivial ?_;rintro ⟨k,i⟩ vs2;have i:k<=ln E:=i;dsimp only;refine zB ?_ ?_<;>intro f;have h:k<ln E:=dL f;refine wM ?_;refine⟨⟨m,A,rfl,mj.self bU A⟩,?_⟩;refine wM ?_;refine⟨⟨j,B,rfl,mj.self bU B⟩,?_⟩;refine zB ?_ ?_<;>intro x;exact zO [0,1,2] [0,1,2] (e _);exact dD [0,1,2] ⟨k+1,h⟩;exact zO [0,1,2] [0,1,2] (e _)
def Lg:cP:=λd e K=> ∃f A cA hA0 nB B cB hB0 nE E cE hE0 tA tB tE,d=[.c (.sli f 0 0 (ln A) cA hA0),.c (.sli nB 1 0 (ln B) cB hB0),.c (.sli nE 2 0 (ln E) cE hE0)]/\e=[⟨.t tA,true,bG bU A,0⟩,⟨.t tB,true,bG bU B,0⟩,⟨.t tE,true,bG LC E,0⟩]/\ ∀b:Bool,K (.c (.val (.bool b))) []
def RD:jv prog 127 Lg:=cV (lL 0) bj (dX II (ck (lL 0) bj bg 0)) ⟨func127,kr,kr⟩ λz M K p=>by
 obtain⟨y,A,x,h,R,B,cB,q,o,E,m,d,O,Q,P,rfl,rfl,p⟩:=p;have i:cC (bG bU A):=ab bU A;have e:cC (bG LC E):=ab LC E;refine⟨zD,?_⟩;conv=>whnf
 refine zK [0,1,2] [0,1,2,7] [0,1,2] (G:={k:Nat//k<=ln B}) (λg=>[(7,.c (.int (g.1:Nat) (aR q g.2)))]) (λ_=>[]) (λg=>ln B-g.1) ⟨0,ah _⟩ trivial ?_;rintro ⟨k,u⟩ vs2;have u:k<=ln B:=u;dsimp only;refine zB ?_ ?_<;>intro r;have s:k<ln B:=dL r;conv=>whnf
 refine zK [0,1,2] [0,1,2,7,8] [0,1,2] (G:={j:Nat//j<=3}) (λg=>[(8,.c (.int (g.1:Nat) (SQ g.2)))]) (λ_=>[]) (λg=>3-g.1) ⟨0,ah _⟩ trivial ?_;rintro ⟨j,J⟩ vs4;have J:j<=3:=J;dsimp only;have f:j=3\/j=0\/j=1\/j=2:=om;rcases f with rfl|rfl|rfl|rfl;exact dD [0,1,2] ⟨k+1,s⟩;refine wM ?_;refine⟨ff,⟨e,trivial⟩,o,E,m,d,_,B[k].a,rfl,rfl,λb0=> ?_⟩;refine zB ?_ ?_<;>intro D;refine⟨ff,⟨e,trivial⟩,o,E,m,d,_,B[k].b,rfl,rfl,λb1=> ?_⟩;refine zB ?_ ?_<;>intro F;refine⟨ff,ff,⟨i,trivial⟩,y,A,x,h,_,B[k].a,B[k].b,rfl,rfl,λH=> ?_⟩;refine zB ?_ ?_<;>intro I;exact zO [0,1,2] [0,1,2] (p _);exact dD [0,1,2] ⟨1,dc⟩;exact dD [0,1,2] ⟨1,dc⟩;exact dD [0,1,2] ⟨1,dc⟩;refine wM ?_;refine⟨ff,⟨e,trivial⟩,o,E,m,d,_,B[k].b,rfl,rfl,λb0=> ?_⟩;refine zB ?_ ?_<;>intro D;refine⟨ff,⟨e,trivial⟩,o,E,m,d,_,B[k].c,rfl,rfl,λb1=> ?_⟩;refine zB ?_ ?_<;>intro F;refine⟨ff,ff,⟨i,trivial⟩,y,A,x,h,_,B[k].b,B[k].c,rfl,rfl,λH=> ?_⟩;refine zB ?_ ?_<;>intro I;exact zO [0,1,2] [0,1,2] (p _);exact dD [0,1,2] ⟨2,dc⟩;exact dD [0,1,2] ⟨2,dc⟩;exact dD [0,1,2] ⟨2,dc⟩;refine wM ?_;refine⟨ff,⟨e,trivial⟩,o,E,m,d,_,B[k].c,rfl,rfl,λb0=> ?_⟩;refine zB ?_ ?_<;>intro D;refine⟨ff,⟨e,trivial⟩,o,E,m,d,_,B[k].a,rfl,rfl,λb1=> ?_⟩;refine zB ?_ ?_<;>intro F;refine⟨ff,ff,⟨i,trivial⟩,y,A,x,h,_,B[k].c,B[k].a,rfl,rfl,λH=> ?_⟩;refine zB ?_ ?_<;>intro I;exact zO [0,1,2] [0,1,2] (p _);exact dD [0,1,2] ⟨3,dc⟩;exact dD [0,1,2] ⟨3,dc⟩;exact dD [0,1,2] ⟨3,dc⟩;exact zO [0,1,2] [0,1,2] (p _)
def Lh:cP:=λd e K=> ∃f A cA hA0 nB B cB hB0 nM M cM hM0 nE E cE hE0 tA tB tM tE,d=[.c (.sli f 0 0 (ln A) cA hA0),.c (.sli nB 1 0 (ln B) cB hB0),.c (.sli nM 2 0 (ln M) cM hM0),.c (.sli nE 3 0 (ln E) cE hE0)]/\e=[⟨.t tA,true,bG bU A,0⟩,⟨.t tB,true,bG bU B,0⟩,⟨.t tM,true,bG xZ M,0⟩,⟨.t tE,true,bG LC E,0⟩]/\ ∀b:Bool,K (.c (.val (.bool b))) []
theorem RE:jv prog 129 Lh:=cV (lL 0) bj (dX II (ck (lL 0) bj bg 0)) ⟨func129,by kernel_rfl,by kernel_rfl⟩ λargs ros K hc=>by
 obtain⟨nA,A,cA,hA0,nB,B,cB,hB0,nM,M,cM,hM0,nE,E,cE,hE0,tA,tB,tM,tE,rfl,rfl,hc⟩:=hc
 have hpA:cC (bG bU A):=ab bU A
 have hpB:cC (bG bU B):=ab bU B
 have hpM:cC (bG xZ M):=ab xZ M
 have hpE:cC (bG LC E):=ab LC E
 refine⟨zD,?_⟩
 conv=>whnf
 refine zK [0,1,2,3] [0,1,2,3,9] [0,1,2,3] (G:={k:Nat//k<=M.length}) (λg=>[(0,.c (.sli nA 0 0 A.length cA hA0)),(1,.c (.sli nB 1 0 B.length cB hB0)),(2,.c (.sli nM 2 0 M.length cM hM0)),(3,.c (.sli nE 3 0 E.length cE hE0)),(9,.c (.int (g.1:Nat) (aR hM0 g.2)))]) (λ_=>[(0,⟨.t tA,true,bG bU A,0⟩),(1,⟨.t tB,true,bG bU B,0⟩),(2,⟨.t tM,true,bG xZ M,0⟩),(3,⟨.t tE,true,bG LC E,0⟩)]) (λg=>M.length-g.1) ⟨0,ah _⟩ trivial ?_
 rintro ⟨k,hk⟩ vs2
 have hk:k<=M.length:=hk
 dsimp only
 refine zB ?_ ?_<;>intro hlt
 have hkA:k<M.length:=dL hlt
 have hki:IR (k:Int):=aR hM0 hk
 refine zB ?_ ?_<;>intro hz<;>(first|(obtain⟨i,rfl⟩: ∃i,k=i+1:=⟨k-1,by have:=of_decide_eq_false hz;omega⟩;have hiA:i<M.length:=(by omega);have hii:IR (i:Int):=aR hM0 (bw hiA);(conv=>whnf);(conv=>arg 2;tactic'=>exact be (k:=i) (hi:=hii) rfl rfl rfl (eA (sj hki)) hiA);refine zG5 ?_)|refine eS ?_)<;>(refine⟨⟨hpA,A,rfl,mj.self bU A⟩,?_⟩;refine eS ?_;refine⟨⟨hpB,B,rfl,mj.self bU B⟩,?_⟩;refine zB ?_ ?_<;>intro hc0<;>(try (refine eS ?_;refine⟨⟨hpA,A,rfl,mj.self bU A⟩,?_⟩))<;>(conv=>whnf)<;>(first|(have _: _=true:=hc0;first|(have hq: ∃b:Bool,b=pA (eU bU (bG bU A) 0 A.length) M[k].t:=⟨_,rfl⟩;obtain⟨c,hc12⟩:=hq)|(have hq: ∃b:Bool,b=pA (eU bU (bG bU A) 0 A.length) M[i+1].t:=⟨_,rfl⟩;obtain⟨c,hc12⟩:=hq))|(obtain⟨c,hc12⟩: ∃b:Bool,b=false:=⟨_,rfl⟩)))<;>(refine zK [0,1,2,3] [0,1,2,3,9,10,11,12,13] [0,1,2,3] (G:={q:Nat×Bool//q.1<=M.length}) (λg=>[(12,.c (.val (.bool g.1.2))),(13,.c (.int (g.1.1:Nat) (aR hM0 g.2)))]) (λ_=>[]) (λg=>M.length-g.1.1) ⟨(0,c),ah _⟩ (pc hc12.symm) ?_;rintro ⟨⟨j,b⟩,hj⟩ vs4;have hj:j<=M.length:=hj;dsimp only;refine zB ?_ ?_<;>intro hl2)
 all_goals first|(have hjA:j<M.length:=dL hl2;have hji:IR (j:Int):=aR hM0 hj;refine zB ?_ ?_<;>intro hb<;>(first|(refine wM ?_;(first|have hq: ∃x:Bool,x=(!eN M[j].f M[k].t):=⟨_,rfl⟩|have hq: ∃x:Bool,x=(!eN M[j].f M[i+1].t):=⟨_,rfl⟩);obtain⟨bn,hbn⟩:=hq;exact nq [0,1,2,3] ⟨(j+1,bn),hjA⟩ (pc hbn.symm))|((conv=>whnf);obtain⟨bn,hbn⟩: ∃x:Bool,x=false:=⟨_,rfl⟩;exact nq [0,1,2,3] ⟨(j+1,bn),hjA⟩ (pc hbn.symm))))|(refine eS ?_;(first|refine⟨λ_ _=>rfl,⟨hpE,trivial⟩,nE,E,cE,hE0,_,M[k].f,rfl,rfl,λb14=> ?_⟩|refine⟨λ_ _=>rfl,⟨hpE,trivial⟩,nE,E,cE,hE0,_,M[i+1].f,rfl,rfl,λb14=> ?_⟩);(repeat (refine zB ?_ ?_<;>intro _;exact zO [0,1,2,3] [0,1,2,3] (hc _)));exact dD [0,1,2,3] ⟨_,hkA⟩)|exact zO [0,1,2,3] [0,1,2,3] (hc _)
def FT:cP:=λd e K=> ∃f A cA hA0 nB B cB hB0 nM M cM hM0 tA tB tM,d=[.c (.sli f 0 0 (ln A) cA hA0),.c (.sli nB 1 0 (ln B) cB hB0),.c (.sli nM 2 0 (ln M) cM hM0)]/\e=[⟨.t tA,true,bG bU A,0⟩,⟨.t tB,true,bG bU B,0⟩,⟨.t tM,true,bG xZ M,0⟩]/\ln B<=100000/\ ∀b:Bool,K (.c (.val (.bool b))) []
def zv0:ZV:=⟨0,dc⟩
def Hr: ∀n,tU n zi=bG bI (au n zv0)
 |0=>rfl
 |n+1=>by rw[List.replicate_succ,bG,<-Hr n];rfl
def Xz {n} d b ρ:(SV.c (.sli false b 0 n n d)).den ρ=((OL.made (au n zv0) false n (by rw[bb];exact d)).sl b).den ρ:=by simp only[OL.sl,OL.made,SV.den,C.den,C.cells,bb]
def XA {n} d:n-n=((OL.made (au n zv0) false n (by rw[bb];exact d)).blk bI 3).tl:=by simp only[OL.blk,OL.made,bb,kz,jw]
def el z:IR (wr ix z):=by unfold IR IntKind.wrap;simp[IntKind.bits,IntKind.signed];omega
def NZ:jv prog 130 FT:=cV (lL 0) bj (dX II (ck (lL 0) bj bg 0)) ⟨func130,kr,kr⟩ λR X K r=>by
 obtain⟨nA,A,cA,z,E,B,cB,e,L,M,F,u,tA,tB,tM,rfl,rfl,Z,r⟩:=r;have f:cC (bG bU B):=ab bU B;have p:cC (bG xZ M):=ab xZ M;refine⟨zD,?_⟩;refine⟨rfl,ln B,ln B,rfl,rfl,ai _,om,λI=> ?_⟩;rw[show tU (ln B) zi=_ from Hr (ln B)];conv=>whnf
 refine zK [0,1,2,3] [0,1,2,7,8] [0,1,2,3] (G:={q:Nat×OL ZV//q.1<=ln A/\ln q.2.l=ln B}) (λg=>[(7,g.1.2.sl 3),(8,.c (.int (g.1.1:Nat) (aR z g.2.1)))]) (λg=>[(3,g.1.2.blk bI 3)]) (λg=>ln A-g.1.1) ⟨(0,(OL.made (au (ln B) zv0) false (ln B) (by rw[bb];exact I))),ah _,bb⟩ (zA (Xz I 3) (pc (XA I))) ?_;rintro ⟨⟨k,o⟩,J,y⟩ vs2;have J:k<=ln A:=J;have y:ln o.l=ln B:=y;dsimp only;refine zB ?_ ?_<;>intro O;have m:k<ln A:=dL O;refine eS ?_;refine⟨ff,⟨p,trivial⟩,L,M,F,u,_,A[k].a,rfl,rfl,λD=> ?_⟩;refine eS ?_;refine⟨ff,⟨p,trivial⟩,L,M,F,u,_,A[k].b,rfl,rfl,λQ=> ?_⟩;refine eS ?_;refine⟨ff,⟨p,trivial⟩,L,M,F,u,_,A[k].c,rfl,rfl,λT=> ?_⟩;refine zB ?_ ?_<;>intro e0;refine zB ?_ ?_<;>intro e1;refine zB ?_ ?_<;>intro e2;conv=>whnf
 refine zK [0,1,2,3,7] [0,1,2,7,8,12,13,14] [0,1,2,3] (G:={q:Nat×Bool×OL ZV//q.1<=ln B/\ln q.2.2.l=ln B}) (λg=>[(7,g.1.2.2.sl 3),(13,.c (.val (.bool g.1.2.1))),(14,.c (.int (g.1.1:Nat) (aR e g.2.1)))]) (λg=>[(3,g.1.2.2.blk bI 3)]) (λg=>ln B-g.1.1) ⟨(0,false,o),ah _,y⟩ trivial ?_;rintro ⟨⟨j,U,o2⟩,s,d⟩ vs8;have s:j<=ln B:=s;have d:ln o2.l=ln B:=d;dsimp only;refine zB ?_ ?_<;>intro N;have i:j<ln B:=dL N;have P:IR (j:Int):=aR e s;have h:j<ln o2.l:=by rw[d];exact i
 refine eS ?_;refine zB ?_ ?_<;>intro eq;refine zG3 ?_;conv=>arg 2;tactic'=>exact bM (l:=[.int (wr ix (o2.l[j].x+1)) (el _)]) (cs:=bG bI (o2.l.set j (⟨wr ix (o2.l[j].x+1),el _⟩:ZV))) rfl rfl rfl rfl (⟨rfl,rfl⟩) rfl (o2.nlf (em (ah _) h)) (iH bI o2.l h (⟨wr ix (o2.l[j].x+1),el _⟩:ZV))
 conv=>whnf
 rw[bV];conv=>whnf
 exact nq [0,1,2,3,4] ⟨(j+1,true,o2.put j (⟨wr ix (o2.l[j].x+1),el _⟩:ZV)),i,(by show(o2.l.set j _).length=_;rw[aZ];exact d)⟩ (zA (o2.put_sl j (⟨wr ix (o2.l[j].x+1),el _⟩:ZV) 3) (pc (o2.put_tl j (⟨wr ix (o2.l[j].x+1),el _⟩:ZV) bI 3)));exact dD [0,1,2,3,4] ⟨(j+1,U,o2),i,d⟩;refine zB ?_ ?_<;>intro hf;exact zO [0,1,2] [0,1,2] (r _);exact dD [0,1,2,3] ⟨(k+1,o2),m,d⟩
 iterate 2
  refine zB ?_ ?_<;>intro f8
  refine⟨ff,ff,⟨f,trivial⟩,E,B,cB,e,_,D,T,rfl,rfl,λb=> ?_⟩
  iterate 2
   try refine⟨ff,ff,⟨f,trivial⟩,E,B,cB,e,_,D,Q,rfl,rfl,λb=> ?_⟩
   refine zB ?_ ?_<;>intro V
   exact zO [0,1,2] [0,1,2] (r _)
   exact dD [0,1,2,3] ⟨(k+1,o),m,y⟩
 refine zB ?_ ?_<;>intro f8;refine⟨ff,ff,⟨f,trivial⟩,E,B,cB,e,_,D,T,rfl,rfl,λb=> ?_⟩
 iterate 2
  try refine⟨ff,ff,⟨f,trivial⟩,E,B,cB,e,_,D,Q,rfl,rfl,λb=> ?_⟩
  refine zB ?_ ?_<;>intro V
  exact zO [0,1,2] [0,1,2] (r _)
  exact dD [0,1,2,3] ⟨(k+1,o),m,y⟩
 conv=>whnf
 refine zK [0,1,2,3] [0,1,2,7,17] [0,1,2,3] (G:={j:Nat//j<=ln o.l}) (λg=>[(17,.c (.int (g.1:Nat) (aR o.ok g.2)))]) (λ_=>[]) (λg=>ln o.l-g.1) ⟨0,ah _⟩ trivial ?_;rintro ⟨j,s⟩ vs21;have s:j<=ln o.l:=s;dsimp only;refine zB ?_ ?_<;>intro H;have h:j<ln o.l:=dL H;have P:IR (j:Int):=aR o.ok s;refine eS ?_;refine zB ?_ ?_<;>intro a0;exact zO [0,1,2] [0,1,2] (r _);exact dD [0,1,2,3] ⟨j+1,h⟩;exact zO [0,1,2] [0,1,2] (r _)
def Q6:cP:=λd f K=> ∃e he,d=[.c (.int e he)]/\f=[]/\(0<=e/\e<24)/\ ∀x y z hx hy hz,(0<=x/\x<=3)/\(0<=y/\y<=3)/\(0<=z/\z<=3)->K (.agg [.int x hx,.int y hy,.int z hz]) []
def Wn:jv prog 167 Q6:=cV (dK 0) bj (ck (dK 0) bj bg 0) ⟨func167,kr,kr⟩ λg h K d=>by obtain⟨e,i,rfl,rfl,⟨k,j⟩,d⟩:=d;refine⟨zD,?_⟩;have f:e=0\/e=1\/e=2\/e=3\/e=4\/e=5\/e=6\/e=7\/e=8\/e=9\/e=10\/e=11\/e=12\/e=13\/e=14\/e=15\/e=16\/e=17\/e=18\/e=19\/e=20\/e=21\/e=22\/e=23:=om;rcases f with rfl|rfl|rfl|rfl|rfl|rfl|rfl|rfl|rfl|rfl|rfl|rfl|rfl|rfl|rfl|rfl|rfl|rfl|rfl|rfl|rfl|rfl|rfl|rfl;exact zO [] [] (v3:=.agg [.int 1 dc,.int 0 dc,.int 0 dc]) (d 1 0 0 _ _ _ dc);exact zO [] [] (v3:=.agg [.int 3 dc,.int 0 dc,.int 0 dc]) (d 3 0 0 _ _ _ dc);exact zO [] [] (v3:=.agg [.int 1 dc,.int 2 dc,.int 0 dc]) (d 1 2 0 _ _ _ dc);exact zO [] [] (v3:=.agg [.int 3 dc,.int 2 dc,.int 0 dc]) (d 3 2 0 _ _ _ dc);exact zO [] [] (v3:=.agg [.int 1 dc,.int 0 dc,.int 2 dc]) (d 1 0 2 _ _ _ dc);exact zO [] [] (v3:=.agg [.int 3 dc,.int 0 dc,.int 2 dc]) (d 3 0 2 _ _ _ dc);exact zO [] [] (v3:=.agg [.int 1 dc,.int 2 dc,.int 2 dc]) (d 1 2 2 _ _ _ dc);exact zO [] [] (v3:=.agg [.int 3 dc,.int 2 dc,.int 2 dc]) (d 3 2 2 _ _ _ dc);exact zO [] [] (v3:=.agg [.int 0 dc,.int 1 dc,.int 0 dc]) (d 0 1 0 _ _ _ dc);exact zO [] [] (v3:=.agg [.int 2 dc,.int 1 dc,.int 0 dc]) (d 2 1 0 _ _ _ dc);exact zO [] [] (v3:=.agg [.int 0 dc,.int 3 dc,.int 0 dc]) (d 0 3 0 _ _ _ dc);exact zO [] [] (v3:=.agg [.int 2 dc,.int 3 dc,.int 0 dc]) (d 2 3 0 _ _ _ dc);exact zO [] [] (v3:=.agg [.int 0 dc,.int 1 dc,.int 2 dc]) (d 0 1 2 _ _ _ dc);exact zO [] [] (v3:=.agg [.int 2 dc,.int 1 dc,.int 2 dc]) (d 2 1 2 _ _ _ dc);exact zO [] [] (v3:=.agg [.int 0 dc,.int 3 dc,.int 2 dc]) (d 0 3 2 _ _ _ dc);exact zO [] [] (v3:=.agg [.int 2 dc,.int 3 dc,.int 2 dc]) (d 2 3 2 _ _ _ dc);exact zO [] [] (v3:=.agg [.int 0 dc,.int 0 dc,.int 1 dc]) (d 0 0 1 _ _ _ dc);exact zO [] [] (v3:=.agg [.int 2 dc,.int 0 dc,.int 1 dc]) (d 2 0 1 _ _ _ dc);exact zO [] [] (v3:=.agg [.int 0 dc,.int 2 dc,.int 1 dc]) (d 0 2 1 _ _ _ dc);exact zO [] [] (v3:=.agg [.int 2 dc,.int 2 dc,.int 1 dc]) (d 2 2 1 _ _ _ dc);exact zO [] [] (v3:=.agg [.int 0 dc,.int 0 dc,.int 3 dc]) (d 0 0 3 _ _ _ dc);exact zO [] [] (v3:=.agg [.int 2 dc,.int 0 dc,.int 3 dc]) (d 2 0 3 _ _ _ dc);exact zO [] [] (v3:=.agg [.int 0 dc,.int 2 dc,.int 3 dc]) (d 0 2 3 _ _ _ dc);exact zO [] [] (v3:=.agg [.int 2 dc,.int 2 dc,.int 3 dc]) (d 2 2 3 _ _ _ dc)
def a7M:List (FuncId×cP):=[(167,Q6)]
def Mv:iL prog a7M:= .cons Wn .nil
def Q7:cP:=λd e K=> ∃p q v a hp hq hv ha b,d=[.c (.int p hp),.c (.int q hq),.c (.int v hv),.c (.int a ha),.c (.val (.bool b))]/\e=[]/\((0<=p/\p<24)/\(0<=q/\q<24)/\(-1<=v/\v<8)/\(0<=a/\a<3))/\ ∀r:Bool,K (.c (.val (.bool r))) []
def Wp:jv prog 188 Q7:=cV (dK 0) bj (dX Mv (ck (dK 0) bj bg 0)) ⟨func188,kr,kr⟩ λm z K j=>by
 obtain⟨p,q,v,a,F,I,M,Q,b,rfl,rfl,⟨k,h,g,i⟩,j⟩:=j
 refine⟨λU G e=> ?_,?_⟩
 ·rfl
 refine⟨trivial,p,F,rfl,rfl,k,λT O P B D x b1=>⟨trivial,q,I,rfl,rfl,h,λJ L R r o u N=> ?_⟩⟩
 obtain⟨y,A⟩:=g
 obtain⟨E,s⟩:=i
 have d:v= -1\/v=0\/v=1\/v=2\/v=3\/v=4\/v=5\/v=6\/v=7:=om
 have f:a=0\/a=1\/a=2:=om
 rcases d with rfl|rfl|rfl|rfl|rfl|rfl|rfl|rfl|rfl<;>rcases f with rfl|rfl|rfl
 all_goals (conv=>whnf)
 all_goals (repeat(first|(refine⟨[],[],λH=> ?_⟩;(conv=>whnf);exact⟨_,[],rfl,trivial,trivial,.c (.val (.bool _)),fr,j _⟩)|(refine eB (λ_=> ?_) (λ_=> ?_)<;>(conv=>whnf))))
def J5 {a x} (d:0<=a/\a<4) (hx:0<=x/\x<=3):0<=wr ix (wr ix (a*524288)+wr ix (x*wr ix (Nq 524288 2)))/\wr ix (wr ix (a*524288)+wr ix (x*wr ix (Nq 524288 2)))<=2621440:=by rw[show wr ix (Nq 524288 2)=262144 from by decide,cN (z:=a*524288) ui,cN (z:=x*262144) ui,cN ui];omega
def xP (M:Int) (p:PT):Prop:=(0<=p.x/\p.x<=M)/\(0<=p.y/\p.y<=M)/\(0<=p.z/\p.z<=M)
def Lj:cP:=λd f K=> ∃a b c ha hb hc' e he hh,d=[.agg [.int a ha,.int b hb,.int c hc'],.c (.int 524288 hh),.c (.int e he)]/\f=[]/\((0<=a/\a<4)/\(0<=b/\b<4)/\(0<=c/\c<4)/\(0<=e/\e<24))/\ ∀p:PT,xP 2621440 p->K (.agg (pC p)) []
def RH:jv prog 136 Lj:=cV (dK 0) bj (dX Mv (ck (dK 0) bj bg 0)) ⟨func136,kr,kr⟩ λk o K h=>by obtain⟨a,b,c,r,B,p,e,m,A,rfl,rfl,⟨i,g,f,j⟩,h⟩:=h;refine⟨zD,?_⟩;exact⟨trivial,e,m,rfl,rfl,j,λx y z s q u d=> zO [] [] (v3:=.agg [.int (wr ix (wr ix (a*524288)+wr ix (x*wr ix (Nq 524288 2)))) (el _),.int (wr ix (wr ix (b*524288)+wr ix (y*wr ix (Nq 524288 2)))) (el _),.int (wr ix (wr ix (c*524288)+wr ix (z*wr ix (Nq 524288 2)))) (el _)]) (h ⟨(wr ix (wr ix (a*524288)+wr ix (x*wr ix (Nq 524288 2)))),(wr ix (wr ix (b*524288)+wr ix (y*wr ix (Nq 524288 2)))),(wr ix (wr ix (c*524288)+wr ix (z*wr ix (Nq 524288 2)))),el _,el _,el _⟩ ⟨J5 i d.1,J5 g d.2.1,J5 f d.2.2⟩)⟩
section
variable {k:Nat}
def DN {T:TypeId->Option TI} {e:Op} {ev:Operand->SV} {hp:Nat->Option aY} {t f:TypeId} {x y:Operand} (ho:e= .binOp .quo t x y f) {a:Int} {g:IR a} (hx:ev x= .c (.int a g)) {b:Int} {hb:IR b} (hy:ev y= .c (.int b hb)) {c:Int} (d:b≠0) (h:wr ix (a.tdiv b)=c) (hi:IR c): mf T e ev hp=some (.val (.c (.int c hi))):=by subst ho h;simp only[mf,hx,hy,IF];rw[if_neg d];rfl
def mm (M:Int) (t:TR):Prop:=xP M t.a/\xP M t.b/\xP M t.c
def Zj:cP:=λd e K=> ∃(n:Bool) (P:List PT) (c:Nat) (h:bZ n (ln P) c) (t:TypeId),d=[.c (.sli n 0 0 (ln P) c h)]/\e=[⟨.t t,true,bG fp P,0⟩]/\(1<=ln P/\ln P<=24/\ ∀p∈P,xP 2621440 p)/\
 ∀o:OL TR,ln o.l<=24->(∀t∈o.l,mm 2621440 t)->K (o.sl 1) [o.blk bU 58]
def SmB (k:Nat) (p:PT):Prop:=(0<=p.x/\p.x<=k*2621440)/\(0<=p.y/\p.y<=k*2621440)/\(0<=p.z/\p.z<=k*2621440)
def EX {a b:Int} (hk:k<24) (h:0<=a/\a<=k*2621440) (g:0<=b/\b<=2621440):0<=wr ix (a+b)/\wr ix (a+b)<=(k+1:Nat)*2621440:=by rw[cN ui];omega
def a0B {n:Nat} {a:Int} (h0:1<=n) (f:n<=24) (h:0<=a/\a<=n*2621440):0<=wr ix (a.tdiv n)/\wr ix (a.tdiv n)<=2621440:=by
 have d:0<=a.tdiv n:=Int.tdiv_nonneg h.1 om;have e:a.tdiv n<=2621440:=by rw[iq h.1];exact Int.ediv_le_of_le_mul om (by rw[Int.mul_comm];exact h.2)
 rw[cN ui];exact⟨d,e⟩
def a2A {n:Nat} (d:n<=24) (hk:k<n):(wr ix ((k:Int)+1)).tmod (n:Int)=(((k+1) % n:Nat):Int):=by rw[cN ui,kZ om];rfl
def a2d {n:Nat} (d:n<=24) (h0:1<=n):IR (((k+1) % n:Nat):Int):=by have:=fg (k+1) (show n>0 by omega);unfold IR;omega
def ZX:bZ false 1 1:=⟨ai _,dc,λh=>by cases h⟩
def a1f:jv prog 137 Zj:=cV (dK 0) bj (ck (dK 0) bj bg 0) ⟨func137,kr,kr⟩ λQ V K I=>by
 obtain⟨n,P,c,h,t,rfl,rfl,⟨f,d,A⟩,I⟩:=I;have X:cC (bG fp P):=ab fp P;refine⟨zD,?_⟩;refine zB ?_ ?_<;>intro T;have h3:ln P=3:=by have:=of_decide_eq_true T;omega
 have l0:0<ln P:=om;have Z:1<ln P:=om;have R:2<ln P:=om;refine zG6 ?_;exact zO [0,1] [0,1] (v3:=(⟨[(⟨P[0],P[1],P[2]⟩:TR)],false,1,ZX⟩:OL TR).sl 1) (I (⟨[(⟨P[0],P[1],P[2]⟩:TR)],false,1,ZX⟩:OL TR) (by show 1<=24;decide) (λt B=>by rw[bq.1 B];exact⟨A _ (ak l0),A _ (ak Z),A _ (ak R)⟩));conv=>whnf
 refine zK [0,1] [0,3,4] [0] (G:={q:Nat×PT//q.1<=ln P/\SmB q.1 q.2}) (λg=>[(0,.c (.sli n 0 0 (ln P) c h)),(3,.c (.ptr 1 0)),(4,.c (.int (g.1.1:Nat) (aR h g.2.1)))]) (λg=>[(0,⟨.t t,true,bG fp P,0⟩),(1,(⟨.t 33,false,pC g.1.2,0⟩:aY))]) (λg=>ln P-g.1.1) ⟨(0,(⟨0,0,0,dc,dc,dc⟩:PT)),ah _,by unfold SmB;simp⟩ trivial ?_;rintro ⟨⟨k,p⟩,H,r⟩ vs2;have H:k<=ln P:=H;have r:SmB k p:=r;dsimp only;refine zB ?_ ?_<;>intro D;have e:k<ln P:=dL D;have M:IR (k:Int):=aR h H;have O:=A _ (ak e);refine zG6 ?_;exact dD [0,1] ⟨(k+1,(⟨wr ix (p.x+P[k].x),wr ix (p.y+P[k].y),wr ix (p.z+P[k].z),el _,el _,el _⟩:PT)),e,EX om r.1 O.1,EX om r.2.1 O.2.1,EX om r.2.2 O.2.2⟩;have J:ln P<=k:=gi D;obtain rfl:k=ln P:=bo H J;have U:IR ((ln P:Nat):Int):=aR h (ai _);have i:((ln P:Nat):Int)≠0:=om;conv=>whnf
 conv=>arg 2;tactic'=>exact DN rfl rfl rfl i rfl (el _)
 conv=>whnf
 conv=>arg 2;tactic'=>exact DN rfl rfl rfl i rfl (el _)
 conv=>whnf
 conv=>arg 2;tactic'=>exact DN rfl rfl rfl i rfl (el _)
 conv=>whnf
 obtain⟨q,hq⟩: ∃q:PT,q=(⟨wr ix (p.x.tdiv (ln P:Nat)),wr ix (p.y.tdiv (ln P:Nat)),wr ix (p.z.tdiv (ln P:Nat)),el _,el _,el _⟩:PT):=⟨_,rfl⟩;have L:xP 2621440 q:=by rw[hq];exact⟨a0B f d r.1,a0B f d r.2.1,a0B f d r.2.2⟩
 refine zK [0,1,1000+ 58] [0,3,5,6] [0,2] (G:={q:Nat×OL TR//q.1<=ln P/\ln q.2.l=q.1/\ ∀t∈q.2.l,mm 2621440 t}) (λg=>[(0,.c (.sli n 0 0 (ln P) c h)),(3,.c (.ptr 1 0)),(5,g.1.2.sl 2),(6,.c (.int (g.1.1:Nat) (aR h g.2.1)))]) (λg=>[(0,⟨.t t,true,bG fp P,0⟩),(1,(⟨.t 33,false,pC q,0⟩:aY)),(2,g.1.2.blk bU 58)]) (λg=>ln P-g.1.1) ⟨(0,OL.none),ah _,rfl,(λt B=>by cases B)⟩ trivial ?_ (hent:=λ_ W=>⟨X,(by exact⟨fr,fr,fr,fr,fr,fr,fr,gm _⟩),(by exact⟨⟨rfl,rfl,rfl,fr⟩,⟨rfl,rfl,rfl,λ_=>by rw[hq];rfl⟩,⟨rfl,rfl,rfl,fr⟩,trivial⟩)⟩);rintro ⟨⟨k,o⟩,u,s,j⟩ vs5;have u:k<=ln P:=u;have s:ln o.l=k:=s;have j: ∀t∈o.l,mm 2621440 t:=j;dsimp only;refine zB ?_ ?_<;>intro N;have e:k<ln P:=dL N;have M:IR (k:Int):=aR h u;have F:(k+1) % ln P<ln P:=fg _ om;have E:IR (((k+1) % ln P:Nat):Int):=a2d d f;refine eS ?_;conv=>arg 2;tactic'=>exact WN rfl rfl rfl i (a2A d e) E
 conv=>whnf
 conv=>arg 2;tactic'=>exact be (k:=((k+1) % ln P)) (hi:=E) rfl rfl rfl rfl F
 refine p6 ?_;exact .inl ⟨rfl,o.app bU 58 (m:=1) (by show(ln o.l+1)*9<=5000000000000;omega),λY k9=> dD [0,1,4] ⟨(k+1,o.push [(⟨P[k],P[(k+1) % ln P],q⟩:TR)] rfl Y k9),e,(by show(o.l++[_]).length=_;rw[aa,s];rfl),(λt B=>dH (p:=mm 2621440) j ⟨A _ (ak e),A _ (ak F),L⟩ B)⟩⟩;exact zO [0,2] [0,1] (I o om j)
end
section
variable {nx:List ZV} {bs:List Bool} {p nl:Bool} {cap m:Nat} {α:Type}
noncomputable def fx8:FuncId->Option Func:=lk [(135, f135),(166, f166),(165, f165),(113, f113)]
theorem a1S: ∀f fn,fx8 f=some fn->iM prog f fn:=nV λx hx=>by
 simp only[br,cd,or_false] at hx
 rcases hx with rfl|rfl|rfl|rfl
 exact⟨func135,kr,kr⟩
 exact⟨func166,kr,kr⟩
 exact⟨func165,kr,kr⟩
 exact⟨func113,kr,kr⟩
def c8C:List (FuncId×cP):=[(188,Q7),(136,Lj),(137,Zj)]
theorem a0M:iL prog c8C:= .cons Wp<| .cons RH<| .cons a1f .nil
def gZ (bs:List Bool) (nx:List ZV):List C:=bG bY bs++bG bI nx
def PL (nx:List ZV):Prop:=ln nx=24/\ ∀z∈nx,-1<=z.x/\z.x<24
theorem PL.set (h:PL nx) (p:Nat) {z:ZV} (hz: -1<=z.x/\z.x<24):PL (nx.set p z):=⟨by rw[aZ];exact h.1,λy hy=>(iW hy).elim (h.2 y) (λe=>e▸hz)⟩
theorem fA (bs:List Bool) (nx:List ZV):mj bY (gZ bs nx) 0 bs:=⟨[],bG bI nx,rfl,rfl⟩
theorem Rh (nx:List ZV) (h:ln bs=8):mj bI (gZ bs nx) 8 nx:=⟨bG bY bs,[],by rw[bk];rfl,by rw[hZ,h];rfl⟩
theorem kC (h:ln bs=8) {p:Nat} (hp:p<ln nx) (z:ZV):ga (gZ bs nx) (8+p*1) [.int z.x z.hx]=some (gZ bs (nx.set p z)):=by
 have e:=km bI hp
 have s:bu (bG bY bs++bG bI (nx.take p))=8+p*1:=by rw[cw,hZ,h,fx bI (bw hp)];rfl
 have e5:gZ bs nx=(bG bY bs++bG bI (nx.take p))++(bI.c nx[p]++bG bI (nx.drop (p+1))):=by unfold gZ;rw[e,aJ]
 rw[e5,<-s,jt _ (bI.c nx[p]) _ [.int z.x z.hx] rfl]
 unfold gZ
 rw[cZ,if_pos hp,en,aJ]
 rfl
theorem dw (bs:List Bool) (nx:List ZV):cC (gZ bs nx):=cJ (ab bY _) (ab bI _)
structure FcG where
 k:Nat
 o:OL ZV
 ins:ZV
 hk:k<=4
 hn:ln o.l<=2*k
 ho: ∀z∈o.l,0<=z.x/\z.x<24
 hi: -1<=ins.x/\ins.x<8
theorem FC {t:TypeId} {w n lim:Nat} {cs:List C} (hcs:bu cs=n*w) (h:bZ nl n cap) (hm:(n+m)*w<=lim):TyX.t t= .t t/\nl=nl/\bu cs=n*w/\(nl=false->bu cs+(cap-n)*w=cap*w)/\(n+m)*w<=lim:=by
 refine⟨rfl,rfl,hcs,λ_=> ?_,hm⟩
 rw[hcs,<-Nat.add_mul]
 have:=h.1
 congr 1;omega
def Vo (l:List α) {n:Nat} (h:bZ nl n cap) (e:n=ln l):OL α:=⟨l,nl,cap,e▸h⟩
theorem KP {l:List α} {n:Nat} (h:bZ nl n cap) (e:n=ln l) (b:Nat) (ρ:fF):(SV.c (.sli nl b 0 n cap h)).den ρ=((Vo l h e).sl b).den ρ:=by subst e;rfl
theorem KQ {l:List α} {n:Nat} (h:bZ nl n cap) (e:n=ln l) (R:RW α) (t:TypeId):(cap-n)*R.n=((Vo l h e).blk R t).tl:=by subst e;rfl
theorem ir4 {k:Nat} (h:k<=4):IR (k:Int):=by unfold IR;omega
theorem Js {z:ZV} (h:0<=z.x/\z.x<24): ∃q:Nat,z.x=(q:Int)/\q<24:=⟨z.x.toNat,om,om⟩
theorem a4L {q:Nat} (h:q<24):IR (q:Int):=by unfold IR;omega
def Qx (_:Nat) (_:Bool):Prop:=True
def di {a:Nat} (_:Qx a p):Nat:=a
def eP {a:Nat} (_:Qx a p):Bool:=p
def p2Q:Nat->Nat
 |0=>1
 |1=>2
 |_=>4
def bQ:Nat->Nat
 |0=>1
 |1=>2
 |_=>0
def dQ:Nat->Nat
 |0=>2
 |1=>0
 |_=>1
def m8:Nat->Nat
 |0=>0
 |1=>8
 |_=>16
def Z9 (a:Nat):Bool->Nat
 |true=>p2Q a
 |false=>0
def vF (a:Nat) (p:Bool):Nat->Nat
 |0=>Z9 a p
 |1=>Z9 a p+p2Q (bQ a)
 |2=>Z9 a p+p2Q (dQ a)
 |_=>Z9 a p+p2Q (bQ a)+p2Q (dQ a)
theorem gX {n:Nat} (h:a6d n 1000=true):IR (n:Int):=by
 have:=aj h
 unfold IR;omega
def cR {a:Nat} (d:Qx a p) (j:Nat):Nat:=vF (di d) (eP d) j
def gS {a:Nat} (d:Qx a p):Nat:=bQ (di d)
def jk {a:Nat} (d:Qx a p):Nat:=dQ (di d)
def a9F {a:Nat} (d:Qx a p):Nat:=Z9 (di d) (eP d)
theorem a6z {n:Nat} (h:a6d (n+1) m=true): -1<=(n:Int)/\(n:Int)<(m:Int):=⟨dM dc (bC _),Int.ofNat_lt.2 (aj h)⟩
theorem a8l {n:Nat} (h:a6d (n+1) m=true):0<=(n:Int)/\(n:Int)<(m:Int):=⟨bC _,Int.ofNat_lt.2 (aj h)⟩
theorem a0y (d:ln bs=8) {k:Nat} (h:a6d (k+1) 8=true):dk (gZ bs nx) (0+k*1) 1=some (bY.c (bs[k]'(by rw[d];exact aj h))):=(fA bs nx).get (k:=k) _
theorem a8n (d:ln bs=8) (e:PL nx) {p:Nat} (h:a6d (p+1) 24=true) (z:ZV):ga (gZ bs nx) (8+p*1) [.int z.x z.hx]=some (gZ bs (nx.set p z)):=kC d (by rw[e.1];exact aj h) z
theorem a8k {l:List ZV} {a:ZV} (h: ∀z∈l,0<=z.x/\z.x<24) (h2:0<=a.x/\a.x<24): ∀z∈l++[a],0<=z.x/\z.x<24:=λ_ d=>dH (p:=λz:ZV=>0<=z.x/\z.x<24) h h2 d
theorem a8t {l:List ZV} {a:ZV} {n:Nat} (h:ln l+1<=n):(l++[a]).length<=n:=by rw[aa];exact h
theorem b0X {l:List ZV} {a b:ZV} {n:Nat} (h:ln l+1+1<=n):(l++[a]++[b]).length<=n:=by rw[aa,aa];exact h
theorem LJ {ax:Nat} {ps:Bool} (hq:Qx ax ps) (hax:ax<3) {hai:IR ((ax:Nat):Int)} {tI:TypeId} {IN bs:List Bool} {nI:Bool} {cI:Nat} {hI:bZ nI IN.length cI} {x0 y0 z0:Int} {hx0:IR x0} {hy0:IR y0} {hz0:IR z0} {nx:List ZV} (h8:bs.length=8) (hnx:PL nx) {K:SV->List aY->Prop}
  (hK: ∀nx2,PL nx2-> ∀ex,K (.tup []) (⟨.t tI,true,bG bY IN,0⟩::⟨128,false,[.int 2 (by decide),.sli nI 0 0 IN.length cI hI],0⟩::⟨168,false,[.int x0 hx0,.int y0 hy0,.int z0 hz0],0⟩::⟨199,false,gZ bs nx2,0⟩::ex)):
  mix c8C (yZ 0) fx8 3 135 [.c (.ptr 3 0),.c (.int (ax:Nat) hai),.c (.val (.bool ps))] [⟨.t tI,true,bG bY IN,0⟩,⟨128,false,[.int 2 (by decide),.sli nI 0 0 IN.length cI hI],0⟩,⟨168,false,[.int x0 hx0,.int y0 hy0,.int z0 hz0],0⟩,⟨199,false,gZ bs nx,0⟩] K:=by
 rcases(by omega:ax=0\/ax=1\/ax=2) with rfl|rfl|rfl<;>cases ps<;>
 (
  conv=>whnf
  refine fC (G:=FcG×(Nat->Value)) (λg=>.c (.ptr 3 0):: .c (.int ((di hq):Nat) (gX rfl)):: .c (.val (.bool (eP hq)))::tn g.2 3 3 (.c (.int ((a9F hq):Nat) (gX rfl)):: .c (.int ((gS hq):Nat) (gX rfl)):: .c (.int ((jk hq):Nat) (gX rfl))::g.1.o.sl 4:: .c (.int g.1.ins.x g.1.ins.hx):: .c (.int (g.1.k:Nat) (ir4 g.1.hk))::tn g.2 12 137 [])) (λg=>[⟨.t tI,true,bG bY IN,0⟩,⟨128,false,[.int 2 (by decide),.sli nI 0 0 IN.length cI hI],0⟩,⟨168,false,[.int x0 hx0,.int y0 hy0,.int z0 hz0],0⟩,⟨199,false,gZ bs nx,0⟩,g.1.o.blk bI 3]) (λg=>4-g.1.k) ?_ ?_
  exact⟨[0,1,2,3,1000+ 3],[0,1,2,6,7,8,9,10,11],[0,3],λvs1=>⟨ab bY _,dw bs nx,_,_,(by(iterate 10 refine⟨λ_=>rfl,?_⟩);exact gm _),(by exact⟨mL _,mL _,mL _,mL _,⟨rfl,rfl,rfl,λ_=>rfl⟩,trivial⟩),(⟨0,OL.none,⟨-1,by decide⟩,ah _,ah _,(λz hz=>by cases hz),by decide⟩,vs1),rfl,rfl⟩⟩
  rintro⟨⟨k,o,ins,hk,hn,ho,hi⟩,vs2⟩
  dsimp only[a9F,gS,jk,di,eP,Z9,p2Q,bQ,dQ]
  have hcase:k=4\/k=0\/k=1\/k=2\/k=3:=by omega
  rcases hcase with rfl|rfl|rfl|rfl|rfl
  conv=>whnf
  refine eB (λe2=> ?_) (λe2=> ?_)
  have h2l:o.l.length=2:=by have:=of_decide_eq_true e2;omega
  have l0:0<o.l.length:=by omega
  have l1:1<o.l.length:=by omega
  have q0:=ho _ (ak l0)
  have q1:=ho _ (ak l1)
  conv=>whnf
  conv=>arg 2;tactic'=>exact be (k:=0) (hi:=(by decide)) rfl rfl rfl rfl l0
  conv=>whnf
  conv=>arg 2;tactic'=>exact ap rfl rfl rfl rfl ((mj.self bI o.l).get l0) rfl
  conv=>whnf
  conv=>arg 2;tactic'=>exact be (k:=1) (hi:=(by decide)) rfl rfl rfl rfl l1
  conv=>whnf
  conv=>arg 2;tactic'=>exact ap rfl rfl rfl rfl ((mj.self bI o.l).get l1) rfl
  conv=>whnf
  refine⟨trivial,_,_,_,_,_,_,_,_,_,rfl,rfl,⟨q0,q1,hi,by decide⟩,λr=> ?_⟩
  conv=>whnf
  refine eB (λer=> ?_) (λer=> ?_)
  conv=>whnf
  obtain⟨k0,hk0,hl0⟩:=Js q0
  have hl0n:k0<nx.length:=by rw[hnx.1];exact hl0
  conv=>arg 2;tactic'=>exact gR (k:=k0) (hi:=(a4L hl0)) rfl rfl rfl (eA hk0) hl0
  conv=>whnf
  conv=>arg 2;tactic'=>exact bM (l:=[.int o.l[1].x o.l[1].hx]) (cs:=gZ bs (nx.set k0 ⟨o.l[1].x,o.l[1].hx⟩)) rfl rfl rfl rfl (⟨rfl,rfl⟩) rfl rfl (kC h8 hl0n ⟨o.l[1].x,o.l[1].hx⟩)
  conv=>whnf
  rw[bV]
  conv=>whnf
  conv=>whnf
  refine eB (λe4y=> ?_) (λe4y=> ?_)
  conv=>whnf
  exact absurd (of_decide_eq_true e4y) (by omega)
  conv=>whnf
  exact hK _ (hnx.set k0 ⟨dM (by decide) q1.1,q1.2⟩) _
  conv=>whnf
  obtain⟨k1,hk1,hl1⟩:=Js q1
  have hl1n:k1<nx.length:=by rw[hnx.1];exact hl1
  conv=>arg 2;tactic'=>exact gR (k:=k1) (hi:=(a4L hl1)) rfl rfl rfl (eA hk1) hl1
  conv=>whnf
  conv=>arg 2;tactic'=>exact bM (l:=[.int o.l[0].x o.l[0].hx]) (cs:=gZ bs (nx.set k1 ⟨o.l[0].x,o.l[0].hx⟩)) rfl rfl rfl rfl (⟨rfl,rfl⟩) rfl rfl (kC h8 hl1n ⟨o.l[0].x,o.l[0].hx⟩)
  conv=>whnf
  rw[bV]
  conv=>whnf
  conv=>whnf
  refine eB (λe4y=> ?_) (λe4y=> ?_)
  conv=>whnf
  exact absurd (of_decide_eq_true e4y) (by omega)
  conv=>whnf
  exact hK _ (hnx.set k1 ⟨dM (by decide) q0.1,q0.2⟩) _
  conv=>whnf
  refine eB (λe4n=> ?_) (λe4n=> ?_)
  conv=>whnf
  refine fC (G:={k:Nat//k<=4/\True}×({nx:List ZV//PL nx}×(Nat->Value))) (λg=>.c (.ptr 3 0):: .c (.int ((di hq):Nat) (gX rfl)):: .c (.val (.bool (eP hq)))::tn g.2.2 3 3 (.c (.int ((a9F hq):Nat) (gX rfl)):: .c (.int ((gS hq):Nat) (gX rfl)):: .c (.int ((jk hq):Nat) (gX rfl))::tn g.2.2 9 4 (.c (.int (g.1.1:Nat) (ir4 g.1.2.1))::tn g.2.2 14 135 []))) (λg=>[⟨.t tI,true,bG bY IN,0⟩,⟨128,false,[.int 2 (by decide),.sli nI 0 0 IN.length cI hI],0⟩,⟨168,false,[.int x0 hx0,.int y0 hy0,.int z0 hz0],0⟩,⟨199,false,gZ bs g.2.1.1,0⟩]) (λg=>4-g.1.1) ?_ ?_
  exact⟨[0,1,2,3],[0,1,2,6,7,8,13],[0,3],λvw1=>⟨ab bY _,dw bs _,_,_,gm _,gz _,(⟨0,ah _,trivial⟩,⟨⟨nx,hnx⟩,vw1⟩),rfl,rfl⟩⟩
  rintro⟨⟨k,hk,-⟩,⟨nx,hnx⟩,vw2⟩
  dsimp only[a9F,gS,jk,di,eP,Z9,p2Q,bQ,dQ]
  have hcase:k=4\/k=0\/k=1\/k=2\/k=3:=by omega
  rcases hcase with rfl|rfl|rfl|rfl|rfl
  conv=>whnf
  exact hK _ hnx _
  conv=>whnf
  conv=>arg 2;tactic'=>exact ap rfl rfl rfl rfl (by exact a0y h8 (k:=cR hq 0) rfl) rfl
  conv=>whnf
  refine eB (λfr0=> ?_) (λfr0=> ?_)
  conv=>whnf
  refine⟨trivial,_,_,_,_,_,_,_,_,_,rfl,rfl,⟨by decide,by decide,by decide,by decide⟩,λr0=> ?_⟩
  conv=>whnf
  refine eB (λer0=> ?_) (λer0=> ?_)
  conv=>whnf
  conv=>arg 2;tactic'=>exact bM (l:=[.int (((cR hq 0)+m8 (jk hq)):Nat) (gX rfl)]) (cs:=gZ bs (nx.set ((cR hq 0)+m8 (gS hq)) ⟨(((cR hq 0)+m8 (jk hq)):Nat),gX rfl⟩)) rfl rfl rfl rfl (⟨rfl,rfl⟩) rfl rfl (by exact a8n h8 hnx rfl ⟨(((cR hq 0)+m8 (jk hq)):Nat),gX rfl⟩)
  conv=>whnf
  rw[bV]
  conv=>whnf
  exact⟨[0,1,2,3],[0,1,2,6,7,8,13],[0,3],λvw3=>⟨ab bY _,dw bs _,_,_,gm _,gz _,(⟨1,by decide,trivial⟩,⟨⟨nx.set ((cR hq 0)+m8 (gS hq)) ⟨(((cR hq 0)+m8 (jk hq)):Nat),gX rfl⟩,hnx.set ((cR hq 0)+m8 (gS hq)) (a6z rfl)⟩,vw3⟩),zL,rfl,rfl⟩⟩
  conv=>whnf
  conv=>arg 2;tactic'=>exact bM (l:=[.int (((cR hq 0)+m8 (gS hq)):Nat) (gX rfl)]) (cs:=gZ bs (nx.set ((cR hq 0)+m8 (jk hq)) ⟨(((cR hq 0)+m8 (gS hq)):Nat),gX rfl⟩)) rfl rfl rfl rfl (⟨rfl,rfl⟩) rfl rfl (by exact a8n h8 hnx rfl ⟨(((cR hq 0)+m8 (gS hq)):Nat),gX rfl⟩)
  conv=>whnf
  rw[bV]
  conv=>whnf
  exact⟨[0,1,2,3],[0,1,2,6,7,8,13],[0,3],λvw3=>⟨ab bY _,dw bs _,_,_,gm _,gz _,(⟨1,by decide,trivial⟩,⟨⟨nx.set ((cR hq 0)+m8 (jk hq)) ⟨(((cR hq 0)+m8 (gS hq)):Nat),gX rfl⟩,hnx.set ((cR hq 0)+m8 (jk hq)) (a6z rfl)⟩,vw3⟩),zL,rfl,rfl⟩⟩
  conv=>whnf
  exact⟨[0,1,2,3],[0,1,2,6,7,8,13],[0,3],λvw3=>⟨ab bY _,dw bs _,_,_,gm _,gz _,(⟨1,by decide,trivial⟩,⟨⟨nx,hnx⟩,vw3⟩),zL,rfl,rfl⟩⟩
  conv=>whnf
  conv=>arg 2;tactic'=>exact ap rfl rfl rfl rfl (by exact a0y h8 (k:=cR hq 1) rfl) rfl
  conv=>whnf
  refine eB (λfr1=> ?_) (λfr1=> ?_)
  conv=>whnf
  refine⟨trivial,_,_,_,_,_,_,_,_,_,rfl,rfl,⟨by decide,by decide,by decide,by decide⟩,λr1=> ?_⟩
  conv=>whnf
  refine eB (λer1=> ?_) (λer1=> ?_)
  conv=>whnf
  conv=>arg 2;tactic'=>exact bM (l:=[.int (((cR hq 1)+m8 (jk hq)):Nat) (gX rfl)]) (cs:=gZ bs (nx.set ((cR hq 0)+m8 (gS hq)) ⟨(((cR hq 1)+m8 (jk hq)):Nat),gX rfl⟩)) rfl rfl rfl rfl (⟨rfl,rfl⟩) rfl rfl (by exact a8n h8 hnx rfl ⟨(((cR hq 1)+m8 (jk hq)):Nat),gX rfl⟩)
  conv=>whnf
  rw[bV]
  conv=>whnf
  exact⟨[0,1,2,3],[0,1,2,6,7,8,13],[0,3],λvw3=>⟨ab bY _,dw bs _,_,_,gm _,gz _,(⟨2,by decide,trivial⟩,⟨⟨nx.set ((cR hq 0)+m8 (gS hq)) ⟨(((cR hq 1)+m8 (jk hq)):Nat),gX rfl⟩,hnx.set ((cR hq 0)+m8 (gS hq)) (a6z rfl)⟩,vw3⟩),zL,rfl,rfl⟩⟩
  conv=>whnf
  conv=>arg 2;tactic'=>exact bM (l:=[.int (((cR hq 0)+m8 (gS hq)):Nat) (gX rfl)]) (cs:=gZ bs (nx.set ((cR hq 1)+m8 (jk hq)) ⟨(((cR hq 0)+m8 (gS hq)):Nat),gX rfl⟩)) rfl rfl rfl rfl (⟨rfl,rfl⟩) rfl rfl (by exact a8n h8 hnx rfl ⟨(((cR hq 0)+m8 (gS hq)):Nat),gX rfl⟩)
  conv=>whnf
  rw[bV]
  conv=>whnf
  exact⟨[0,1,2,3],[0,1,2,6,7,8,13],[0,3],λvw3=>⟨ab bY _,dw bs _,_,_,gm _,gz _,(⟨2,by decide,trivial⟩,⟨⟨nx.set ((cR hq 1)+m8 (jk hq)) ⟨(((cR hq 0)+m8 (gS hq)):Nat),gX rfl⟩,hnx.set ((cR hq 1)+m8 (jk hq)) (a6z rfl)⟩,vw3⟩),zL,rfl,rfl⟩⟩
  conv=>whnf
  exact⟨[0,1,2,3],[0,1,2,6,7,8,13],[0,3],λvw3=>⟨ab bY _,dw bs _,_,_,gm _,gz _,(⟨2,by decide,trivial⟩,⟨⟨nx,hnx⟩,vw3⟩),zL,rfl,rfl⟩⟩
  conv=>whnf
  conv=>arg 2;tactic'=>exact ap rfl rfl rfl rfl (by exact a0y h8 (k:=cR hq 2) rfl) rfl
  conv=>whnf
  refine eB (λfr2=> ?_) (λfr2=> ?_)
  conv=>whnf
  refine⟨trivial,_,_,_,_,_,_,_,_,_,rfl,rfl,⟨by decide,by decide,by decide,by decide⟩,λr2=> ?_⟩
  conv=>whnf
  refine eB (λer2=> ?_) (λer2=> ?_)
  conv=>whnf
  conv=>arg 2;tactic'=>exact bM (l:=[.int (((cR hq 0)+m8 (jk hq)):Nat) (gX rfl)]) (cs:=gZ bs (nx.set ((cR hq 2)+m8 (gS hq)) ⟨(((cR hq 0)+m8 (jk hq)):Nat),gX rfl⟩)) rfl rfl rfl rfl (⟨rfl,rfl⟩) rfl rfl (by exact a8n h8 hnx rfl ⟨(((cR hq 0)+m8 (jk hq)):Nat),gX rfl⟩)
  conv=>whnf
  rw[bV]
  conv=>whnf
  exact⟨[0,1,2,3],[0,1,2,6,7,8,13],[0,3],λvw3=>⟨ab bY _,dw bs _,_,_,gm _,gz _,(⟨3,by decide,trivial⟩,⟨⟨nx.set ((cR hq 2)+m8 (gS hq)) ⟨(((cR hq 0)+m8 (jk hq)):Nat),gX rfl⟩,hnx.set ((cR hq 2)+m8 (gS hq)) (a6z rfl)⟩,vw3⟩),zL,rfl,rfl⟩⟩
  conv=>whnf
  conv=>arg 2;tactic'=>exact bM (l:=[.int (((cR hq 2)+m8 (gS hq)):Nat) (gX rfl)]) (cs:=gZ bs (nx.set ((cR hq 0)+m8 (jk hq)) ⟨(((cR hq 2)+m8 (gS hq)):Nat),gX rfl⟩)) rfl rfl rfl rfl (⟨rfl,rfl⟩) rfl rfl (by exact a8n h8 hnx rfl ⟨(((cR hq 2)+m8 (gS hq)):Nat),gX rfl⟩)
  conv=>whnf
  rw[bV]
  conv=>whnf
  exact⟨[0,1,2,3],[0,1,2,6,7,8,13],[0,3],λvw3=>⟨ab bY _,dw bs _,_,_,gm _,gz _,(⟨3,by decide,trivial⟩,⟨⟨nx.set ((cR hq 0)+m8 (jk hq)) ⟨(((cR hq 2)+m8 (gS hq)):Nat),gX rfl⟩,hnx.set ((cR hq 0)+m8 (jk hq)) (a6z rfl)⟩,vw3⟩),zL,rfl,rfl⟩⟩
  conv=>whnf
  exact⟨[0,1,2,3],[0,1,2,6,7,8,13],[0,3],λvw3=>⟨ab bY _,dw bs _,_,_,gm _,gz _,(⟨3,by decide,trivial⟩,⟨⟨nx,hnx⟩,vw3⟩),zL,rfl,rfl⟩⟩
  conv=>whnf
  conv=>arg 2;tactic'=>exact ap rfl rfl rfl rfl (by exact a0y h8 (k:=cR hq 3) rfl) rfl
  conv=>whnf
  refine eB (λfr3=> ?_) (λfr3=> ?_)
  conv=>whnf
  refine⟨trivial,_,_,_,_,_,_,_,_,_,rfl,rfl,⟨by decide,by decide,by decide,by decide⟩,λr3=> ?_⟩
  conv=>whnf
  refine eB (λer3=> ?_) (λer3=> ?_)
  conv=>whnf
  conv=>arg 2;tactic'=>exact bM (l:=[.int (((cR hq 1)+m8 (jk hq)):Nat) (gX rfl)]) (cs:=gZ bs (nx.set ((cR hq 2)+m8 (gS hq)) ⟨(((cR hq 1)+m8 (jk hq)):Nat),gX rfl⟩)) rfl rfl rfl rfl (⟨rfl,rfl⟩) rfl rfl (by exact a8n h8 hnx rfl ⟨(((cR hq 1)+m8 (jk hq)):Nat),gX rfl⟩)
  conv=>whnf
  rw[bV]
  conv=>whnf
  exact⟨[0,1,2,3],[0,1,2,6,7,8,13],[0,3],λvw3=>⟨ab bY _,dw bs _,_,_,gm _,gz _,(⟨4,by decide,trivial⟩,⟨⟨nx.set ((cR hq 2)+m8 (gS hq)) ⟨(((cR hq 1)+m8 (jk hq)):Nat),gX rfl⟩,hnx.set ((cR hq 2)+m8 (gS hq)) (a6z rfl)⟩,vw3⟩),zL,rfl,rfl⟩⟩
  conv=>whnf
  conv=>arg 2;tactic'=>exact bM (l:=[.int (((cR hq 2)+m8 (gS hq)):Nat) (gX rfl)]) (cs:=gZ bs (nx.set ((cR hq 1)+m8 (jk hq)) ⟨(((cR hq 2)+m8 (gS hq)):Nat),gX rfl⟩)) rfl rfl rfl rfl (⟨rfl,rfl⟩) rfl rfl (by exact a8n h8 hnx rfl ⟨(((cR hq 2)+m8 (gS hq)):Nat),gX rfl⟩)
  conv=>whnf
  rw[bV]
  conv=>whnf
  exact⟨[0,1,2,3],[0,1,2,6,7,8,13],[0,3],λvw3=>⟨ab bY _,dw bs _,_,_,gm _,gz _,(⟨4,by decide,trivial⟩,⟨⟨nx.set ((cR hq 1)+m8 (jk hq)) ⟨(((cR hq 2)+m8 (gS hq)):Nat),gX rfl⟩,hnx.set ((cR hq 1)+m8 (jk hq)) (a6z rfl)⟩,vw3⟩),zL,rfl,rfl⟩⟩
  conv=>whnf
  exact⟨[0,1,2,3],[0,1,2,6,7,8,13],[0,3],λvw3=>⟨ab bY _,dw bs _,_,_,gm _,gz _,(⟨4,by decide,trivial⟩,⟨⟨nx,hnx⟩,vw3⟩),zL,rfl,rfl⟩⟩
  conv=>whnf
  exact hK _ hnx _
  conv=>whnf
  conv=>arg 2;tactic'=>exact ap rfl rfl rfl rfl (by exact a0y h8 (k:=cR hq 0) rfl) rfl
  conv=>whnf
  refine eB (λf0=> ?_) (λf0=> ?_)
  conv=>whnf
  conv=>arg 2;tactic'=>exact ap rfl rfl rfl rfl (by exact a0y h8 (k:=cR hq 0) rfl) rfl
  conv=>whnf
  conv=>arg 2;tactic'=>exact ap rfl rfl rfl rfl (by exact a0y h8 (k:=cR hq 1) rfl) rfl
  conv=>whnf
  refine eB (λg0=> ?_) (λg0=> ?_)
  conv=>whnf
  refine .inl ⟨rfl,o.app bI 3 (m:=1) (by show(o.l.length+1)*1<=5000000000000;omega),λc1 k1=> ?_⟩
  conv=>whnf
  conv=>arg 2;tactic'=>exact ap rfl rfl rfl rfl (by exact a0y h8 (k:=cR hq 0) rfl) rfl
  conv=>whnf
  conv=>arg 2;tactic'=>exact ap rfl rfl rfl rfl (by exact a0y h8 (k:=cR hq 2) rfl) rfl
  conv=>whnf
  refine eB (λg1=> ?_) (λg1=> ?_)
  conv=>whnf
  refine .inl ⟨rfl,FC (by rw[cw,hZ];rfl) k1 (by omega),λc2 k2=> ?_⟩
  conv=>whnf
  have hk2:o.l.length+1+1=(o.l++[(⟨(((cR hq 0)+m8 (gS hq)):Nat),gX rfl⟩:ZV)]++[(⟨(((cR hq 0)+m8 (jk hq)):Nat),gX rfl⟩:ZV)]).length:=by rw[aa,aa];rfl
  exact⟨[0,1,2,3,8],[0,1,2,6,7,8,9,10,11],[0,3,4],λvs3=>⟨ab bY _,dw bs nx,cJ (cJ (ab bI _) (λ_ _=>rfl)) (λ_ _=>rfl),_,_,(by(iterate 9 refine⟨λ_=>rfl,?_⟩);refine⟨λρ=>KP k2 hk2 4 ρ,?_⟩;refine⟨λ_=>rfl,λ_=>rfl,?_⟩;exact gm _),(by exact⟨mL _,mL _,mL _,mL _,⟨rfl,rfl,KQ k2 hk2 bI _,λρ=>by show _=af ρ (bG bI (o.l++[(⟨(((cR hq 0)+m8 (gS hq)):Nat),gX rfl⟩:ZV)]++[(⟨(((cR hq 0)+m8 (jk hq)):Nat),gX rfl⟩:ZV)]));rw[en,en];rfl⟩,trivial⟩),(⟨1,(Vo (o.l++[(⟨(((cR hq 0)+m8 (gS hq)):Nat),gX rfl⟩:ZV)]++[(⟨(((cR hq 0)+m8 (jk hq)):Nat),gX rfl⟩:ZV)]) k2 hk2),⟨((cR hq 0):Nat),gX rfl⟩,(by decide),(b0X (by omega)),(a8k (a8k ho (a8l rfl)) (a8l rfl)),(a6z rfl)⟩,vs3),zL,rfl,rfl⟩⟩
  conv=>whnf
  exact⟨[0,1,2,3,6],[0,1,2,6,7,8,9,10,11],[0,3,4],λvs3=>⟨ab bY _,dw bs nx,cJ (ab bI _) (λ_ _=>rfl),_,_,(by(iterate 9 refine⟨λ_=>rfl,?_⟩);refine⟨λρ=>o.push_sl (n:=1) [(⟨(((cR hq 0)+m8 (gS hq)):Nat),gX rfl⟩:ZV)] rfl c1 k1 4 ρ,?_⟩;refine⟨λ_=>rfl,λ_=>rfl,?_⟩;exact gm _),(by exact⟨mL _,mL _,mL _,⟨rfl,rfl,rfl,λ_=>rfl⟩,o.push_blk bI 3 (n:=1) [(⟨(((cR hq 0)+m8 (gS hq)):Nat),gX rfl⟩:ZV)] rfl c1 k1 (λ_=>rfl),trivial⟩),(⟨1,(o.push [(⟨(((cR hq 0)+m8 (gS hq)):Nat),gX rfl⟩:ZV)] rfl c1 k1),⟨((cR hq 0):Nat),gX rfl⟩,(by decide),(a8t (by omega)),(a8k ho (a8l rfl)),(a6z rfl)⟩,vs3),zL,rfl,rfl⟩⟩
  conv=>whnf
  conv=>arg 2;tactic'=>exact ap rfl rfl rfl rfl (by exact a0y h8 (k:=cR hq 0) rfl) rfl
  conv=>whnf
  conv=>arg 2;tactic'=>exact ap rfl rfl rfl rfl (by exact a0y h8 (k:=cR hq 2) rfl) rfl
  conv=>whnf
  refine eB (λg1=> ?_) (λg1=> ?_)
  conv=>whnf
  exact .inl ⟨rfl,o.app bI 3 (m:=1) (by show(o.l.length+1)*1<=5000000000000;omega),λc1 k1=>⟨[0,1,2,3,6],[0,1,2,6,7,8,9,10,11],[0,3,4],λvs3=>⟨ab bY _,dw bs nx,cJ (ab bI _) (λ_ _=>rfl),_,_,(by(iterate 9 refine⟨λ_=>rfl,?_⟩);refine⟨λρ=>o.push_sl (n:=1) [(⟨(((cR hq 0)+m8 (jk hq)):Nat),gX rfl⟩:ZV)] rfl c1 k1 4 ρ,?_⟩;refine⟨λ_=>rfl,λ_=>rfl,?_⟩;exact gm _),(by exact⟨mL _,mL _,mL _,⟨rfl,rfl,rfl,λ_=>rfl⟩,o.push_blk bI 3 (n:=1) [(⟨(((cR hq 0)+m8 (jk hq)):Nat),gX rfl⟩:ZV)] rfl c1 k1 (λ_=>rfl),trivial⟩),(⟨1,(o.push [(⟨(((cR hq 0)+m8 (jk hq)):Nat),gX rfl⟩:ZV)] rfl c1 k1),⟨((cR hq 0):Nat),gX rfl⟩,(by decide),(a8t (by omega)),(a8k ho (a8l rfl)),(a6z rfl)⟩,vs3),zL,rfl,rfl⟩⟩⟩
  conv=>whnf
  exact⟨[0,1,2,3,4],[0,1,2,6,7,8,9,10,11],[0,3,4],λvs3=>⟨ab bY _,dw bs nx,ab bI _,_,_,gm _,gz _,(⟨1,o,⟨((cR hq 0):Nat),gX rfl⟩,(by decide),(by show o.l.length<=_;omega),ho,(a6z rfl)⟩,vs3),zL,rfl,rfl⟩⟩
  conv=>whnf
  conv=>arg 2;tactic'=>exact ap rfl rfl rfl rfl (by exact a0y h8 (k:=cR hq 0) rfl) rfl
  conv=>whnf
  conv=>arg 2;tactic'=>exact ap rfl rfl rfl rfl (by exact a0y h8 (k:=cR hq 1) rfl) rfl
  conv=>whnf
  refine eB (λg0=> ?_) (λg0=> ?_)
  conv=>whnf
  refine .inl ⟨rfl,o.app bI 3 (m:=1) (by show(o.l.length+1)*1<=5000000000000;omega),λc1 k1=> ?_⟩
  conv=>whnf
  conv=>arg 2;tactic'=>exact ap rfl rfl rfl rfl (by exact a0y h8 (k:=cR hq 0) rfl) rfl
  conv=>whnf
  conv=>arg 2;tactic'=>exact ap rfl rfl rfl rfl (by exact a0y h8 (k:=cR hq 2) rfl) rfl
  conv=>whnf
  refine eB (λg1=> ?_) (λg1=> ?_)
  conv=>whnf
  refine .inl ⟨rfl,FC (by rw[cw,hZ];rfl) k1 (by omega),λc2 k2=> ?_⟩
  conv=>whnf
  have hk2:o.l.length+1+1=(o.l++[(⟨(((cR hq 0)+m8 (gS hq)):Nat),gX rfl⟩:ZV)]++[(⟨(((cR hq 0)+m8 (jk hq)):Nat),gX rfl⟩:ZV)]).length:=by rw[aa,aa];rfl
  exact⟨[0,1,2,3,8],[0,1,2,6,7,8,9,10,11],[0,3,4],λvs3=>⟨ab bY _,dw bs nx,cJ (cJ (ab bI _) (λ_ _=>rfl)) (λ_ _=>rfl),_,_,(by(iterate 9 refine⟨λ_=>rfl,?_⟩);refine⟨λρ=>KP k2 hk2 4 ρ,?_⟩;refine⟨λ_=>rfl,λ_=>rfl,?_⟩;exact gm _),(by exact⟨mL _,mL _,mL _,mL _,⟨rfl,rfl,KQ k2 hk2 bI _,λρ=>by show _=af ρ (bG bI (o.l++[(⟨(((cR hq 0)+m8 (gS hq)):Nat),gX rfl⟩:ZV)]++[(⟨(((cR hq 0)+m8 (jk hq)):Nat),gX rfl⟩:ZV)]));rw[en,en];rfl⟩,trivial⟩),(⟨1,(Vo (o.l++[(⟨(((cR hq 0)+m8 (gS hq)):Nat),gX rfl⟩:ZV)]++[(⟨(((cR hq 0)+m8 (jk hq)):Nat),gX rfl⟩:ZV)]) k2 hk2),ins,(by decide),(b0X (by omega)),(a8k (a8k ho (a8l rfl)) (a8l rfl)),hi⟩,vs3),zL,rfl,rfl⟩⟩
  conv=>whnf
  exact⟨[0,1,2,3,6],[0,1,2,6,7,8,9,10,11],[0,3,4],λvs3=>⟨ab bY _,dw bs nx,cJ (ab bI _) (λ_ _=>rfl),_,_,(by(iterate 9 refine⟨λ_=>rfl,?_⟩);refine⟨λρ=>o.push_sl (n:=1) [(⟨(((cR hq 0)+m8 (gS hq)):Nat),gX rfl⟩:ZV)] rfl c1 k1 4 ρ,?_⟩;refine⟨λ_=>rfl,λ_=>rfl,?_⟩;exact gm _),(by exact⟨mL _,mL _,mL _,⟨rfl,rfl,rfl,λ_=>rfl⟩,o.push_blk bI 3 (n:=1) [(⟨(((cR hq 0)+m8 (gS hq)):Nat),gX rfl⟩:ZV)] rfl c1 k1 (λ_=>rfl),trivial⟩),(⟨1,(o.push [(⟨(((cR hq 0)+m8 (gS hq)):Nat),gX rfl⟩:ZV)] rfl c1 k1),ins,(by decide),(a8t (by omega)),(a8k ho (a8l rfl)),hi⟩,vs3),zL,rfl,rfl⟩⟩
  conv=>whnf
  conv=>arg 2;tactic'=>exact ap rfl rfl rfl rfl (by exact a0y h8 (k:=cR hq 0) rfl) rfl
  conv=>whnf
  conv=>arg 2;tactic'=>exact ap rfl rfl rfl rfl (by exact a0y h8 (k:=cR hq 2) rfl) rfl
  conv=>whnf
  refine eB (λg1=> ?_) (λg1=> ?_)
  conv=>whnf
  exact .inl ⟨rfl,o.app bI 3 (m:=1) (by show(o.l.length+1)*1<=5000000000000;omega),λc1 k1=>⟨[0,1,2,3,6],[0,1,2,6,7,8,9,10,11],[0,3,4],λvs3=>⟨ab bY _,dw bs nx,cJ (ab bI _) (λ_ _=>rfl),_,_,(by(iterate 9 refine⟨λ_=>rfl,?_⟩);refine⟨λρ=>o.push_sl (n:=1) [(⟨(((cR hq 0)+m8 (jk hq)):Nat),gX rfl⟩:ZV)] rfl c1 k1 4 ρ,?_⟩;refine⟨λ_=>rfl,λ_=>rfl,?_⟩;exact gm _),(by exact⟨mL _,mL _,mL _,⟨rfl,rfl,rfl,λ_=>rfl⟩,o.push_blk bI 3 (n:=1) [(⟨(((cR hq 0)+m8 (jk hq)):Nat),gX rfl⟩:ZV)] rfl c1 k1 (λ_=>rfl),trivial⟩),(⟨1,(o.push [(⟨(((cR hq 0)+m8 (jk hq)):Nat),gX rfl⟩:ZV)] rfl c1 k1),ins,(by decide),(a8t (by omega)),(a8k ho (a8l rfl)),hi⟩,vs3),zL,rfl,rfl⟩⟩⟩
  conv=>whnf
  exact⟨[0,1,2,3,4],[0,1,2,6,7,8,9,10,11],[0,3,4],λvs3=>⟨ab bY _,dw bs nx,ab bI _,_,_,gm _,gz _,(⟨1,o,ins,(by decide),(by show o.l.length<=_;omega),ho,hi⟩,vs3),zL,rfl,rfl⟩⟩
  conv=>whnf
  conv=>arg 2;tactic'=>exact ap rfl rfl rfl rfl (by exact a0y h8 (k:=cR hq 1) rfl) rfl
  conv=>whnf
  refine eB (λf0=> ?_) (λf0=> ?_)
  conv=>whnf
  conv=>arg 2;tactic'=>exact ap rfl rfl rfl rfl (by exact a0y h8 (k:=cR hq 1) rfl) rfl
  conv=>whnf
  conv=>arg 2;tactic'=>exact ap rfl rfl rfl rfl (by exact a0y h8 (k:=cR hq 3) rfl) rfl
  conv=>whnf
  refine eB (λg1=> ?_) (λg1=> ?_)
  conv=>whnf
  exact .inl ⟨rfl,o.app bI 3 (m:=1) (by show(o.l.length+1)*1<=5000000000000;omega),λc1 k1=>⟨[0,1,2,3,6],[0,1,2,6,7,8,9,10,11],[0,3,4],λvs3=>⟨ab bY _,dw bs nx,cJ (ab bI _) (λ_ _=>rfl),_,_,(by(iterate 9 refine⟨λ_=>rfl,?_⟩);refine⟨λρ=>o.push_sl (n:=1) [(⟨(((cR hq 1)+m8 (jk hq)):Nat),gX rfl⟩:ZV)] rfl c1 k1 4 ρ,?_⟩;refine⟨λ_=>rfl,λ_=>rfl,?_⟩;exact gm _),(by exact⟨mL _,mL _,mL _,⟨rfl,rfl,rfl,λ_=>rfl⟩,o.push_blk bI 3 (n:=1) [(⟨(((cR hq 1)+m8 (jk hq)):Nat),gX rfl⟩:ZV)] rfl c1 k1 (λ_=>rfl),trivial⟩),(⟨2,(o.push [(⟨(((cR hq 1)+m8 (jk hq)):Nat),gX rfl⟩:ZV)] rfl c1 k1),⟨((cR hq 1):Nat),gX rfl⟩,(by decide),(a8t (by omega)),(a8k ho (a8l rfl)),(a6z rfl)⟩,vs3),zL,rfl,rfl⟩⟩⟩
  conv=>whnf
  exact⟨[0,1,2,3,4],[0,1,2,6,7,8,9,10,11],[0,3,4],λvs3=>⟨ab bY _,dw bs nx,ab bI _,_,_,gm _,gz _,(⟨2,o,⟨((cR hq 1):Nat),gX rfl⟩,(by decide),(by show o.l.length<=_;omega),ho,(a6z rfl)⟩,vs3),zL,rfl,rfl⟩⟩
  conv=>whnf
  conv=>arg 2;tactic'=>exact ap rfl rfl rfl rfl (by exact a0y h8 (k:=cR hq 1) rfl) rfl
  conv=>whnf
  conv=>arg 2;tactic'=>exact ap rfl rfl rfl rfl (by exact a0y h8 (k:=cR hq 3) rfl) rfl
  conv=>whnf
  refine eB (λg1=> ?_) (λg1=> ?_)
  conv=>whnf
  exact .inl ⟨rfl,o.app bI 3 (m:=1) (by show(o.l.length+1)*1<=5000000000000;omega),λc1 k1=>⟨[0,1,2,3,6],[0,1,2,6,7,8,9,10,11],[0,3,4],λvs3=>⟨ab bY _,dw bs nx,cJ (ab bI _) (λ_ _=>rfl),_,_,(by(iterate 9 refine⟨λ_=>rfl,?_⟩);refine⟨λρ=>o.push_sl (n:=1) [(⟨(((cR hq 1)+m8 (jk hq)):Nat),gX rfl⟩:ZV)] rfl c1 k1 4 ρ,?_⟩;refine⟨λ_=>rfl,λ_=>rfl,?_⟩;exact gm _),(by exact⟨mL _,mL _,mL _,⟨rfl,rfl,rfl,λ_=>rfl⟩,o.push_blk bI 3 (n:=1) [(⟨(((cR hq 1)+m8 (jk hq)):Nat),gX rfl⟩:ZV)] rfl c1 k1 (λ_=>rfl),trivial⟩),(⟨2,(o.push [(⟨(((cR hq 1)+m8 (jk hq)):Nat),gX rfl⟩:ZV)] rfl c1 k1),ins,(by decide),(a8t (by omega)),(a8k ho (a8l rfl)),hi⟩,vs3),zL,rfl,rfl⟩⟩⟩
  conv=>whnf
  exact⟨[0,1,2,3,4],[0,1,2,6,7,8,9,10,11],[0,3,4],λvs3=>⟨ab bY _,dw bs nx,ab bI _,_,_,gm _,gz _,(⟨2,o,ins,(by decide),(by show o.l.length<=_;omega),ho,hi⟩,vs3),zL,rfl,rfl⟩⟩
  conv=>whnf
  conv=>arg 2;tactic'=>exact ap rfl rfl rfl rfl (by exact a0y h8 (k:=cR hq 2) rfl) rfl
  conv=>whnf
  refine eB (λf0=> ?_) (λf0=> ?_)
  conv=>whnf
  conv=>arg 2;tactic'=>exact ap rfl rfl rfl rfl (by exact a0y h8 (k:=cR hq 2) rfl) rfl
  conv=>whnf
  conv=>arg 2;tactic'=>exact ap rfl rfl rfl rfl (by exact a0y h8 (k:=cR hq 3) rfl) rfl
  conv=>whnf
  refine eB (λg0=> ?_) (λg0=> ?_)
  conv=>whnf
  exact .inl ⟨rfl,o.app bI 3 (m:=1) (by show(o.l.length+1)*1<=5000000000000;omega),λc1 k1=>⟨[0,1,2,3,6],[0,1,2,6,7,8,9,10,11],[0,3,4],λvs3=>⟨ab bY _,dw bs nx,cJ (ab bI _) (λ_ _=>rfl),_,_,(by(iterate 9 refine⟨λ_=>rfl,?_⟩);refine⟨λρ=>o.push_sl (n:=1) [(⟨(((cR hq 2)+m8 (gS hq)):Nat),gX rfl⟩:ZV)] rfl c1 k1 4 ρ,?_⟩;refine⟨λ_=>rfl,λ_=>rfl,?_⟩;exact gm _),(by exact⟨mL _,mL _,mL _,⟨rfl,rfl,rfl,λ_=>rfl⟩,o.push_blk bI 3 (n:=1) [(⟨(((cR hq 2)+m8 (gS hq)):Nat),gX rfl⟩:ZV)] rfl c1 k1 (λ_=>rfl),trivial⟩),(⟨3,(o.push [(⟨(((cR hq 2)+m8 (gS hq)):Nat),gX rfl⟩:ZV)] rfl c1 k1),⟨((cR hq 2):Nat),gX rfl⟩,(by decide),(a8t (by omega)),(a8k ho (a8l rfl)),(a6z rfl)⟩,vs3),zL,rfl,rfl⟩⟩⟩
  conv=>whnf
  exact⟨[0,1,2,3,4],[0,1,2,6,7,8,9,10,11],[0,3,4],λvs3=>⟨ab bY _,dw bs nx,ab bI _,_,_,gm _,gz _,(⟨3,o,⟨((cR hq 2):Nat),gX rfl⟩,(by decide),(by show o.l.length<=_;omega),ho,(a6z rfl)⟩,vs3),zL,rfl,rfl⟩⟩
  conv=>whnf
  conv=>arg 2;tactic'=>exact ap rfl rfl rfl rfl (by exact a0y h8 (k:=cR hq 2) rfl) rfl
  conv=>whnf
  conv=>arg 2;tactic'=>exact ap rfl rfl rfl rfl (by exact a0y h8 (k:=cR hq 3) rfl) rfl
  conv=>whnf
  refine eB (λg0=> ?_) (λg0=> ?_)
  conv=>whnf
  exact .inl ⟨rfl,o.app bI 3 (m:=1) (by show(o.l.length+1)*1<=5000000000000;omega),λc1 k1=>⟨[0,1,2,3,6],[0,1,2,6,7,8,9,10,11],[0,3,4],λvs3=>⟨ab bY _,dw bs nx,cJ (ab bI _) (λ_ _=>rfl),_,_,(by(iterate 9 refine⟨λ_=>rfl,?_⟩);refine⟨λρ=>o.push_sl (n:=1) [(⟨(((cR hq 2)+m8 (gS hq)):Nat),gX rfl⟩:ZV)] rfl c1 k1 4 ρ,?_⟩;refine⟨λ_=>rfl,λ_=>rfl,?_⟩;exact gm _),(by exact⟨mL _,mL _,mL _,⟨rfl,rfl,rfl,λ_=>rfl⟩,o.push_blk bI 3 (n:=1) [(⟨(((cR hq 2)+m8 (gS hq)):Nat),gX rfl⟩:ZV)] rfl c1 k1 (λ_=>rfl),trivial⟩),(⟨3,(o.push [(⟨(((cR hq 2)+m8 (gS hq)):Nat),gX rfl⟩:ZV)] rfl c1 k1),ins,(by decide),(a8t (by omega)),(a8k ho (a8l rfl)),hi⟩,vs3),zL,rfl,rfl⟩⟩⟩
  conv=>whnf
  exact⟨[0,1,2,3,4],[0,1,2,6,7,8,9,10,11],[0,3,4],λvs3=>⟨ab bY _,dw bs nx,ab bI _,_,_,gm _,gz _,(⟨3,o,ins,(by decide),(by show o.l.length<=_;omega),ho,hi⟩,vs3),zL,rfl,rfl⟩⟩
  conv=>whnf
  conv=>arg 2;tactic'=>exact ap rfl rfl rfl rfl (by exact a0y h8 (k:=cR hq 3) rfl) rfl
  conv=>whnf
  refine eB (λf0=> ?_) (λf0=> ?_)
  conv=>whnf
  exact⟨[0,1,2,3,4],[0,1,2,6,7,8,9,10,11],[0,3,4],λvs3=>⟨ab bY _,dw bs nx,ab bI _,_,_,gm _,gz _,(⟨4,o,⟨((cR hq 3):Nat),gX rfl⟩,(by decide),(by show o.l.length<=_;omega),ho,(a6z rfl)⟩,vs3),zL,rfl,rfl⟩⟩
  conv=>whnf
  exact⟨[0,1,2,3,4],[0,1,2,6,7,8,9,10,11],[0,3,4],λvs3=>⟨ab bY _,dw bs nx,ab bI _,_,_,gm _,gz _,(⟨4,o,ins,(by decide),(by show o.l.length<=_;omega),ho,hi⟩,vs3),zL,rfl,rfl⟩⟩
 )
end
def Vg (z:Int):ZV:=⟨wr ix z,el z⟩
def UD (c:ZV):ZV:=if c.x.tmod 2<0 then Vg ((wr ix (c.x-1)).tdiv 2) else Vg ((wr ix (c.x-c.x.tmod 2)).tdiv 2)
def a5U {c} (h:c.x.tmod 2<0):wr ix ((wr ix (c.x-1)).tdiv 2)=(UD c).x:=by unfold UD;rw[if_pos h];rfl
def a5T {c} (h: ¬c.x.tmod 2<0):wr ix ((wr ix (c.x-c.x.tmod 2)).tdiv 2)=(UD c).x:=by unfold UD;rw[if_neg h];rfl
def OS:Nat->ZV->ZV
 |0,c=>c
 |k+1,c=>UD (OS k c)
def kJ (c:ZV) (n:Int):ZV:=OS n.toNat c
def a0V:cP:=λd e K=> ∃c hc n hn,d=[.c (.int c hc),.c (.int n hn)]/\e=[]/\K (.c (.int (kJ ⟨c,hc⟩ n).x (kJ ⟨c,hc⟩ n).hx)) []
def a3h {n} (h:IR n) {k:Nat} (hk:k<=n.toNat):IR (k:Int):=by unfold IR at*;omega
def Ib {n} (h:IR n) {k:Nat} (hk:k<n.toNat):wr ix ((k:Int)+1)=((k+1:Nat):Int):=by rw[cN (by unfold IR at*;omega)];omega
def Wo:jv prog 144 a0V:=cV (dK 0) bj (ck (dK 0) bj bg 0) ⟨func144,kr,kr⟩ λy B K p=>by
 obtain⟨c,d,n,o,rfl,rfl,p⟩:=p;refine⟨zD,?_⟩;conv=>whnf
 refine fC (G:={q:Nat×ZV//q.1<=n.toNat/\q.2=OS q.1 ⟨c,d⟩}×(Nat->Value)) (λg=>(.c (.int g.1.1.2.x g.1.1.2.hx):: .c (.int n o):: .c (.val (g.2 2)):: .c (.val (g.2 3)):: .c (.val (g.2 4)):: .c (.int (g.1.1.1:Nat) (a3h o g.1.2.1)):: .c (.val (g.2 6)):: .c (.val (g.2 7)):: .c (.val (g.2 8)):: .c (.val (g.2 9)):: .c (.val (g.2 10)):: .c (.val (g.2 11)):: .c (.val (g.2 12)):: .c (.val (g.2 13)):: .c (.val (g.2 14)):: .c (.val (g.2 15)):: .c (.val (g.2 16)):: .c (.val (g.2 17)):: .c (.val (g.2 18)):: .c (.val (g.2 19)):: .c (.val (g.2 20))::[])) (λg=>[]) (λg=>n.toNat-g.1.1.1) ?_ ?_;refine⟨[],[0,1,5],[],λr=> ?_⟩;refine⟨_,_,?_,?_,(⟨(0,⟨c,d⟩),ah _,rfl⟩,r),rfl,rfl⟩;exact⟨fr,fr,fr,fr,fr,fr,gm _⟩;exact trivial;rintro⟨⟨⟨k,z⟩,u,j⟩,E⟩;have u:k<=n.toNat:=u;have j:z=OS k ⟨c,d⟩:=j;dsimp only;refine zB ?_ ?_<;>intro m;have s:(k:Int)<n:=of_decide_eq_true m;have e:k<n.toNat:=om;refine zB ?_ ?_<;>intro i;have i:z.x.tmod 2<0:=of_decide_eq_true i;refine⟨[],[0,1,5],[],λh=> ?_⟩;refine⟨_,_,?_,?_,(⟨(k+1,UD z),e,(by show UD z=UD (OS k _);rw[j])⟩,h),(by show n.toNat-(k+1)<n.toNat-k;omega),rfl,rfl⟩;exact⟨λf=>kM (a5U i) f,fr,fr,fr,fr,λf=>kM (Ib o e) f,gm _⟩;exact trivial;have i: ¬z.x.tmod 2<0:=of_decide_eq_false i;refine⟨[],[0,1,5],[],λh=> ?_⟩;refine⟨_,_,?_,?_,(⟨(k+1,UD z),e,(by show UD z=UD (OS k _);rw[j])⟩,h),(by show n.toNat-(k+1)<n.toNat-k;omega),rfl,rfl⟩;exact⟨λf=>kM (a5T i) f,fr,fr,fr,fr,λf=>kM (Ib o e) f,gm _⟩;exact trivial;have A: ¬(k:Int)<n:=of_decide_eq_false m;obtain rfl:k=n.toNat:=om;refine⟨[],[],λD=> ?_⟩;exact⟨_,[],rfl,trivial,trivial,.c (.int (kJ ⟨c,d⟩ n).x (kJ ⟨c,d⟩ n).hx),λf=>kM (congrArg ZV.x j) f,p⟩
noncomputable def Ji:Dr
 |[.c (.int c hc),.c (.int n _)],_=>some (none,.c (.int (kJ ⟨c,hc⟩ n).x (kJ ⟨c,hc⟩ n).hx))
 |_,_=>none
def Yx:CY prog 144 Ji:=pS Wo λe j p v d=>by unfold Ji at d;split at d;rename_i c f n h;cases d;refine⟨ff,λ_=>⟨[.c (.int c f),.c (.int n _)],[],[],⟨c,f,n,h,rfl,rfl,fr⟩,trivial,trivial,fr,λi b g=> ?_⟩⟩;simp[an] at g;cases d
noncomputable def a5n:List (FuncId×Dr):=[(144,Ji)]
def X2:nN a5n:= .cons Yx .nil
noncomputable def a4c (un:Nat):ic:=p7 (yZ un) a5n
def Gh un:iU prog (a4c un):=jM (dK un) X2
def nm (c:ZV) (n:Int) (s:Bool):ZV:=if(!s)=true then kJ c n else if n=0 then kJ c n else if(kJ c (Vg (n-1)).x).x.tmod 2=0 then Vg ((kJ c (Vg (n-1)).x).x.tdiv 2) else Vg ((kJ (kJ c (Vg (n-1)).x) 1).x+1)
def a0P:cP:=λd e K=> ∃c hc n hn s,d=[.c (.int c hc),.c (.int n hn),.c (.val (.bool s))]/\e=[]/\K (.c (.int (nm ⟨c,hc⟩ n s).x (nm ⟨c,hc⟩ n s).hx)) []
def Wa:jv prog 122 a0P:=cV (Gh 0) bj (ck (Gh 0) bj bg 0) ⟨func122,kr,kr⟩ λk m K j=>by obtain⟨c,d,n,o,s,rfl,rfl,j⟩:=j;refine⟨zD,?_⟩;refine zB ?_ ?_<;>intro e;have e:(!s)=true:=e;exact⟨[],[],λf=>⟨_,[],rfl,trivial,trivial,.c (.int (nm ⟨c,d⟩ n s).x (nm ⟨c,d⟩ n s).hx),λh=>kM (by unfold nm;rw[if_pos e]) h,j⟩⟩;have e:(!s)=false:=e;refine zB ?_ ?_<;>intro g;have g:n=0:=of_decide_eq_true g;exact⟨[],[],λf=>⟨_,[],rfl,trivial,trivial,.c (.int (nm ⟨c,d⟩ n s).x (nm ⟨c,d⟩ n s).hx),λh=>kM (by unfold nm;rw[if_neg (by rw[e];decide),if_pos g]) h,j⟩⟩;have g: ¬n=0:=of_decide_eq_false g;refine zB ?_ ?_<;>intro i;have i:(kJ ⟨c,d⟩ (Vg (n-1)).x).x.tmod 2=0:=of_decide_eq_true i;exact⟨[],[],λf=>⟨_,[],rfl,trivial,trivial,.c (.int (nm ⟨c,d⟩ n s).x (nm ⟨c,d⟩ n s).hx),λh=>kM (by unfold nm;rw[if_neg (by rw[e];decide),if_neg g,if_pos i];rfl) h,j⟩⟩;have i: ¬(kJ ⟨c,d⟩ (Vg (n-1)).x).x.tmod 2=0:=of_decide_eq_false i;exact⟨[],[],λf=>⟨_,[],rfl,trivial,trivial,.c (.int (nm ⟨c,d⟩ n s).x (nm ⟨c,d⟩ n s).hx),λh=>kM (by unfold nm;rw[if_neg (by rw[e];decide),if_neg g,if_neg i];rfl) h,j⟩⟩
noncomputable def IZ:Dr
 |[.c (.int c hc),.c (.int n _),.c (.val (.bool s))],_=>some (none,.c (.int (nm ⟨c,hc⟩ n s).x (nm ⟨c,hc⟩ n s).hx))
 |_,_=>none
def Yn:CY prog 122 IZ:=pS Wa λe j p v d=>by unfold IZ at d;split at d;rename_i c f n h s;cases d;refine⟨ff,λ_=>⟨[.c (.int c f),.c (.int n _),.c (.val (.bool s))],[],[],⟨c,f,n,h,s,rfl,rfl,fr⟩,trivial,trivial,fr,λi b g=> ?_⟩⟩;simp[an] at g;cases d
noncomputable def a5o:List (FuncId×Dr):=[(122,IZ)]
def X3:nN a5o:= .cons Yn .nil
noncomputable def a4d (un:Nat):ic:=p7 (yZ un) a5o
def Gi un:iU prog (a4d un):=jM (dK un) X3
def FQ:cP:=λd e K=> ∃f A cA hA0 tA n hn s,d=[.c (.sli f 0 0 (ln A) cA hA0),.c (.int n hn),.c (.val (.bool s))]/\e=[⟨.t tA,true,bG bU A,0⟩]/\ ∀p:PT,K (.agg (pC p)) []
def NW:jv prog 102 FQ:=cV (Gi 0) bj (ck (Gi 0) bj bg 0) ⟨func102,kr,kr⟩ λu J K r=>by
 obtain⟨B,A,H,e,D,n,L,s,rfl,rfl,r⟩:=r;refine⟨zD,?_⟩;conv=>whnf
 obtain⟨d,hnb⟩: ∃z:ZV,z=⟨minI (maxI n 0) 40,IR.minI (IR.maxI L dc) dc⟩:=⟨_,rfl⟩;refine zK [0,1,2] [0,1,2,6,7,8] [0] (G:={q:Nat×PT//q.1<=ln A}) (λg=>[(0,.c (.sli B 0 0 (ln A) H e)),(1,.c (.int d.x d.hx)),(2,.c (.val (.bool s))),(6,.c (.ptr 1 0)),(7,.c (.ptr 2 0)),(8,.c (.int (g.1.1:Nat) (aR e g.2)))]) (λg=>[(0,⟨.t D,true,bG bU A,0⟩),(1,(⟨.t 33,false,[zi,zi,zi],0⟩:aY)),(2,(⟨.t 33,false,pC g.1.2,0⟩:aY))]) (λg=>ln A-g.1.1) ⟨(0,⟨0,0,0,dc,dc,dc⟩),ah _⟩ (pc (congrArg ZV.x hnb.symm)) ?_;rintro ⟨⟨k,p⟩,h⟩ vs2;have h:k<=ln A:=h;dsimp only;refine zB ?_ ?_<;>intro o;have i:k<ln A:=dL o;have m:IR (k:Int):=aR e h;conv=>whnf
 refine zK [0,1,2] [0,1,2,6,7,8,9] [0] (G:={q:Nat×PT//q.1<=3}) (λg=>[(0,.c (.sli B 0 0 (ln A) H e)),(1,.c (.int d.x d.hx)),(2,.c (.val (.bool s))),(6,.c (.ptr 1 0)),(7,.c (.ptr 2 0)),(8,.c (.int (k:Nat) m)),(9,.c (.int (g.1.1:Nat) (SQ g.2)))]) (λg=>[(0,⟨.t D,true,bG bU A,0⟩),(1,(⟨.t 33,false,[zi,zi,zi],0⟩:aY)),(2,(⟨.t 33,false,pC g.1.2,0⟩:aY))]) (λg=>3-g.1.1) ⟨(0,p),ah _⟩ trivial ?_;rintro ⟨⟨j,q⟩,F⟩ vs4;have F:j<=3:=F;dsimp only;have f:j=3\/j=0\/j=1\/j=2:=om;rcases f with rfl|rfl|rfl|rfl;exact dD [0,1,2] ⟨(k+1,q),i⟩;refine eS ?_;refine zB ?_ ?_<;>intro E;exact dD [0,1,2] ⟨(1,(⟨minI A[k].a.x A[k].a.x,minI A[k].a.y A[k].a.y,minI A[k].a.z A[k].a.z,IR.minI A[k].a.hx A[k].a.hx,IR.minI A[k].a.hy A[k].a.hy,IR.minI A[k].a.hz A[k].a.hz⟩:PT)),(show 1<=3 by decide)⟩;exact dD [0,1,2] ⟨(1,(⟨minI q.x A[k].a.x,minI q.y A[k].a.y,minI q.z A[k].a.z,IR.minI q.hx A[k].a.hx,IR.minI q.hy A[k].a.hy,IR.minI q.hz A[k].a.hz⟩:PT)),(show 1<=3 by decide)⟩;refine eS ?_;refine zB ?_ ?_<;>intro E;exact dD [0,1,2] ⟨(2,(⟨minI A[k].b.x A[k].b.x,minI A[k].b.y A[k].b.y,minI A[k].b.z A[k].b.z,IR.minI A[k].b.hx A[k].b.hx,IR.minI A[k].b.hy A[k].b.hy,IR.minI A[k].b.hz A[k].b.hz⟩:PT)),(show 2<=3 by decide)⟩;exact dD [0,1,2] ⟨(2,(⟨minI q.x A[k].b.x,minI q.y A[k].b.y,minI q.z A[k].b.z,IR.minI q.hx A[k].b.hx,IR.minI q.hy A[k].b.hy,IR.minI q.hz A[k].b.hz⟩:PT)),(show 2<=3 by decide)⟩;refine eS ?_;refine zB ?_ ?_<;>intro E;exact dD [0,1,2] ⟨(3,(⟨minI A[k].c.x A[k].c.x,minI A[k].c.y A[k].c.y,minI A[k].c.z A[k].c.z,IR.minI A[k].c.hx A[k].c.hx,IR.minI A[k].c.hy A[k].c.hy,IR.minI A[k].c.hz A[k].c.hz⟩:PT)),(show 3<=3 by decide)⟩;exact dD [0,1,2] ⟨(3,(⟨minI q.x A[k].c.x,minI q.y A[k].c.y,minI q.z A[k].c.z,IR.minI q.hx A[k].c.hx,IR.minI q.hy A[k].c.hy,IR.minI q.hz A[k].c.hz⟩:PT)),(show 3<=3 by decide)⟩;exact zO [0] [0] (v3:=.agg (pC ⟨(nm ⟨p.x,p.hx⟩ d.x s).x,(nm ⟨p.y,p.hy⟩ d.x s).x,(nm ⟨p.z,p.hz⟩ d.x s).x,(nm ⟨p.x,p.hx⟩ d.x s).hx,(nm ⟨p.y,p.hy⟩ d.x s).hx,(nm ⟨p.z,p.hz⟩ d.x s).hx⟩)) (news:=[]) (r _)
def Y3 (g:Pst):Prop:= ∀f h K,g f h K-> ∃d e,K d e
def Ms:Y3 OQ:=λe f K h=>by obtain⟨d,b,t,h⟩:=h;split at h;have h:=h.2.2 0 _ ⟨[⟨(0,0),_,0,0⟩],rfl⟩ (.inr pg.last);simp only[dR] at h;exact⟨_,_,h⟩;exact h.elim
def a18 (d:Pst) (H:FuncId->List SV->List aY->(SV->List aY->Prop)->Prop) (f:FuncId) (args:List SV) (hp:List aY) (K:SV->List aY->Prop):Prop:=H f args hp K\/d args hp λargs hp=>H f args hp K
def LS {P r} (u:wO r) (s:Y3 r) {H} (y:ko P H):ko P (a18 r H):=λf j F K h=>by rcases h with h|h;exact y f j F K h;obtain⟨J,G,I⟩:=s _ _ _ h;refine⟨(y f J G K I).1,λN L g w E m=> ?_⟩;obtain⟨d,q,D,p,z,k⟩:=u _ _ _ h E;have A:j.map (SV.den g)=d.map (SV.den g):=k g (gt.refl _ _);rw[A];refine((y f d q K D).2 N L g w p λB o=> ?_).mono ?_;rw[<-k B o,<-A];exact m B λi x=>o i (z i x);rintro e M ⟨v,hp2,ρ1,k1,k2,k3,k4⟩;exact⟨v,hp2,ρ1,k1,k2,λi x=>k3 i (z i x),k4⟩
def a2J (f:List SV) (hp:List aY) (K:List SV->List aY->Prop):Prop:= ∃b1 d,match an hp b1,an hp d with
 |some ⟨.x e,true,[],2⟩,some ⟨.x l2,true,[],2⟩=>fU hp b1 ⟨.x (e++l2),true,[],2⟩ λhp=>K f hp
 |_,_=>False
def Mt:wO a2J:=λB r K h N A u w k=>by obtain⟨b1,y,h⟩:=h;split at h;rename_i o g q s;rw[dR] at h;have f:an (r.set b1 (⟨.x (o++g),true,[],2⟩:aY))=df (an r) b1 ⟨.x (o++g),true,[],2⟩:=dt _ _ _ _ q;refine⟨_,_,h,?_,λi z=> ?_,λD _=>rfl⟩;rw[f];refine k.ghost λe d=> ?_;rcases aT.1 d with d|d;have:=k.fam b1 _ true o e q rfl d;exact⟨this.1,λj c _ p m=>this.2 j c p m⟩;have:=k.fam y _ true g e s rfl d;exact⟨this.1,λj c _ p m=>this.2 j c p m⟩;rw[f];unfold df;split;rfl;exact z;exact h.elim
def Z3 (d:List SV) (hp:List aY) (K:List SV->List aY->Prop):Prop:=
 ∃f b t,match an hp f,an hp b,ij uv d t with
 |some ⟨.x l,true,[],2⟩,some ⟨.t ty,false,cs,tl⟩,.c (.sli nl b' 0 len cap _)=>(b'=b/\nl=false/\cC cs)/\t<ln d/\ ∀r,(∀e∈l,e.a.1≠r)->
  fU hp f ⟨.x (l++[⟨(r,0),cs,ty,tl⟩]),true,[],2⟩ λhp=>fU hp b ⟨.t 0,true,[],0⟩ λhp=>fU d t (.c (.val (.slice (jK false ⟨r,0,none⟩) len cap))) λd=>K d hp
 |_,_,_=>False
def Tz:wO Z3:=λY F K h N w0 d w A=>by
 obtain⟨s,b,t,h⟩:=h;split at h;rename_i l D m E nl f len P L p r R;obtain⟨⟨rfl,rfl,g⟩,a0,h⟩:=h;have z:s≠f:=λe=>by subst e;rw[p] at r;cases r
 have Q: ∀y,Y[t]? =some y->y= .c (.sli false f 0 len P L):=λy O=>by rw[iE,O] at R;exact R
 have q: ∀e∈l,e.a.1≠(d f).1:=λe B o=>(A.fam s _ true l e p rfl B).2 f _ r rfl o.symm;have h:=h _ q;simp only[dR] at h;obtain⟨H,t0,M,k⟩:=(A.holds d (gt.refl _ _) f _ r).2 rfl;have Z:=A.old f _ r rfl;have G:iV N w true ⟨((d f).1,0),m,D,E⟩:=by have U:af (λ_=>(0,0)) m=af d m:=g _ _;refine⟨g,⟨_,k,rfl⟩,λ_=>⟨A.own f _ r rfl,rfl,t0,M,by rw[U];exact k⟩,?_,λh=>(by cases h)⟩;have T:=(A.holds d (gt.refl _ _) f _ r).1;show w.rangeAt (d f).1 0 (af (λ_=>(0,0)) m);rw[U];rw[H] at T;exact T
 have X:=A.kill (b:=f) (v:=⟨.t 0,true,[],0⟩) rfl (hW rfl) (iB rfl)
 have V:=X.ghost (fb:=s) (l:=l++[⟨((d f).1,0),m,D,E⟩]) (λe B=>by
  have own: ∀j c,df (an F) f ⟨.t 0,true,[],0⟩ j=some c->c.ro=false->j≠f/\an F j=some c:=λj c u o=>by unfold df at u;split at u;cases u;cases o;rename_i e;exact⟨e,u⟩
  rcases aT.1 B with B|B
  have:=A.fam s _ true l e p rfl B
  exact⟨this.1,λj c _ u o=>this.2 j c (own j c u o).2 o⟩
  rw[bq.1 B]
  exact⟨G,λj c _ u o=>A.apart f j _ c r rfl (own j c u o).2 (fH o) (own j c u o).1|>λh=>h⟩)
 have s1:an (F.set s ⟨.x (l++[⟨((d f).1,0),m,D,E⟩]),true,[],2⟩)=df (an F) s ⟨.x (l++[⟨((d f).1,0),m,D,E⟩]),true,[],2⟩:=dt _ _ _ _ p;have s2:=dt (F.set s ⟨.x (l++[⟨((d f).1,0),m,D,E⟩]),true,[],2⟩) f ⟨.t 0,true,[],0⟩ _ (by rw[s1];unfold df;rw[if_neg (Ne.symm z)];exact r);have I:df (df (an F) s ⟨.x (l++[⟨((d f).1,0),m,D,E⟩]),true,[],2⟩) f ⟨.t 0,true,[],0⟩=df (df (an F) f ⟨.t 0,true,[],0⟩) s ⟨.x (l++[⟨((d f).1,0),m,D,E⟩]),true,[],2⟩:=by funext i;unfold df;by_cases G:i=f;rw[if_pos G,if_neg (λe=>z (e.symm.trans G)),if_pos G];rw[if_neg G];split<;>rfl
 refine⟨_,_,h,by rw[s2,s1,I];exact V,λi hi=> ?_,λW J=> ?_⟩;rw[s2,s1];unfold df;split;rfl;split;rfl;exact hi;refine(uY _ _ _ _ λy O=> ?_).symm;rw[Q y O];have e:W f=d f:=J f (by rw[s2];unfold df;rw[if_pos rfl];rfl);simp only[SV.den,C.den,C.cells,jK,e,H,fM];exact h.elim
section
variable {α:Type}
def a4e (un:Nat):ic:={vA un Dd with O:=a2C OQ (lR qo)}
def Gj un:iU prog (a4e un):=⟨(cm k6 un).T,(cm k6 un).D,Mp yb (gy eD),(cm k6 un).R,λ_ _ _ _ h=>(show False from h).elim⟩
def spC:List (FuncId×cP):=[(73,vO)]
def a2Y:iL prog spC:= .cons rL .nil
def Fx (fam:List mq) (x:LI TR):Prop:=InL bU fam x/\1<=ln x.l/\bZ false x.s.n x.s.c
def Fx.mono {a b x} (h:Fx a x) (k:m3 a b):Fx b x:=⟨h.1.mono k,h.2⟩
def PV (fam:List mq) (m:Int) (A:List TR) (l:List (LI TR)):Prop:= ∀x∈l,Fx fam x/\(ln x.l:Int)<=maxI m 1/\ ∀t∈x.l,∃s∈A,jC s=t
def jH (l:List (LI α)):Nat:=(l.map λx=>ln x.l).sum
def Cf (l:List (LI α)) (x:LI α):jH (l++[x])=jH l+ln x.l:=by unfold jH;simp
def PV.mono {a b m A l} (h:PV a m A l) (k:m3 a b):PV b m A l:=λx d=>⟨(h x d).1.mono k,(h x d).2⟩
def IL:cP:=λd e K=> ∃f A cA hA0 tA m hm,d=[.c (.sli f 0 0 (ln A) cA hA0),.c (.int m hm)]/\e=[⟨.t tA,true,bG bU A,0⟩]/\ln A<=100000/\
 ∀(o:OL (LI TR)) fam,PV fam m A o.l->jH o.l=ln A->K (o.sl 1) [o.blk iX 53,⟨.x fam,true,[],2⟩]
def a2W {nl b off n d cap h h'} (e:n=d) ρ:(SV.c (.sli nl b off n cap h)).den ρ=(SV.c (.sli nl b off d cap h')).den ρ:=by subst e;rfl
structure SpG (A O:List TR) (nl:Bool) (m:Int) where
 R:List TR
 off:Nat
 cap:Nat
 ok:bZ nl (ln R) cap
 at2:mj bU (bG bU O) off R
 o:OL (LI TR)
 fam:List mq
 sub: ∀t∈R,∃s∈A,jC s=t
 sp:PV fam m A o.l
 sum:jH o.l+ln R=ln A
 cnt:ln o.l<=jH o.l
def a2j {R:RW α} {fam:List mq} {r n c:Nat} {l:List α} (g:n=ln l) (h0:0<n) (i:0<R.n) (e:bG R l=[]\/pg fam (r,0) (bG R l)):InL R fam ⟨⟨jK (decide (n=0)) ⟨r,0,none⟩,n,c⟩,l,g⟩:=by rcases e with h|h;have d:=hZ R l;rw[h] at d;have d:ln l*R.n=0:=d.symm;rcases Nat.mul_eq_zero.1 d with f|f<;>omega;refine .inr ⟨r,0,?_,h⟩;show jK (decide (n=0)) _=_;rw[decide_eq_false (by omega: ¬n=0)];rfl
def WE m {n:Nat} (h:0<n): ∃q:Nat,minI (maxI m 1) (n:Nat)=(q:Int)/\1<=q/\q<=n/\(q:Int)<=maxI m 1:=by
 have d:1<=maxI m 1:=by unfold maxI;split<;>omega
 refine⟨(minI (maxI m 1) n).toNat,?_⟩;unfold minI;split<;>omega
def Lt:jv prog 110 IL:=cV (Gj 0) bj (dX a2Y (ck (Gj 0) bj bg 0)) ⟨func110,kr,kr⟩ λa0 a4 K X=>by
 obtain⟨nA,A,cA,Z,tA,m,hm,rfl,rfl,J,X⟩:=X;have y:cC (bG bU A):=ab bU A;refine⟨zD,?_⟩;refine⟨⟨y,trivial⟩,nA,0,A,cA,Z,_,_,rfl,rfl,⟨y,mj.self bU A⟩,J,λf kc mc=> ?_⟩;conv=>whnf
 refine zK [0,1,1000+ 53,1000000] [1,5,6] [0,1,2] (G:=SpG A f.l f.nl m) (λg=>[(1,.c (.int (maxI m 1) (IR.maxI hm dc))),(5,.c (.sli f.nl 1 g.off (ln g.R) g.cap g.ok)),(6,g.o.sl 2)]) (λg=>[(0,⟨.t tA,true,bG bU A,0⟩),(1,f.blk bU 58),(2,g.o.blk iX 53),(3,⟨.x g.fam,true,[],2⟩)]) (λg=>ln g.R) ⟨f.l,0,f.cap,f.ok,mj.self bU f.l,OL.none,[],(λt E=>mc t E),(λx W=>by cases W),(by show jH []+_=_;rw[kc];exact aN _),ah _⟩ trivial ?_;rintro ⟨R,D,i,ok,j,o,fam,u,L,P,a1⟩ vs2;dsimp only;refine zB ?_ ?_<;>intro M;have hR:0<ln R:=by have:(0:Int)<(ln R:Nat):=of_decide_eq_true M;omega
 obtain⟨q,hq,hq1,hqR,hqm⟩: ∃q:Nat,minI (maxI m 1) (ln R:Nat)=(q:Int)/\1<=q/\q<=ln R/\(q:Int)<=maxI m 1:=WE m hR;have H:IR (q:Int):=aR ok hqR;have O:q<=i:=aC hqR ok.1;have Q:bZ f.nl q i:=⟨O,ok.2.1,ok.2.2⟩;have U:dk (bG bU f.l) D (q*9)=some (bG bU (R.take q)):=by have h:=(j.take q).all;rw[aO,cq hqR] at h;exact h
 conv=>whnf
 conv=>arg 2;tactic'=>exact fN (k:=q) (hi:=H) rfl rfl rfl (eA hq) O Q
 refine iT ?_;conv=>whnf
 rw[show dk (f.blk bU 58).cs D (q*9)=_ from U];refine⟨fZ bU _,om,λN k9=> ?_⟩;conv=>whnf
 refine .inr ⟨3,4,25,⟨rfl,rfl,ab bU _,λh=>absurd (of_decide_eq_true h) om⟩,aj rfl,λr e W V=> ?_⟩;conv=>whnf
 refine .inl ⟨rfl,o.app iX 53 (m:=1) (by show(ln o.l+1)*1<=5000000000000;omega),λB z=> ?_⟩;refine iT ?_;conv=>whnf
 conv=>arg 2;tactic'=>exact fO (k:=q) (hi:=H) rfl rfl rfl (eA hq) hqR
 conv=>whnf
 have d:q=(R.take q).length:=by rw[aO,cq hqR]
 have I:InL bU e (⟨⟨jK (decide (q=0)) ⟨r,0,none⟩,q,N⟩,R.take q,d⟩:LI TR):=a2j d hq1 dc V;have Y:bZ f.nl (R.drop q).length (i-q):=⟨by rw[bN];have:=ok.1;omega,by have:=ok.2.1;omega,λh=>by have:=ok.2.2 h;omega⟩;have F:PV e m A (o.l++[(⟨⟨jK (decide (q=0)) ⟨r,0,none⟩,q,N⟩,R.take q,d⟩:LI TR)]):=λx T=>dH (p:=λx=>Fx e x/\(ln x.l:Int)<=maxI m 1/\ ∀t∈x.l,∃s∈A,jC s=t) (L.mono W) ⟨⟨I,by show 1<=(R.take q).length;omega,⟨k9.1,k9.2.1,λh=>by cases h⟩⟩,by show((R.take q).length:Int)<=_;rw[<-d];exact hqm,λt E=>u t (sY E)⟩ T;exact dD [0,1,6,3] ⟨R.drop q,gP D 9 q i,i-q,Y,j.from hqR ok.1,o.push [(⟨⟨jK (decide (q=0)) ⟨r,0,none⟩,q,N⟩,R.take q,d⟩:LI TR)] rfl B z,e,(λt E=>u t (sX E)),F,(by show jH (o.l++[_])+_=_;rw[Cf,bN,<-P,<-d];omega),(by show(o.l++[_]).length<=jH (o.l++[_]);rw[Cf,aa];show (ln o.l)+1<=jH o.l+(R.take q).length;omega)⟩ (hm:=(by show(R.drop q).length<ln R;rw[bN];omega)) (h:=λa2=>⟨y,ab bU _,cJ (ab iX _) ff,(by exact⟨fr,fr,fr,fr,fr,λρ=>a2W bN.symm ρ,λρ=>o.push_sl (n:=1) [(⟨⟨jK (decide (q=0)) ⟨r,0,none⟩,q,N⟩,R.take q,d⟩:LI TR)] rfl B z 2 ρ,gm _⟩),(by exact⟨⟨rfl,rfl,rfl,fr⟩,⟨rfl,rfl,rfl,fr⟩,o.push_blk iX 53 (n:=1) [(⟨⟨jK (decide (q=0)) ⟨r,0,none⟩,q,N⟩,R.take q,d⟩:LI TR)] rfl B z fr,⟨rfl,rfl,rfl,fr⟩,trivial⟩)⟩);have hR:ln R=0:=GQ M;exact zO [0,2,3] [0,1] (X o fam L om)
end
end Go.Proofs.YtlgcobafjbajdaaGreatDoor
