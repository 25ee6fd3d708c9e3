/- w -/
import Derived.Test.YtlgcobafjbajdaaGreatDoorJ01
import Derived.Test.YtlgcobafjbajdaaGreatDoorJ11
import Derived.Test.YtlgcobafjbajdaaGreatDoorJ13
import Derived.Test.YtlgcobafjbajdaaGreatDoorRows
import Derived.ChangeSlices
import Derived.ProofKit
import Derived.OpenShut
import Derived.Carry
import Derived.LaidMore
import Derived.Lay
import Derived.SevenTiedAt
import Derived.Stop.Joined
namespace Go.Proofs.YtlgcobafjbajdaaGreatDoor
open Go.Proofs.Tryz
open Go.RowKit
open IntKind renaming i64→ix,wrap→wr
open List renaming append_assoc→aJ,drop_eq_getElem_cons→bh,length→ln,map→cg,map_append→aV
open Nat renaming beq→nu
open _root_.Array renaming toArray_toList→mh
set_option linter.all false
set_option maxRecDepth 100000
set_option maxHeartbeats 32000000
section
variable {X:List b5X} {k m:Nat} {x:b5X} {F:List mq} {Z:List ZV} {CL:List CU} {L:List GU} {oC:OL CU} {oG:OL GU}
def b4a:List (FuncId×cP):=[(23,b1o)]
def b18:vB prog b4a:= .cons b1V .nil
def l6X:List (FuncId×cP):=[(11,Zp),(14,Dh)]
def b2C:vB prog l6X:= .cons a1l<| .cons FZ .nil
def b3g:ic:={a1I with O:=b2I (En qo a1I.O),ord:=λid=>nu id 16||nu id 23}
def b0N:iU prog b3g:=⟨B5.T,B5.D,b15 (nH eD B5.O),B5.R,B5.X⟩
def b2f:cP:=λd e K=> ∃(s:SW) (A fam0 x y q0 q1 q2 q3 q4 hq0 hq1 hq2 hq3 hq4 b0:_),d=[.agg [.val (.slice s.a s.n s.c),.val (.int .u8 x),.val (.int .u8 y)],.agg [.int q0 hq0,.int q1 hq1,.int q2 hq2,.int q3 hq3,.int q4 hq4],.c (.val (.int .u8 b0))]/\e=[⟨.x fam0,true,[],3⟩]/\(((tP fam0 ⟨s.a,min s.n 3,s.c⟩ A/\IR (s.n:Nat)/\s.n<=s.c)/\(0<=x/\x<256)/\(0<=y/\y<256))/\(0<=b0/\b0<256))/\K (.c (.val (.bool true))) []
def b5X.mid (n:Int) (x:b5X) (m:Nat):mq:=⟨(x.r,0),qh (a0K n (a9K x.c.tl) m), 58,(x.cap-ln x.c.tl)*9⟩
def b5X.ful (n:Int) (x:b5X):mq:=x.mid n (9*ln x.c.tl)
def b5Y (n:Int) (X:List b5X) (F:List mq) (k:Nat):List mq:=(X.take k).map (b5X.ful n)++((X.drop k).map b5X.ent++F)
def b5Z (n:Int) (X:List b5X) (F:List mq) (k:Nat) (x:b5X) (m:Nat):List mq:=(X.take k).map (b5X.ful n)++x.mid n m::((X.drop (k+1)).map b5X.ent++F)
def b1Y n (x:b5X):x.ent=x.mid n 0:=by unfold b5X.ent b5X.mid;rw[b2E,b02]
def b3i n F (hk:k<ln X):b5Y n X F k=b5Z n X F k X[k] 0:=by unfold b5Y b5Z;rw[bh hk,aI,b1Y n X[k]];rfl
def b2t {hk:k<ln X} (hx:x=X[k]) n F (_:k<ln X):b5Y n X F k=b5Z n X F k x (9*0):=by rw[hx];exact b3i n F hk
def b2u n F (hk:k<ln X) (hm:m=9*X[k].c.tl.length):b5Z n X F k X[k] m=b5Y n X F (k+1):=by subst hm;unfold b5Y b5Z;rw[bE hk,aV,aJ];rfl
def b1Z {hk:k<ln X} (hx:x=X[k]) n F (_:k<ln X):b5Z n X F k x (9*ln x.c.tl)=b5Y n X F (k+1):=by subst hx;exact b2u n F hk rfl
def b3f n (h:(X.map b5X.ent++F).Pairwise λx y=>x.a.1≠y.a.1) (hk:k<ln X): ∀e,e∈(X.take k).map (b5X.ful n)++((X.drop (k+1)).map b5X.ent++F)->e.a.1≠X[k].r:=λe d=>by
 have o:X=X.take k++(X[k]::X.drop (k+1)):=by rw[<-bh hk,List.take_append_drop]
 have i:X.map b5X.ent++F=(X.take k).map b5X.ent++(X[k].ent::((X.drop (k+1)).map b5X.ent++F)):=by (conv=>lhs;rw[o,aV,aI,aJ]);rfl
 rw[i,List.pairwise_append] at h;obtain⟨-,f,j⟩:=h;rw[a0s] at f;rcases aT.1 d with d|d;obtain⟨p,g,rfl⟩:=bD.1 d;exact j _ (bD.2 ⟨p,g,rfl⟩) _ aP;exact(f.1 e d).symm
def b0C {n q c} (e:q=m+c) (h:m+c<ln Z):jP false (qh (a0K n Z m)) q 1=some (.c (.int Z[m+c].x Z[m+c].hx)):=by
 have f:m+c<(a0K n Z m).length:=by rw[b0s];exact h
 have d:=oO (a0K n Z m) f;rw[b1x n Z (a8X m c) h,gE] at d;subst e;exact d
def b0u l:cC (qh l):=by rw[KK];exact ab bI l
def b01 {n q} (e:q=m) (h:m<ln Z) {z} (j:z=Z[m].x) {hx}:TL (qh (a0K n Z m)) q [.int (wr ix (z*n)) hx]=some (qh (a0K n Z (m+1))):=by
 subst e;subst j;have g:q<(a0K n Z q).length:=by rw[b0s];exact h
 have d:=iH bI (a0K n Z q) g (b55 n Z[q]);rw[b1y n Z h] at d;rw[KK,KK];unfold TL;have f:0+q*bI.n=q:=by show 0+q*1=q;omega
 rw[f] at d;have i:ga (bG bI (a0K n Z q)) q [.int (wr ix (Z[q].x*n)) hx]=some (bG bI (a0K n Z (q+1))):=d;rw[i]
def b1B {r a b} (e:a=b):(SV.c (.val (.pointer (some ⟨r,a,none⟩))))=SV.c (.val (.pointer (some ⟨r,b,none⟩))):=by subst e;rfl
def b52 (n:Int) (g:GU):GU:={g with total:=wr ix (g.total*n),ht:=el _}
def b50 (n:Int) (l:List GU) (k:Nat):List GU:=(l.take k).map (b52 n)++l.drop k
def b0j n l k:(b50 n l k).length=ln l:=by unfold b50;rw[aa,bO,aO,bN];omega
def b2w n {l} (h:k<ln l):(b50 n l k)[k]'(by rw[b0j];exact h)=l[k]:=by unfold b50;rw[List.getElem_append_right (by rw[bO,aO];omega)];simp only[bO,aO,List.getElem_drop];congr 1;omega
def b2x n {l} (h:k<ln l):(b50 n l k).set k (b52 n l[k])=b50 n l (k+1):=by unfold b50;rw[List.set_append_right _ _ (by rw[bO,aO];omega),bO,aO,cq (bw h),kz,bh h,yk,bE h,aV,aJ];rfl
def b1s n l:b50 n l (ln l)=l.map (b52 n):=by unfold b50;rw[bP,a8S,bk]
def OL.gs (o:OL GU) (n:Int) (k:Nat):OL GU:=⟨b50 n o.l k,o.nl,o.cap,by rw[b0j];exact o.ok⟩
def b3j {i:Nat} (h:i<=3):IR (i:Int):=ui
def byN {b} (h:0<=b/\b<256):1<=wr ix (1+wr ix b)/\wr ix (1+wr ix b)<=256:=by rw[cN (z:=b) ui,cN ui];omega
def b5X.sc (n:Int) (x:b5X):CU:={x.cu with tl:=x.c.tl.map (b54 n)}
def b1r n: ∀X:List b5X,eM (X.map b5X.cu)=eM (X.map (b5X.sc n))
 |[]=>rfl
 |x::l=>by rw[aI,aI,eM,eM,b1r n l];rfl
def tmb (a:Int): -524288<=a.tmod 524288/\a.tmod 524288<=524288:=by have:=Int.tmod_lt_of_pos a (show(0:Int)<524288 by decide);have:=Int.lt_tmod_of_pos a (show(0:Int)<524288 by decide);omega
def b2h: ∀(n:Nat) l,l.Nodup->(∀x∈l,0<=x/\x<(n:Int))->ln l<=n
 |0,[],_,_=>ai _
 |0,a::t,_,h=>by have:=h a aP;omega
 |n+1,l,hn,h=>by (have e:=b2h n (l.erase (n:Int)) (hn.erase _) λx f=>by have d:=(hn.mem_erase_iff).1 f;have i:=h x d.2;have g:=d.1;omega);by_cases hm:(n:Int)∈l;rw[List.length_erase_of_mem hm] at e;omega;rw[List.erase_of_not_mem hm] at e;omega
def b2G {f}: ∀{L k},wN (dI f k L)-> ∀g∈L,((f g).map ZV.x).Nodup
 |[],_,_,g,d=>by cases d
 |x::L,k,h,g,d=>by unfold wN at h;rw[dI,aV,gB] at h;rcases br.1 d with rfl|d;have:=h.1;rwa[t9] at this;exact b2G (L:=L) h.2.1 g d
def b19 {fam} (h:Po fam CL L):(∀c∈CL,Fn fam c)/\(∀g∈L,GuP fam g/\ln g.il<=2000000000/\ln g.ol<=2000000000)/\ln CL<=2000000000/\ln L<=2000000000:=by
 have y:=h.ll;have u:=h.cnt;obtain⟨p,⟨j,-,i⟩,-⟩:=VN h.bld;have o:ln CL<=2000000000:=om;have len: ∀l:List ZV,(l.map ZV.x).Nodup->l.all (A4 (ln CL))=true->ln l<=2000000000:=λl r q=>by (have:=b2h (ln CL) (l.map ZV.x) r λx s=>by obtain⟨z,e,rfl⟩:=bD.1 s;have e:=fE.1 q z e;unfold A4 at e;simp only[aG,Bool.not_eq_true',decide_eq_true_eq,decide_eq_false_iff_not] at e;omega);rw[bO] at this;omega
 unfold sk at p;rw[aG] at p;refine⟨h.cu,λg f=> ?_,o,om⟩;have d:=fE.1 p.2 g f;unfold w8 at d;rw[aG] at d;exact⟨h.gu g f,len _ (b2G j g f) d.1,len _ (b2G i g f) d.2⟩
def b0o {a b j i} (d:ln oC.l=a) (o:ln oG.l=b) {w v} (f:w=v):Y5 [6,7] [.agg [oC.ch 6,oG.ch 7],.agg (t7 v)] [.agg [.sli oC.nl 0 0 a oC.cap j,.sli oG.nl 1 0 b oG.cap i],.agg (t7 w)]:=by subst f;subst d;subst o;exact λp h e=>by have g:=e 0 _ rfl;have d:=e 1 _ rfl;simp only[OL.ch,cg,SV.den,C.cells,g,d,aL,bF,af];rfl
def b2v {n} (h:x∈X):x.ful n∈b5Y n X F (ln X):=by unfold b5Y;rw[bP];exact gc _ (bD.2 ⟨x,h,rfl⟩)
def b1a {n} : ∀c∈X.map (b5X.sc n),c.Ok (b5Y n X F (ln X)):=λc d=>by obtain⟨x,e,rfl⟩:=bD.1 d;refine⟨⟨(bO _).symm,.inr ⟨x.r,0,rfl,x.ful n,b2v e,rfl,?_⟩⟩,x.ok.ir⟩;show qh (a0K n (a9K x.c.tl) (9*ln x.c.tl))=fy (x.c.tl.map (b54 n));rw[b1w n _ (b0t _).symm,b1c,H3,b02]
def U9.sub {d:Type} {R:RW d} {a b:List mq} (h: ∀e,e∈a->e∈b) {x:LI d} (k:U9 R a x):U9 R b x:=by obtain⟨f,r,o,j,i,p⟩:=k;exact⟨f,r,o,j,i,p.imp id λ⟨e,g,k⟩=>⟨e,h e g,k⟩⟩
def GuP.sub {a b:List mq} (h: ∀e,e∈a->e∈b) {g:GU} (k:GuP a g):GuP b g:=by obtain⟨⟨x,i,p⟩,⟨y,o,j⟩,⟨z,f,d⟩⟩:=k;exact⟨⟨x,i.sub h,p⟩,⟨y,o.sub h,j⟩,⟨z,f.sub h,d⟩⟩
def b1b {n} (h:OwG L (X.map b5X.ent) (ln L) F oG): ∀g∈(oG.gs n (ln oG.l)).l,g.Ok (b5Y n X F (ln X)):=λg d=>by have d:g∈b50 n oG.l (ln oG.l):=d;rw[b1s] at d;obtain⟨y,j,rfl⟩:=bD.1 d;have k:=(h.gu y j).sub (b:=b5Y n X F (ln X)) λe f=>gG _ (gG _ f);have:GuP (b5Y n X F (ln X)) (b52 n y):=⟨k.i,k.o,k.m⟩;exact this.ok9
def b0D {n:Int} (j:1<=n/\n<=256) {fam:List mq} (H:Po fam CL L) (z:OwC CL (ln CL) X oC) (u:OwG L (X.map b5X.ent) (ln L) F oG) {q s y J E:Int} {h:IR q} {g:IR s} {i:IR y} {d:IR J} {f:IR E} {w:VW} (o:w=(⟨⟨wr ix (q.tmod 524288*n),wr ix (s.tmod 524288*n),wr ix (y.tmod 524288*n),el _,el _,el _⟩,J.tmod 5000,E.tmod 50,d.tmod _,f.tmod _⟩:VW)) {A B:List Bool} (P:PD CL L (Ig h g i d f) A) (h2:vC (X.map (b5X.sc n)) (oG.gs n (ln oG.l)).l->Pw (X.map (b5X.sc n)) (oG.gs n (ln oG.l)).l w (List.replicate (oG.gs n (ln oG.l)).l.length true) B):A=B:=by
 have M:=z.c;have I:=u.itm;rw[bP] at M I;have N:CL.map (mts n)=(X.map (b5X.sc n)).map mt:=by rw[<-M,t9,t9];rfl
 have r:(oG.gs n (ln oG.l)).l=oG.l.map (b52 n):=b1s n oG.l;have D:L.map (its n)=((oG.gs n (ln oG.l)).l).map b51:=by (have Q:L.map (its n)=(L.map it0).map λp=>(p.1,wr ix (p.2*n)):=by rw[t9];rfl);rw[r,Q,<-I,t9,t9];rfl
 have G:=b1H (b0m N) (b0m D) (VN H.bld);have O:=Ln (oG.gs n (ln oG.l)).ok.ir (h2 G) (KW G);have R:b0x n ((Ig h g i d f):VW).e w.e:=by subst o;exact⟨b0e (B:=524288) (tmb q) dc j,b0e (B:=524288) (tmb s) dc j,b0e (B:=524288) (tmb y) dc j⟩
 exact a3r P (b2N j H.sm N D R (by subst o;rfl) (by subst o;rfl) O)
def b1h:pd prog 8 b2f:=iA b0N bj (b1t b18 (lP b2C (dX Xt (ck b0N bj bg 0)))) ⟨func8,kr,kr⟩ λn6 n7 K V=>by
 obtain⟨s,A,a6,x,y,q0,q1,q2,q3,q4,a1,a4,a2,Y,a0,b0,rfl,rfl,⟨j1,j8⟩,V⟩:=V
 refine⟨λρ c8 _=>rfl,0,[],[.agg [.val (.slice s.a s.n s.c),.val (.int .u8 x),.val (.int .u8 y)]],(λ_ _ _=>rfl),.inr rfl,trivial,s,A,a6,x,y,rfl,rfl,j1,λoC oG fam hg=> ?_⟩
 conv=>whnf
 have gk:=hg.grk
 have sm:=hg.sm
 have o1:=gk.ln
 have o3:=gk.cn
 have d5:IR ((ln oG.l:Nat):Int):=oG.ok.ir
 have hn:=byN j8
 obtain⟨n,hnd⟩: ∃n:Int,n=wr ix (1+wr ix b0):=⟨_,rfl⟩
 rw[<-hnd] at hn
 have b6:IR n:=ui
 have h7:(C.int (wr ix (1+wr ix b0)) (el _))=C.int n b6:=by subst hnd;rfl
 rw[h7]
 refine⟨5,[3,4],[.agg [.sli oC.nl 0 0 (ln oC.l) oC.cap oC.ok,.sli oG.nl 1 0 (ln oG.l) oG.cap oG.ok]],(λρ c8 e=>by
  show cg (SV.den ρ) [.agg [.sli oC.nl 3 0 (ln oC.l) oC.cap oC.ok,.sli oG.nl 4 0 (ln oG.l) oG.cap oG.ok]]=_
  have e0:=e 0 _ rfl
  have e1:=e 1 _ rfl
  simp only[cg,SV.den,C.cells,e0,e1,aL,bF,af]),.inl rfl,⟨ab ju _,ab ki _,trivial⟩,oC.nl,oC.l,oC.cap,oC.ok,oG.nl,oG.l,oG.cap,oG.ok,fam,_,_,rfl,rfl,b19 hg,λX u d F c4 b7 s1 l4 i5=> ?_⟩
 have g1: ∀e,e∈fam-> ∀x,x∈X->e.a.1≠x.r:=λe he x hx=>by have k1:e.a.1<s1:=l4.2.2.2.2.2.1 e he;have k2:s1<=x.r:=i5.2.2.1 x.ent (gc _ (bD.2 ⟨x,hx,rfl⟩));omega
 conv=>whnf
 have n9:ln X=ln oC.l:=by have:=congrArg ln c4.c;rw[bO,bP] at this;exact this
 have d9:u.l=X.map b5X.cu:=c4.o
 have d3:ln u.l=ln X:=by rw[d9,bO]
 have c0:ln X<=100000000000:=om
 have n8: ∀k (hk:k<ln X),X[k].c∈oC.l:=λk hk=>by have:X[k].c∈X.map b5X.c:=bD.2 ⟨_,ak hk,rfl⟩;rw[c4.c] at this;exact sY this
 have b9:ln d.l=ln oG.l:=b7.len
 refine zK [0,3,4,5,6,7,8,9,10,11] [7,8,9,10,11,12] [1,2,6,7] (G:={k:Nat//k<=ln X}) (λg=>[(12,.c (.int (g.1:Nat) (aR u.ok (aC g.2 (CS d3.symm)))))]) (λg=>[(8,⟨.x (b5Y n X F g.1),true,[],2⟩)]) (λg=>ln X-g.1) ⟨0,ah _⟩ trivial ?_
 rintro ⟨k,hk⟩ va2
 have hk:k<=ln X:=hk
 dsimp only
 refine zB ?_ ?_<;>intro h1
 have c6:k<ln X:=by have:=dL h1;omega
 have f2:k<ln u.l:=om
 have f4:IR (k:Int):=aR u.ok (bw f2)
 obtain⟨x,hx⟩: ∃x,x=X[k]:=⟨_,rfl⟩
 have i2:u.l[k]=x.cu:=by subst hx;simp only[d9,go]
 have pa:dk (bG ju u.l) (0+k*3+0) 1=some [.val (.slice (some ⟨x.r,0,none⟩) (ln x.c.tl) x.cap)]:=(mj.self ju u.l).part f2 0 1 (r:=[.val (.slice (some ⟨x.r,0,none⟩) (ln x.c.tl) x.cap)]) (by rw[i2];rfl)
 have l8:IR ((ln x.c.tl:Nat):Int):=x.ok.ir
 have d7: ∀e,e∈fam->e.a.1≠x.r:=λe he=>g1 e he x (hx▸ak c6)
 have d8:=hx▸b3f n b7.nd c6
 have k4:(a9K x.c.tl).length=9*ln x.c.tl:=b0t _
 obtain⟨Z,hZ⟩: ∃Z,Z=a9K x.c.tl:=⟨_,rfl⟩
 rw[<-hZ] at k4
 conv=>whnf
 refine zK [0,1,2,3,4,5,6,7,8,9] [7,8,9,10,11,12,13] [1,2,6,7] (G:={j:Nat//j<=ln x.c.tl}) (λg=>[(13,.c (.int (g.1:Nat) (aR x.ok g.2)))]) (λg=>[(8,⟨.x (b5Z n X F k x (9*g.1)),true,[],2⟩)]) (λg=>ln x.c.tl-g.1) ⟨0,ah _⟩ (pc (congrArg TyX.x (b2t hx n F c6))) ?_
 rintro ⟨j,hj⟩ vb2
 have hj:j<=ln x.c.tl:=hj
 have l1:IR (j:Int):=aR x.ok hj
 dsimp only
 refine p6 ?_
 conv=>arg 2;tactic'=>exact ap rfl rfl rfl rfl pa rfl
 conv=>whnf
 conv=>arg 2;tactic'=>exact eC rfl rfl rfl rfl rfl rfl l8
 refine zB ?_ ?_<;>intro h2
 have e6:j<ln x.c.tl:=dL h2
 conv=>whnf
 refine zK [0,1,2,3,4,5,6,7,8,9] [7,8,9,10,11,12,13,14] [1,2,6,7] (G:={i:Nat//i<=3}) (λg=>[(14,.c (.int (g.1:Nat) (b3j g.2)))]) (λg=>[(8,⟨.x (b5Z n X F k x (9*j+3*g.1)),true,[],2⟩)]) (λg=>3-g.1) ⟨0,ah _⟩ trivial ?_
 rintro ⟨i,E⟩ vc2
 have E:i<=3:=E
 have n1:IR (i:Int):=b3j E
 dsimp only
 refine zB ?_ ?_<;>intro h3
 have d2:i<3:=by have:=of_decide_eq_true h3;omega
 obtain⟨m,hm⟩: ∃m,m=9*j+3*i:=⟨_,rfl⟩
 have m0:m+0<ln Z:=om
 have m1:m+1<ln Z:=om
 have m2:m+2<ln Z:=om
 obtain⟨z0,w0⟩: ∃z,z=Z[m+0]:=⟨_,rfl⟩
 obtain⟨z1,w1⟩: ∃z,z=Z[m+1]:=⟨_,rfl⟩
 obtain⟨z2,w2⟩: ∃z,z=Z[m+2]:=⟨_,rfl⟩
 have i0: ∀q,q=m+0->jP false (qh (a0K n (a9K x.c.tl) m)) q 1=some (.c (.int z0.x z0.hx)):=λq hq=>by rw[<-hZ,w0];exact b0C hq m0
 have m9: ∀q,q=m+1->jP false (qh (a0K n (a9K x.c.tl) m)) q 1=some (.c (.int z1.x z1.hx)):=λq hq=>by rw[<-hZ,w1];exact b0C hq m1
 have m3: ∀q,q=m+2->jP false (qh (a0K n (a9K x.c.tl) m)) q 1=some (.c (.int z2.x z2.hx)):=λq hq=>by rw[<-hZ,w2];exact b0C hq m2
 rw[<-hm]
 refine p6 ?_
 conv=>arg 2;tactic'=>exact ap rfl rfl rfl rfl pa rfl
 conv=>whnf
 refine .inr ⟨x.r,0,ln x.c.tl,x.cap,j,rfl,rfl,e6,?_⟩
 conv=>whnf
 refine .inr ⟨_,_,i,rfl,rfl,d2,?_⟩
 rw[dp]
 dsimp only
 refine b1L rfl ?_
 refine b0Z (X:= .c (.val (.pointer (some ⟨x.r,0+j*9+i*3,none⟩)))) rfl ?_
 apply b1k
 dsimp only
 apply b1j
 generalize d0:mG _ _ _=tm0
 have h9:ij uv tm0 15= .c (.val (.pointer (some ⟨x.r,0+j*9+i*3,none⟩))):=by subst d0;rfl
 have k6:ij uv tm0 10= .c (.int n b6):=by subst d0;rfl
 have gl:ln tm0=135:=by subst d0;rfl
 obtain⟨N,hvv⟩: ∃N:Nat->SV,N=λq9=>ij uv [.c (.val (.pointer (some ⟨x.r,0+j*9+i*3,none⟩))),.c (.val (.pointer (some ⟨x.r,0+j*9+i*3,none⟩))),.c (.val (.pointer (some ⟨x.r,0+j*9+i*3,none⟩))),.c (.val (.pointer (some ⟨x.r,0+j*9+i*3,none⟩))),.c (.val (.pointer (some ⟨x.r,0+j*9+i*3,none⟩))),.c (.val (.pointer (some ⟨x.r,0+j*9+i*3+0,none⟩))),.c (.int z0.x z0.hx),.c (.int n b6),.c (.int (wr ix (z0.x*n)) (el _)),.c (.val (.pointer (some ⟨x.r,0+j*9+i*3,none⟩))),.c (.val (.pointer (some ⟨x.r,0+j*9+i*3,none⟩))),.c (.val (.pointer (some ⟨x.r,0+j*9+i*3+1,none⟩))),.c (.int z1.x z1.hx),.c (.int n b6),.c (.int (wr ix (z1.x*n)) (el _)),.c (.val (.pointer (some ⟨x.r,0+j*9+i*3,none⟩))),.c (.val (.pointer (some ⟨x.r,0+j*9+i*3,none⟩))),.c (.val (.pointer (some ⟨x.r,0+j*9+i*3+2,none⟩))),.c (.int z2.x z2.hx),.c (.int n b6),.c (.int (wr ix (z2.x*n)) (el _)),.c (.val (.pointer (some ⟨x.r,0+j*9+i*3,none⟩))),.c (.val (.pointer (some ⟨x.r,0+j*9+i*3+0,none⟩))),uv,.c (.val (.pointer (some ⟨x.r,0+j*9+i*3,none⟩))),.c (.val (.pointer (some ⟨x.r,0+j*9+i*3+1,none⟩))),uv] q9:=⟨_,rfl⟩
 obtain⟨HP,hHP⟩: ∃HP:List Bool->List aY,HP=λD=>(match ij false D 26 with|true=>[⟨.x a6,true,[],3⟩,oC.blk ju 55,oG.blk ki 63,⟨.x fam,true,[],2⟩,⟨30,false,[oC.ch 1,oG.ch 2],0⟩,⟨35,false,t7 (Ig a1 a4 a2 Y a0),0⟩,u.blk ju 55,d.blk ki 63,⟨.x ((X.take k).map (b5X.ful n)++x.mid n (m+2)::((X.drop (k+1)).map b5X.ent++F)),true,[],2⟩,⟨30,false,[u.ch 6,d.ch 7],0⟩,⟨.t 0,true,[],0⟩,⟨.t 0,true,[],0⟩]|false=>(match ij false D 23 with|true=>[⟨.x a6,true,[],3⟩,oC.blk ju 55,oG.blk ki 63,⟨.x fam,true,[],2⟩,⟨30,false,[oC.ch 1,oG.ch 2],0⟩,⟨35,false,t7 (Ig a1 a4 a2 Y a0),0⟩,u.blk ju 55,d.blk ki 63,⟨.x ((X.take k).map (b5X.ful n)++x.mid n (m+1)::((X.drop (k+1)).map b5X.ent++F)),true,[],2⟩,⟨30,false,[u.ch 6,d.ch 7],0⟩,⟨.t 0,true,[],0⟩]|false=>[⟨.x a6,true,[],3⟩,oC.blk ju 55,oG.blk ki 63,⟨.x fam,true,[],2⟩,⟨30,false,[oC.ch 1,oG.ch 2],0⟩,⟨35,false,t7 (Ig a1 a4 a2 Y a0),0⟩,u.blk ju 55,d.blk ki 63,⟨.x (b5Z n X F k x m),true,[],2⟩,⟨30,false,[u.ch 6,d.ch 7],0⟩])):=⟨_,rfl⟩
 refine b2d (p:=27) kr kr rfl kr ?_
 generalize f:List.take 27 _=ops
 have e8:ln ops=27:=by subst f;rfl
 have i9:yW 0 ops=true:=by subst f;kernel_rfl
 have a5:b1A ops (ln tm0) 0 ops=true:=by rw[gl];subst f;kernel_rfl
 have j9:owO ops 0 15=none:=by subst f;kernel_rfl
 have l9:owO ops 0 10=none:=by subst f;kernel_rfl
 have c3: ∀D,gv (tmO ops N tm0 D) (.tmp 15)= .c (.val (.pointer (some ⟨x.r,0+j*9+i*3,none⟩))):=λD=>(b1J (by rw[gl];decide) j9).trans h9
 have d6: ∀D,gv (tmO ops N tm0 D) (.tmp 10)= .c (.int n b6):=λD=>(b1J (by rw[gl];decide) l9).trans k6
 have SD: ∀D t j,owO ops 0 t=some j->Nat.blt t 135=true->ij false D j=true->gv (tmO ops N tm0 D) (.tmp t)=N j:=λD t j h1 h2 h3=>b2M (by rw[gl];exact aj h2) h1 h3
 have e2: ∀D,ClB ops D->ij false D 23=true->ij false D 6=true/\ij false D 12=true/\ij false D 18=true:=λD V h=>by subst f;exact⟨b0A V rfl h rfl,b0A V rfl h rfl,b0A V rfl h rfl⟩
 have d1: ∀D,ClB ops D->ij false D 26=true->ij false D 23=true:=λD V h=>by subst f;exact b0A V rfl h rfl
 have U: ∀D i,nu i 23=false->nu i 26=false->HP (xJ D i)=HP D:=λD i h1 h2=>by subst hHP;show(match ij false (xJ D i) 26 with|true=>_|false=>_)=_;rw[a3q,a3q,if_neg (λk=>by rw[k.1] at h2;cases h2),if_neg (λk=>by rw[k.1] at h1;cases h1)]
 have c5: ∀D,ij false D 23=false->ij false D 26=false->HP D=[⟨.x a6,true,[],3⟩,oC.blk ju 55,oG.blk ki 63,⟨.x fam,true,[],2⟩,⟨30,false,[oC.ch 1,oG.ch 2],0⟩,⟨35,false,t7 (Ig a1 a4 a2 Y a0),0⟩,u.blk ju 55,d.blk ki 63,⟨.x (b5Z n X F k x m),true,[],2⟩,⟨30,false,[u.ch 6,d.ch 7],0⟩]:=λD h1 h2=>by subst hHP;show(match ij false D 26 with|true=>_|false=>(match ij false D 23 with|true=>_|false=>_))=_;rw[h1,h2]
 have g7: ∀D,ij false D 23=true->ij false D 26=false->HP D=[⟨.x a6,true,[],3⟩,oC.blk ju 55,oG.blk ki 63,⟨.x fam,true,[],2⟩,⟨30,false,[oC.ch 1,oG.ch 2],0⟩,⟨35,false,t7 (Ig a1 a4 a2 Y a0),0⟩,u.blk ju 55,d.blk ki 63,⟨.x ((X.take k).map (b5X.ful n)++x.mid n (m+1)::((X.drop (k+1)).map b5X.ent++F)),true,[],2⟩,⟨30,false,[u.ch 6,d.ch 7],0⟩,⟨.t 0,true,[],0⟩]:=λD h1 h2=>by subst hHP;show(match ij false D 26 with|true=>_|false=>(match ij false D 23 with|true=>_|false=>_))=_;rw[h1,h2]
 have e9: ∀D,ij false D 26=true->HP D=[⟨.x a6,true,[],3⟩,oC.blk ju 55,oG.blk ki 63,⟨.x fam,true,[],2⟩,⟨30,false,[oC.ch 1,oG.ch 2],0⟩,⟨35,false,t7 (Ig a1 a4 a2 Y a0),0⟩,u.blk ju 55,d.blk ki 63,⟨.x ((X.take k).map (b5X.ful n)++x.mid n (m+2)::((X.drop (k+1)).map b5X.ent++F)),true,[],2⟩,⟨30,false,[u.ch 6,d.ch 7],0⟩,⟨.t 0,true,[],0⟩,⟨.t 0,true,[],0⟩]:=λD h2=>by subst hHP;show(match ij false D 26 with|true=>_|false=>(match ij false D 23 with|true=>_|false=>_))=_;rw[h2]
 have a8: ∀(D:List Bool) i o X (K:List SV->List aY->Prop),ops[i]? =some o->ln D=ln ops->ij true D i=false->(o.dst=none\/X=N i)->HP (xJ D i)=HP D->K (tmO ops N tm0 (xJ D i)) (HP (xJ D i))->fI o.dst X (tmO ops N tm0 D) (λtm=>K tm (HP D)):=λD i o X K J W E hX hH hK=>by (have j0:i<ln D:=by rcases cj i (ln D) with h|h;exact h;rw[iE,bi h] at E;cases E);rw[dp];have e:=C7 (v:=N) a5 J j0 hX;rw[e,hH] at hK;exact hK
 have I: ∀(D:List Bool) i,ij true D i=false->i<ln D:=λD i E=>by rcases cj i (ln D) with h|h;exact h;rw[iE,bi h] at E;cases E
 have AL:b1m 0 ops (λi o=> ∀D:List Bool,ln D=ln ops->ClB ops D->ops[i]? =some o->ij true D i=false->Bp D o.after.toList=true->b2j {T:=b3g.T,un:=b3g.un,D:=b3g.D,O:=b3g.O,n0:=[(⟨.x a6,true,[],3⟩:aY)].length,ord:=b3g.ord,R:=b3g.R,X:=b3g.X} (tmO ops N tm0) HP D i o):=by
  refine b1S f ?_;refine⟨?_,?_,?_,?_,?_,?_,?_,?_,?_,?_,?_,?_,?_,?_,?_,?_,?_,?_,?_,?_,?_,?_,?_,?_,?_,?_,?_,trivial⟩;intro D W V J E Q;exact⟨rfl,.inl ⟨_,λhf=>congrArg (λv=>some (Y0.val v)) (c3 D),C7 (v:=N) a5 J (I D 0 E) (.inr (by subst hvv;rfl)),U D 0 rfl rfl⟩⟩;intro D W V J E Q;exact⟨rfl,.inl ⟨_,λhf=>congrArg (λv=>some (Y0.val v)) (c3 D),C7 (v:=N) a5 J (I D 1 E) (.inr (by subst hvv;rfl)),U D 1 rfl rfl⟩⟩;intro D W V J E Q;exact⟨rfl,.inl ⟨_,λhf=>congrArg (λv=>some (Y0.val v)) (c3 D),C7 (v:=N) a5 J (I D 2 E) (.inr (by subst hvv;rfl)),U D 2 rfl rfl⟩⟩;intro D W V J E Q;exact⟨rfl,.inl ⟨_,λhf=>congrArg (λv=>some (Y0.val v)) (c3 D),C7 (v:=N) a5 J (I D 3 E) (.inr (by subst hvv;rfl)),U D 3 rfl rfl⟩⟩;intro D W V J E Q;have k0:=kT (j:=3) Q rfl;have e4:gv (tmO ops N tm0 D) (.tmp 63)= .c (.val (.pointer (some ⟨x.r,0+j*9+i*3,none⟩))):=(SD D 63 3 (by subst f;kernel_rfl) rfl k0).trans (by subst hvv;rfl);exact⟨rfl,.inr ⟨λhf=>a9I e4,rfl,λK hK=>(⟨_,e4,a8 D 4 _ (.c (.val (.pointer (some ⟨x.r,0+j*9+i*3,none⟩)))) K J W E (.inr (by subst hvv;rfl)) (U D 4 rfl rfl) hK⟩: ∃a,gv _ _=SV.c (.val (.pointer (some a)))/\fI _ (.c (.val (.pointer (some a)))) _ _)⟩⟩;intro D W V J E Q;have j6:=kT (j:=4) Q rfl;have g4:gv (tmO ops N tm0 D) (.tmp 64)= .c (.val (.pointer (some ⟨x.r,0+j*9+i*3,none⟩))):=(SD D 64 4 (by subst f;kernel_rfl) rfl j6).trans (by subst hvv;rfl);refine⟨rfl,.inr ⟨λhf=>a9E g4,rfl,λK hK=> ?_⟩⟩;(conv=>whnf);exact .inr ⟨_,_,_,_,_,g4,rfl,dc,a8 D 5 _ (.c (.val (.pointer (some ⟨x.r,0+j*9+i*3+0,none⟩)))) K J W E (.inr (by subst hvv;rfl)) (U D 5 rfl rfl) hK⟩;intro D W V J E Q;have i8:=kT (j:=5) Q rfl;have e7:gv (tmO ops N tm0 D) (.tmp 65)= .c (.val (.pointer (some ⟨x.r,0+j*9+i*3+0,none⟩))):=(SD D 65 5 (by subst f;kernel_rfl) rfl i8).trans (by subst hvv;rfl);refine⟨rfl,.inr ⟨λhf=>b0p e7,rfl,λK hK=> ?_⟩⟩
  have b2:ij false D 23=false:=by
   cases e:ij false D 23 with
   |false=>rfl
   |true=>have h6:=(e2 D V e).1;rw[a9J (I D 6 E)] at E;rw[h6] at E;cases E
  have b5:ij false D 26=false:=by
   cases e:ij false D 26 with
   |false=>rfl
   |true=>have h6:=d1 D V e;rw[b2] at h6;cases h6
  have eH:=c5 D b2 b5;have FF:fI _ _ _ (λtm=>K tm (HP D)):=a8 D 6 _ (.c (.int z0.x z0.hx)) K J W E (.inr (by subst hvv;rfl)) (U D 6 rfl rfl) hK;rw[eH] at FF⊢;(conv=>whnf);refine .inr ⟨x.r,0,0+j*9+i*3+0,8,qh (a0K n (a9K x.c.tl) m),.c (.int z0.x z0.hx),e7.trans (b1B (aN _).symm),⟨_,_,_,rfl,rfl,⟨x.mid n m,gG _ aP,rfl,rfl⟩⟩,⟨i0 _ om,ff⟩,?_⟩;rw[SV.force_eq];exact FF;intro D W V J E Q;exact⟨rfl,.inl ⟨_,λhf=>congrArg (λv=>some (Y0.val v)) (d6 D),C7 (v:=N) a5 J (I D 7 E) (.inr (by subst hvv;rfl)),U D 7 rfl rfl⟩⟩;intro D W V J E Q;have n3:=kT (j:=6) Q rfl;have l3:gv (tmO ops N tm0 D) (.tmp 66)= .c (.int z0.x z0.hx):=(SD D 66 6 (by subst f;kernel_rfl) rfl n3).trans (by subst hvv;rfl);have i6:=kT (j:=7) Q rfl;have m4:gv (tmO ops N tm0 D) (.tmp 67)= .c (.int n b6):=(SD D 67 7 (by subst f;kernel_rfl) rfl i6).trans (by subst hvv;rfl);exact⟨rfl,.inl ⟨.c (.int (wr ix (z0.x*n)) (el _)),λhf=>(b0h rfl l3 m4).trans rfl,C7 (v:=N) a5 J (I D 8 E) (.inr (by subst hvv;rfl)),U D 8 rfl rfl⟩⟩;intro D W V J E Q;exact⟨rfl,.inl ⟨_,λhf=>congrArg (λv=>some (Y0.val v)) (c3 D),C7 (v:=N) a5 J (I D 9 E) (.inr (by subst hvv;rfl)),U D 9 rfl rfl⟩⟩;intro D W V J E Q;have j2:=kT (j:=9) Q rfl;have f1:gv (tmO ops N tm0 D) (.tmp 69)= .c (.val (.pointer (some ⟨x.r,0+j*9+i*3,none⟩))):=(SD D 69 9 (by subst f;kernel_rfl) rfl j2).trans (by subst hvv;rfl);exact⟨rfl,.inr ⟨λhf=>a9I f1,rfl,λK hK=>(⟨_,f1,a8 D 10 _ (.c (.val (.pointer (some ⟨x.r,0+j*9+i*3,none⟩)))) K J W E (.inr (by subst hvv;rfl)) (U D 10 rfl rfl) hK⟩: ∃a,gv _ _=SV.c (.val (.pointer (some a)))/\fI _ (.c (.val (.pointer (some a)))) _ _)⟩⟩;intro D W V J E Q;have l2:=kT (j:=10) Q rfl;have g8:gv (tmO ops N tm0 D) (.tmp 70)= .c (.val (.pointer (some ⟨x.r,0+j*9+i*3,none⟩))):=(SD D 70 10 (by subst f;kernel_rfl) rfl l2).trans (by subst hvv;rfl);refine⟨rfl,.inr ⟨λhf=>a9E g8,rfl,λK hK=> ?_⟩⟩;(conv=>whnf);exact .inr ⟨_,_,_,_,_,g8,rfl,dc,a8 D 11 _ (.c (.val (.pointer (some ⟨x.r,0+j*9+i*3+1,none⟩)))) K J W E (.inr (by subst hvv;rfl)) (U D 11 rfl rfl) hK⟩;intro D W V J E Q;have n2:=kT (j:=11) Q rfl;have f8:gv (tmO ops N tm0 D) (.tmp 71)= .c (.val (.pointer (some ⟨x.r,0+j*9+i*3+1,none⟩))):=(SD D 71 11 (by subst f;kernel_rfl) rfl n2).trans (by subst hvv;rfl);refine⟨rfl,.inr ⟨λhf=>b0p f8,rfl,λK hK=> ?_⟩⟩
  have b2:ij false D 23=false:=by
   cases e:ij false D 23 with
   |false=>rfl
   |true=>have h6:=(e2 D V e).2.1;rw[a9J (I D 12 E)] at E;rw[h6] at E;cases E
  have b5:ij false D 26=false:=by
   cases e:ij false D 26 with
   |false=>rfl
   |true=>have h6:=d1 D V e;rw[b2] at h6;cases h6
  have eH:=c5 D b2 b5;have FF:fI _ _ _ (λtm=>K tm (HP D)):=a8 D 12 _ (.c (.int z1.x z1.hx)) K J W E (.inr (by subst hvv;rfl)) (U D 12 rfl rfl) hK;rw[eH] at FF⊢;(conv=>whnf);refine .inr ⟨x.r,0,0+j*9+i*3+1,8,qh (a0K n (a9K x.c.tl) m),.c (.int z1.x z1.hx),f8.trans (b1B (aN _).symm),⟨_,_,_,rfl,rfl,⟨x.mid n m,gG _ aP,rfl,rfl⟩⟩,⟨m9 _ om,ff⟩,?_⟩;rw[SV.force_eq];exact FF;intro D W V J E Q;exact⟨rfl,.inl ⟨_,λhf=>congrArg (λv=>some (Y0.val v)) (d6 D),C7 (v:=N) a5 J (I D 13 E) (.inr (by subst hvv;rfl)),U D 13 rfl rfl⟩⟩;intro D W V J E Q;have j4:=kT (j:=12) Q rfl;have j3:gv (tmO ops N tm0 D) (.tmp 72)= .c (.int z1.x z1.hx):=(SD D 72 12 (by subst f;kernel_rfl) rfl j4).trans (by subst hvv;rfl);have k5:=kT (j:=13) Q rfl;have j7:gv (tmO ops N tm0 D) (.tmp 73)= .c (.int n b6):=(SD D 73 13 (by subst f;kernel_rfl) rfl k5).trans (by subst hvv;rfl);exact⟨rfl,.inl ⟨.c (.int (wr ix (z1.x*n)) (el _)),λhf=>(b0h rfl j3 j7).trans rfl,C7 (v:=N) a5 J (I D 14 E) (.inr (by subst hvv;rfl)),U D 14 rfl rfl⟩⟩;intro D W V J E Q;exact⟨rfl,.inl ⟨_,λhf=>congrArg (λv=>some (Y0.val v)) (c3 D),C7 (v:=N) a5 J (I D 15 E) (.inr (by subst hvv;rfl)),U D 15 rfl rfl⟩⟩;intro D W V J E Q;have m7:=kT (j:=15) Q rfl;have f5:gv (tmO ops N tm0 D) (.tmp 75)= .c (.val (.pointer (some ⟨x.r,0+j*9+i*3,none⟩))):=(SD D 75 15 (by subst f;kernel_rfl) rfl m7).trans (by subst hvv;rfl);exact⟨rfl,.inr ⟨λhf=>a9I f5,rfl,λK hK=>(⟨_,f5,a8 D 16 _ (.c (.val (.pointer (some ⟨x.r,0+j*9+i*3,none⟩)))) K J W E (.inr (by subst hvv;rfl)) (U D 16 rfl rfl) hK⟩: ∃a,gv _ _=SV.c (.val (.pointer (some a)))/\fI _ (.c (.val (.pointer (some a)))) _ _)⟩⟩;intro D W V J E Q;have i7:=kT (j:=16) Q rfl;have f3:gv (tmO ops N tm0 D) (.tmp 76)= .c (.val (.pointer (some ⟨x.r,0+j*9+i*3,none⟩))):=(SD D 76 16 (by subst f;kernel_rfl) rfl i7).trans (by subst hvv;rfl);refine⟨rfl,.inr ⟨λhf=>a9E f3,rfl,λK hK=> ?_⟩⟩;(conv=>whnf);exact .inr ⟨_,_,_,_,_,f3,rfl,dc,a8 D 17 _ (.c (.val (.pointer (some ⟨x.r,0+j*9+i*3+2,none⟩)))) K J W E (.inr (by subst hvv;rfl)) (U D 17 rfl rfl) hK⟩;intro D W V J E Q;have l6:=kT (j:=17) Q rfl;have f6:gv (tmO ops N tm0 D) (.tmp 77)= .c (.val (.pointer (some ⟨x.r,0+j*9+i*3+2,none⟩))):=(SD D 77 17 (by subst f;kernel_rfl) rfl l6).trans (by subst hvv;rfl);refine⟨rfl,.inr ⟨λhf=>b0p f6,rfl,λK hK=> ?_⟩⟩
  have b2:ij false D 23=false:=by
   cases e:ij false D 23 with
   |false=>rfl
   |true=>have h6:=(e2 D V e).2.2;rw[a9J (I D 18 E)] at E;rw[h6] at E;cases E
  have b5:ij false D 26=false:=by
   cases e:ij false D 26 with
   |false=>rfl
   |true=>have h6:=d1 D V e;rw[b2] at h6;cases h6
  have eH:=c5 D b2 b5;have FF:fI _ _ _ (λtm=>K tm (HP D)):=a8 D 18 _ (.c (.int z2.x z2.hx)) K J W E (.inr (by subst hvv;rfl)) (U D 18 rfl rfl) hK;rw[eH] at FF⊢;(conv=>whnf);refine .inr ⟨x.r,0,0+j*9+i*3+2,8,qh (a0K n (a9K x.c.tl) m),.c (.int z2.x z2.hx),f6.trans (b1B (aN _).symm),⟨_,_,_,rfl,rfl,⟨x.mid n m,gG _ aP,rfl,rfl⟩⟩,⟨m3 _ om,ff⟩,?_⟩;rw[SV.force_eq];exact FF;intro D W V J E Q;exact⟨rfl,.inl ⟨_,λhf=>congrArg (λv=>some (Y0.val v)) (d6 D),C7 (v:=N) a5 J (I D 19 E) (.inr (by subst hvv;rfl)),U D 19 rfl rfl⟩⟩;intro D W V J E Q;have l0:=kT (j:=18) Q rfl;have k3:gv (tmO ops N tm0 D) (.tmp 78)= .c (.int z2.x z2.hx):=(SD D 78 18 (by subst f;kernel_rfl) rfl l0).trans (by subst hvv;rfl);have h0:=kT (j:=19) Q rfl;have i4:gv (tmO ops N tm0 D) (.tmp 79)= .c (.int n b6):=(SD D 79 19 (by subst f;kernel_rfl) rfl h0).trans (by subst hvv;rfl);exact⟨rfl,.inl ⟨.c (.int (wr ix (z2.x*n)) (el _)),λhf=>(b0h rfl k3 i4).trans rfl,C7 (v:=N) a5 J (I D 20 E) (.inr (by subst hvv;rfl)),U D 20 rfl rfl⟩⟩;intro D W V J E Q;have i3:=kT (j:=0) Q rfl;have f7:gv (tmO ops N tm0 D) (.tmp 60)= .c (.val (.pointer (some ⟨x.r,0+j*9+i*3,none⟩))):=(SD D 60 0 (by subst f;kernel_rfl) rfl i3).trans (by subst hvv;rfl);exact⟨rfl,.inr ⟨λhf=>a9I f7,rfl,λK hK=>(⟨_,f7,a8 D 21 _ (.c (.val (.pointer (some ⟨x.r,0+j*9+i*3,none⟩)))) K J W E (.inr (by subst hvv;rfl)) (U D 21 rfl rfl) hK⟩: ∃a,gv _ _=SV.c (.val (.pointer (some a)))/\fI _ (.c (.val (.pointer (some a)))) _ _)⟩⟩;intro D W V J E Q;have m5:=kT (j:=21) Q rfl;have f0:gv (tmO ops N tm0 D) (.tmp 81)= .c (.val (.pointer (some ⟨x.r,0+j*9+i*3,none⟩))):=(SD D 81 21 (by subst f;kernel_rfl) rfl m5).trans (by subst hvv;rfl);refine⟨rfl,.inr ⟨λhf=>a9E f0,rfl,λK hK=> ?_⟩⟩;(conv=>whnf);exact .inr ⟨_,_,_,_,_,f0,rfl,dc,a8 D 22 _ (.c (.val (.pointer (some ⟨x.r,0+j*9+i*3+0,none⟩)))) K J W E (.inr (by subst hvv;rfl)) (U D 22 rfl rfl) hK⟩;intro D W V J E Q;have h8:=kT (j:=22) Q rfl;have g2:gv (tmO ops N tm0 D) (.tmp 82)= .c (.val (.pointer (some ⟨x.r,0+j*9+i*3+0,none⟩))):=(SD D 82 22 (by subst f;kernel_rfl) rfl h8).trans (by subst hvv;rfl);have k7:=kT (j:=8) Q rfl;have n4:gv (tmO ops N tm0 D) (.tmp 68)= .c (.int (wr ix (z0.x*n)) (el _)):=(SD D 68 8 (by subst f;kernel_rfl) rfl k7).trans (by subst hvv;rfl);refine⟨rfl,.inr ⟨λhf=>b0E g2,rfl,λK hK=> ?_⟩⟩;(have b2:ij false D 23=false:=by rw[<-a9J (I D 23 E)];exact E)
  have b5:ij false D 26=false:=by
   cases e:ij false D 26 with
   |false=>rfl
   |true=>have h6:=d1 D V e;rw[b2] at h6;cases h6
  have eH:=c5 D b2 b5;have eN:=g7 (xJ D 23) (by rw[a3q,if_pos ⟨rfl,I D 23 E⟩]) (by rw[a3q,if_neg (λk=>by cases k.1)];exact b5);have eT:tmO ops N tm0 (xJ D 23)=tmO ops N tm0 D:=C7 (X:=uv) a5 J (I D 23 E) (.inl rfl);rw[eT,eN] at hK;rw[eH];refine b07 (ti:=_) rfl (by rw[n4];rfl) rfl ⟨_,_,8,(X.take k).map (b5X.ful n),x.mid n (m+0),(X.drop (k+1)).map b5X.ent++F,qh (a0K n (a9K x.c.tl) (m+1)),g2,⟨rfl,rfl,rfl⟩,rfl,⟨b01 om (by rw[<-hZ];exact m0) (by simp only[<-hZ,w0]),b0u _⟩,⟨⟨.inr rfl,(OL.new oC ju 55).2,(OL.new oG ki 63).2,.inr rfl,.inl rfl,.inl rfl,(OL.new u ju 55).2,(OL.new d ki 63).2,.inr rfl,.inl rfl,trivial⟩,⟨trivial,trivial,trivial,λe he=>d7 e he,trivial,trivial,trivial,trivial,trivial,trivial,trivial⟩,d8⟩,?_⟩;exact hK;intro D W V J E Q;have g9:=kT (j:=1) Q rfl;have e5:gv (tmO ops N tm0 D) (.tmp 61)= .c (.val (.pointer (some ⟨x.r,0+j*9+i*3,none⟩))):=(SD D 61 1 (by subst f;kernel_rfl) rfl g9).trans (by subst hvv;rfl);exact⟨rfl,.inr ⟨λhf=>a9I e5,rfl,λK hK=>(⟨_,e5,a8 D 24 _ (.c (.val (.pointer (some ⟨x.r,0+j*9+i*3,none⟩)))) K J W E (.inr (by subst hvv;rfl)) (U D 24 rfl rfl) hK⟩: ∃a,gv _ _=SV.c (.val (.pointer (some a)))/\fI _ (.c (.val (.pointer (some a)))) _ _)⟩⟩;intro D W V J E Q;have l5:=kT (j:=24) Q rfl;have f9:gv (tmO ops N tm0 D) (.tmp 83)= .c (.val (.pointer (some ⟨x.r,0+j*9+i*3,none⟩))):=(SD D 83 24 (by subst f;kernel_rfl) rfl l5).trans (by subst hvv;rfl);refine⟨rfl,.inr ⟨λhf=>a9E f9,rfl,λK hK=> ?_⟩⟩;(conv=>whnf);exact .inr ⟨_,_,_,_,_,f9,rfl,dc,a8 D 25 _ (.c (.val (.pointer (some ⟨x.r,0+j*9+i*3+1,none⟩)))) K J W E (.inr (by subst hvv;rfl)) (U D 25 rfl rfl) hK⟩;intro D W V J E Q;have k8:=kT (j:=25) Q rfl;have g5:gv (tmO ops N tm0 D) (.tmp 84)= .c (.val (.pointer (some ⟨x.r,0+j*9+i*3+1,none⟩))):=(SD D 84 25 (by subst f;kernel_rfl) rfl k8).trans (by subst hvv;rfl);have m6:=kT (j:=14) Q rfl;have h5:gv (tmO ops N tm0 D) (.tmp 74)= .c (.int (wr ix (z1.x*n)) (el _)):=(SD D 74 14 (by subst f;kernel_rfl) rfl m6).trans (by subst hvv;rfl);refine⟨rfl,.inr ⟨λhf=>b0E g5,rfl,λK hK=> ?_⟩⟩;have j5:=kT (j:=23) Q rfl;(have b5:ij false D 26=false:=by rw[<-a9J (I D 26 E)];exact E);have eH:=g7 D j5 b5;have eN:=e9 (xJ D 26) (by rw[a3q,if_pos ⟨rfl,I D 26 E⟩]);have eT:tmO ops N tm0 (xJ D 26)=tmO ops N tm0 D:=C7 (X:=uv) a5 J (I D 26 E) (.inl rfl);rw[eT,eN] at hK;rw[eH];refine b07 (ti:=_) rfl (by rw[h5];rfl) rfl ⟨_,_,8,(X.take k).map (b5X.ful n),x.mid n (m+1),(X.drop (k+1)).map b5X.ent++F,qh (a0K n (a9K x.c.tl) (m+2)),g5,⟨rfl,rfl,rfl⟩,rfl,⟨b01 om (by rw[<-hZ];exact m1) (by simp only[<-hZ,w1]),b0u _⟩,⟨⟨.inr rfl,(OL.new oC ju 55).2,(OL.new oG ki 63).2,.inr rfl,.inl rfl,.inl rfl,(OL.new u ju 55).2,(OL.new d ki 63).2,.inr rfl,.inl rfl,.inr rfl,trivial⟩,⟨trivial,trivial,trivial,λe he=>d7 e he,trivial,trivial,trivial,trivial,trivial,trivial,trivial,trivial⟩,d8⟩,?_⟩;exact hK
 have k9:tmO ops N tm0 (vX ops)=tm0:=b1i ops N tm0
 have l7:HP (vX ops)=[⟨.x a6,true,[],3⟩,oC.blk ju 55,oG.blk ki 63,⟨.x fam,true,[],2⟩,⟨30,false,[oC.ch 1,oG.ch 2],0⟩,⟨35,false,t7 (Ig a1 a4 a2 Y a0),0⟩,u.blk ju 55,d.blk ki 63,⟨.x (b5Z n X F k x m),true,[],2⟩,⟨30,false,[u.ch 6,d.ch 7],0⟩]:=c5 _ (by subst f;rfl) (by subst f;rfl)
 refine b2K k9 l7 ?_
 refine b17 i9 (λD i o W V J E Q=>by have:=b04 AL J;rw[aN] at this;exact this D W V J E Q) ?_ ops (vX ops) (by rw[rT,bb]) (b1f ops) (by unfold b1g;rw[rT,List.count_replicate_self];exact ai _)
 rw[e8,e9 _ rfl]
 refine b2D (P:=λl=>vcR _ _ _ _ _ l _ _) (l:=[_,_,_,_,_,_,_,.c (.val (.bool true)),.c (.ptr 4 0),.c (.ptr 5 0),.c (.int n b6),.c (.ptr 9 0),.c (.int (k:Nat) f4),.c (.int (j:Nat) l1),.c (.int (i:Nat) n1),_,_,_,_,_,_,_,_,_,_,_,_,_,_,_,_,_,_,_,_,_,_,_,_,_,_,_,_,_,_,_,_,_,_,_,_,_,_,_,_,_,_,_,_,_,_,_,.c (.val (.pointer (some ⟨x.r,0+j*9+i*3,none⟩))),_,_,_,_,_,_,_,_,_,_,_,_,_,_,_,_,_,.c (.int (wr ix (z2.x*n)) (el _)),_,_,_,_,_,_,_,_,_,_,_,_,_,_,_,_,_,_,_,_,_,_,_,_,_,_,_,_,_,_,_,_,_,_,_,_,_,_,_,_,_,_,_,_,_,_,_,_,_,_,_,_,_,_]) (by subst f;subst d0;subst hvv;rfl) ?_
 subst f
 refine⟨_,rfl,?_⟩
 conv=>whnf
 refine .inr ⟨_,_,_,_,_,rfl,rfl,dc,?_⟩
 conv=>whnf
 exact .inr ⟨_,_,8,(X.take k).map (b5X.ful n),x.mid n (m+2),(X.drop (k+1)).map b5X.ent++F,qh (a0K n (a9K x.c.tl) (m+3)),rfl,⟨rfl,rfl,rfl⟩,rfl,⟨b01 om (by rw[<-hZ];exact m2) (by simp only[<-hZ,w2]),b0u _⟩,⟨⟨.inr rfl,(OL.new oC ju 55).2,(OL.new oG ki 63).2,.inr rfl,.inl rfl,.inl rfl,(OL.new u ju 55).2,(OL.new d ki 63).2,.inr rfl,.inl rfl,.inr rfl,.inr rfl,trivial⟩,⟨trivial,trivial,trivial,d7,trivial,trivial,trivial,trivial,trivial,trivial,trivial,trivial,trivial⟩,d8⟩,nq [0,1,2,3,4,5,6,7,8,9] ⟨i+1,d2⟩ (pc (congrArg TyX.x (congrArg (b5Z n X F k x) (show m+3=9*j+3*(i+1) by omega))))⟩
 have d2:i=3:=by have:=of_decide_eq_false h3;omega
 subst d2
 exact nq [0,1,2,3,4,5,6,7,8,9] ⟨j+1,e6⟩ (pc (congrArg TyX.x (congrArg (b5Z n X F k x) (show 9*j+3*3=9*(j+1) by omega))))
 have n5:ln x.c.tl<=j:=gi h2
 obtain rfl:j=ln x.c.tl:=bo hj n5
 exact nq [0,1,2,3,4,5,6,7,8,9] ⟨k+1,c6⟩ (pc (congrArg TyX.x (b1Z hx n F c6)))
 have d4:ln X<=k:=by have:=gi h1;omega
 obtain rfl:k=ln X:=bo hk d4
 conv=>whnf
 refine zK [0,1,2,3,4,5,6,7,8,9] [7,8,9,10,11,16] [1,2,6,7] (G:={k:Nat//k<=ln d.l}) (λg=>[(16,.c (.int (g.1:Nat) (aR d.ok g.2)))]) (λg=>[(7,(d.gs n g.1).blk ki 63)]) (λg=>ln d.l-g.1) ⟨0,ah _⟩ trivial ?_
 rintro ⟨k,hk⟩ vd2
 have hk:k<=ln d.l:=hk
 have f4:IR (k:Int):=aR d.ok hk
 dsimp only
 refine zB ?_ ?_<;>intro h4
 have c7:k<ln d.l:=dL h4
 have g3:k<(b50 n d.l k).length:=by rw[b0j];exact c7
 obtain⟨g0,hg0⟩: ∃g,g=d.l[k]:=⟨_,rfl⟩
 have g6:(b50 n d.l k)[k]=g0:=by rw[hg0];exact b2w n c7
 refine p6 ?_
 conv=>arg 2;tactic'=>exact ap rfl rfl rfl rfl (by exact(mj.self ki (b50 n d.l k)).part g3 5 1 (r:=[.int g0.total g0.ht]) (by rw[g6];rfl)) rfl
 refine p6 ?_
 conv=>arg 2;tactic'=>exact bM (l:=[.int (wr ix (g0.total*n)) (el _)]) (cs:=bG ki (b50 n d.l (k+1))) rfl rfl rfl rfl (⟨rfl,rfl⟩) rfl (by exact d.ok.pos om) (by(rw[<-b2x n c7,<-hg0];exact ye ki g3 (x:=b52 n g0) (new:=[.int (wr ix (g0.total*n)) (el _)]) (A:=[.int g0.level g0.hl,g0.i.v,g0.o.v,g0.m.v,.int g0.err g0.he]) (M:=[.int g0.total g0.ht]) (B:=[.val (.bool g0.dn),.val (.string g0.dd)]) (by rw[g6];rfl) rfl rfl (by show 0+k*8+5=k*8+5;omega)))
 conv=>whnf
 rw[bV]
 exact dD [0,1,2,3,4,5,6,7,8,9] ⟨k+1,c7⟩ (h:=λo0=>⟨ab ju _,ab ki _,ab ju _,ab ki _,(by(iterate 16 refine⟨fr,?_⟩);refine⟨λρ=>kM (dr (n:=ln d.l) c7 d.ok.ir) ρ,?_⟩;exact gm _),(by(iterate 7 refine⟨mL _,?_⟩);refine⟨⟨rfl,rfl,(by show(_-(b50 n d.l k).length)*8=(_-(b50 n d.l (k+1)).length)*8;rw[b0j,b0j];rfl),fr⟩,?_⟩;exact gz _)⟩)
 have d4:ln d.l<=k:=gi h4
 obtain rfl:k=ln d.l:=bo hk d4
 conv=>whnf
 obtain⟨w,hw⟩: ∃w:VW,w=(⟨⟨wr ix (q0.tmod 524288*n),wr ix (q1.tmod 524288*n),wr ix (q2.tmod 524288*n),el _,el _,el _⟩,q3.tmod 5000,q4.tmod 50,Y.tmod _,a0.tmod _⟩:VW):=⟨_,rfl⟩
 have c9:eM (X.map (b5X.sc n))=bG ju u.l:=by rw[<-b1r,<-d9,Dv]
 have a9:ln u.l=(X.map (b5X.sc n)).length:=by rw[d3,bO]
 have b8:ln d.l=(d.gs n (ln d.l)).l.length:=(b0j _ _ _).symm
 refine kF (Z:= ?Z1_0/\ ?Z1_1/\ ?Z1_2/\ ?Z1_3) (λH=> ?cur1) ?nxt1
 case cur1=>
  refine⟨?_,?_,?_,?_,trivial⟩
  conv=>whnf
  exact H.1
  conv=>whnf
  exact H.2.1
  conv=>whnf
  exact H.2.2.1
  conv=>whnf
  exact H.2.2.2
 case nxt1=>
  refine kF (Z:= ?Z2_0/\ ?Z2_1/\ ?Z2_2/\ ?Z2_3/\ ?Z2_4/\ ?Z2_5) (λH=> ?cur2) ?nxt2
  case cur2=>
   refine⟨⟨?_,?_,?_,trivial⟩,?_,?_,?_⟩
   conv=>whnf
   exact H.1
   conv=>whnf
   exact H.2.1
   conv=>whnf
   exact H.2.2.1
   refine⟨?_,?_,?_,trivial⟩
   conv=>whnf
   exact H.1
   conv=>whnf
   exact H.2.2.2.1
   conv=>whnf
   exact H.2.2.2.2.1
   refine⟨?_,?_,?_,trivial⟩
   conv=>whnf
   exact H.2.1
   conv=>whnf
   exact H.2.2.2.1
   conv=>whnf
   exact H.2.2.2.2.2
   refine⟨?_,?_,?_,trivial⟩
   conv=>whnf
   exact H.2.2.1
   conv=>whnf
   exact H.2.2.2.2.1
   conv=>whnf
   exact H.2.2.2.2.2
  case nxt2=>
   refine kF (Z:= ?Z3_0/\ ?Z3_1/\ ?Z3_2/\ ?Z3_3) (λH=> ?cur3) ?nxt3
   case cur3=>
    refine⟨⟨?_,?_,?_,trivial⟩,?_,?_,?_,?_,?_⟩
    clear H
    refine⟨3,[1,2],[.agg [.sli oC.nl 0 0 (ln oC.l) oC.cap oC.ok,.sli oG.nl 1 0 (ln oG.l) oG.cap oG.ok],.agg (t7 (Ig a1 a4 a2 Y a0))],(λρ c8 e=>by
     show cg (SV.den ρ) [.agg [.sli oC.nl 1 0 (ln oC.l) oC.cap oC.ok,.sli oG.nl 2 0 (ln oG.l) oG.cap oG.ok],.agg (t7 (Ig a1 a4 a2 Y a0))]=_
     have e0:=e 0 _ rfl
     have e1:=e 1 _ rfl
     simp only[cg,SV.den,C.cells,e0,e1,aL,bF,af]
     rfl),.inl rfl,⟨ab ju _,ab ki _,trivial⟩,oC.nl,oC.l,oC.cap,oC.ok,oG.nl,oG.l,oG.cap,oG.ok,fam,_,_,(Ig a1 a4 a2 Y a0),rfl,(by rw[Dv,DX]),⟨gk.co,gk.gk⟩,gk.cn,om,λc1 b3 _=> ?_⟩
    have i1:=Ln d5 (b3 gk.sn) (KW gk.sn)
    refine⟨⟨⟨⟨8,[6,7],[.agg [.sli u.nl 0 0 (X.map (b5X.sc n)).length u.cap (a9▸u.ok),.sli d.nl 1 0 (d.gs n (ln d.l)).l.length d.cap (d.gs n (ln d.l)).ok],.agg (t7 w)],b0o a9 b8 hw,.inl rfl,⟨ab ju _,ab ki _,trivial⟩,u.nl,X.map (b5X.sc n),u.cap,(a9▸u.ok),d.nl,(d.gs n (ln d.l)).l,d.cap,(d.gs n (ln d.l)).ok,b5Y n X F (ln X),_,_,w,rfl,(by rw[c9,DX]),⟨b1a,b1b b7⟩,(by rw[bO];exact c0),(by rw[<-b8,b9];omega),λc2 a7 _=> ?_⟩,trivial⟩,trivial⟩,?_,trivial⟩
    iterate 2
     try refine⟨⟨⟨8,[6,7],[.agg [.sli u.nl 0 0 (X.map (b5X.sc n)).length u.cap (a9▸u.ok),.sli d.nl 1 0 (d.gs n (ln d.l)).l.length d.cap (d.gs n (ln d.l)).ok],.agg (t7 w)],b0o a9 b8 hw,.inl rfl,⟨ab ju _,ab ki _,trivial⟩,u.nl,X.map (b5X.sc n),u.cap,(a9▸u.ok),d.nl,(d.gs n (ln d.l)).l,d.cap,(d.gs n (ln d.l)).ok,b5Y n X F (ln X),_,_,w,rfl,(by rw[c9,DX]),⟨b1a,b1b b7⟩,(by rw[bO];exact c0),(by rw[<-b8,b9];omega),λc2 a7 _=> ?_⟩,trivial⟩,trivial⟩
     have he:c1.l=c2.l:=b0D hn hg c4 b7 hw i1 a7
     exact⟨⟨⟨ab bY _,ab bY _,trivial⟩,c1.nl,c1.l,c1.cap,c1.ok,c2.nl,c2.l,c2.cap,c2.ok,_,_,rfl,rfl,[0],[],λe3=>⟨_,[],rfl,gz _,trivial,.c (.val (.bool true)),λρ=>jD (decide_eq_true he) ρ,V⟩⟩,trivial⟩
    conv=>whnf
    exact H.1
    conv=>whnf
    exact H.2.1
    refine⟨?_,?_,trivial⟩
    conv=>whnf
    exact H.1
    conv=>whnf
    exact H.2.2.1
    refine⟨?_,?_,trivial⟩
    conv=>whnf
    exact H.2.1
    conv=>whnf
    exact H.2.2.1
    refine⟨?_,?_,trivial⟩
    conv=>whnf
    exact H.1
    conv=>whnf
    exact H.2.2.2
    refine⟨?_,?_,trivial⟩
    conv=>whnf
    exact H.2.1
    conv=>whnf
    exact H.2.2.2
    refine⟨?_,?_,trivial⟩
    conv=>whnf
    exact H.2.2.1
    conv=>whnf
    exact H.2.2.2
   case nxt3=>
    refine kF (Z:= ?Z4_0) (λH=> ?cur4) ?nxt4
    case cur4=>
     refine⟨⟨?_,?_,trivial⟩,?_,?_,?_⟩
     iterate 2
      try refine⟨?_,?_,trivial⟩
      clear H
      refine⟨3,[1,2],[.agg [.sli oC.nl 0 0 (ln oC.l) oC.cap oC.ok,.sli oG.nl 1 0 (ln oG.l) oG.cap oG.ok],.agg (t7 (Ig a1 a4 a2 Y a0))],(λρ c8 e=>by
       show cg (SV.den ρ) [.agg [.sli oC.nl 1 0 (ln oC.l) oC.cap oC.ok,.sli oG.nl 2 0 (ln oG.l) oG.cap oG.ok],.agg (t7 (Ig a1 a4 a2 Y a0))]=_
       have e0:=e 0 _ rfl
       have e1:=e 1 _ rfl
       simp only[cg,SV.den,C.cells,e0,e1,aL,bF,af]
       rfl),.inl rfl,⟨ab ju _,ab ki _,trivial⟩,oC.nl,oC.l,oC.cap,oC.ok,oG.nl,oG.l,oG.cap,oG.ok,fam,_,_,(Ig a1 a4 a2 Y a0),rfl,(by rw[Dv,DX]),⟨gk.co,gk.gk⟩,gk.cn,om,λc1 b3 _=> ?_⟩
      have i1:=Ln d5 (b3 gk.sn) (KW gk.sn)
      refine⟨⟨⟨8,[6,7],[.agg [.sli u.nl 0 0 (X.map (b5X.sc n)).length u.cap (a9▸u.ok),.sli d.nl 1 0 (d.gs n (ln d.l)).l.length d.cap (d.gs n (ln d.l)).ok],.agg (t7 w)],b0o a9 b8 hw,.inl rfl,⟨ab ju _,ab ki _,trivial⟩,u.nl,X.map (b5X.sc n),u.cap,(a9▸u.ok),d.nl,(d.gs n (ln d.l)).l,d.cap,(d.gs n (ln d.l)).ok,b5Y n X F (ln X),_,_,w,rfl,(by rw[c9,DX]),⟨b1a,b1b b7⟩,(by rw[bO];exact c0),(by rw[<-b8,b9];omega),λc2 a7 _=> ?_⟩,trivial⟩,trivial⟩
      have he:c1.l=c2.l:=b0D hn hg c4 b7 hw i1 a7
      exact⟨⟨⟨ab bY _,ab bY _,trivial⟩,c1.nl,c1.l,c1.cap,c1.ok,c2.nl,c2.l,c2.cap,c2.ok,_,_,rfl,rfl,[0],[],λe3=>⟨_,[],rfl,gz _,trivial,.c (.val (.bool true)),λρ=>jD (decide_eq_true he) ρ,V⟩⟩,trivial⟩
      conv=>whnf
      exact H
     refine⟨?_,trivial⟩
     conv=>whnf
     exact H
     refine⟨?_,trivial⟩
     conv=>whnf
     exact H
    case nxt4=>
     refine⟨?_,trivial⟩
     refine⟨3,[1,2],[.agg [.sli oC.nl 0 0 (ln oC.l) oC.cap oC.ok,.sli oG.nl 1 0 (ln oG.l) oG.cap oG.ok],.agg (t7 (Ig a1 a4 a2 Y a0))],(λρ c8 e=>by
      show cg (SV.den ρ) [.agg [.sli oC.nl 1 0 (ln oC.l) oC.cap oC.ok,.sli oG.nl 2 0 (ln oG.l) oG.cap oG.ok],.agg (t7 (Ig a1 a4 a2 Y a0))]=_
      have e0:=e 0 _ rfl
      have e1:=e 1 _ rfl
      simp only[cg,SV.den,C.cells,e0,e1,aL,bF,af]
      rfl),.inl rfl,⟨ab ju _,ab ki _,trivial⟩,oC.nl,oC.l,oC.cap,oC.ok,oG.nl,oG.l,oG.cap,oG.ok,fam,_,_,(Ig a1 a4 a2 Y a0),rfl,(by rw[Dv,DX]),⟨gk.co,gk.gk⟩,gk.cn,om,λc1 b3 _=> ?_⟩
     have i1:=Ln d5 (b3 gk.sn) (KW gk.sn)
     refine⟨⟨8,[6,7],[.agg [.sli u.nl 0 0 (X.map (b5X.sc n)).length u.cap (a9▸u.ok),.sli d.nl 1 0 (d.gs n (ln d.l)).l.length d.cap (d.gs n (ln d.l)).ok],.agg (t7 w)],b0o a9 b8 hw,.inl rfl,⟨ab ju _,ab ki _,trivial⟩,u.nl,X.map (b5X.sc n),u.cap,(a9▸u.ok),d.nl,(d.gs n (ln d.l)).l,d.cap,(d.gs n (ln d.l)).ok,b5Y n X F (ln X),_,_,w,rfl,(by rw[c9,DX]),⟨b1a,b1b b7⟩,(by rw[bO];exact c0),(by rw[<-b8,b9];omega),λc2 a7 _=> ?_⟩,trivial⟩
     have he:c1.l=c2.l:=b0D hn hg c4 b7 hw i1 a7
     exact⟨⟨⟨ab bY _,ab bY _,trivial⟩,c1.nl,c1.l,c1.cap,c1.ok,c2.nl,c2.l,c2.cap,c2.ok,_,_,rfl,rfl,[0],[],λe3=>⟨_,[],rfl,gz _,trivial,.c (.val (.bool true)),λρ=>jD (decide_eq_true he) ρ,V⟩⟩,trivial⟩
end
section
open Go.ChangeShapes Go.WideShapes Go.ChangeAt Go.RowKit
def own:ownKnob Tryz.prog.godebug=none:=kr
def Xr:laidOutB Tryz.prog=true:=kr
section
variable {H:Type} {enc:TypeId×Value->H}
def sO {W i} (hb:Below W.heap.size W i) {g}: ∀{ts vs ds ps},DataW.TrodAll enc Tryz.prog W 0 (λ_=>true) true ts vs ds ps->
  (∀t∈ts, Tryz.prog.readableRec t=true/\t< Tryz.prog.types.size)->(∀x∈ps,x.block<W.heap.size)->(∀x∈ps,g x.block=true)->DataW.TrodAll enc Tryz.prog i 0 g true ts vs ds ps
 |[],[],[],_,h,_,_,_=>h
 |t::ts,v::vs,d::ds,ps,h,ht,hlt,hsp=>by obtain⟨p,q,k,j,rfl⟩:=h;exact⟨p,q,WideElems.Trod_stays Xr (ht t aP).1 (ht t aP).2 k (λx e=>hb.same (hlt x (gc _ e))) (λx e=>hsp x (gc _ e)),sO hb j (λt f=>ht t (aD _ f)) (λx e=>hlt x (gG _ e)) (λx e=>hsp x (gG _ e)),rfl⟩
 |[],_::_,_,_,h,_,_,_=>h.elim
 |[],[],_::_,_,h,_,_,_=>h.elim
 |_::_,[],_,_,h,_,_,_=>by cases‹List (DataW H)›<;>exact h.elim
 |_::_,_::_,[],_,h,_,_,_=>h.elim
variable {w:World} {base:Nat} {sp:Nat->Bool} {held:Bool}
def oh {t} (g: Tryz.prog.underlying t=some (.int .i64)) {d c x} (h:DataW.trod enc Tryz.prog w base sp held d t [c]=some x): ∃z,c= .int .i64 z/\IR z:=by obtain⟨z,e,_,f⟩:=DataW.trod_int g h;have:=bounds_i64 f;exact⟨z,by simpa using e,this⟩
def u3: Tryz.prog.underlying 3 =some (.int .i64):=kr
def AI {t e n k} (o: Tryz.prog.underlying t=some (.array n e)) (hk: Tryz.prog.cellsOf e=k) {d l x} (h:DataW.trod enc Tryz.prog w base sp held d t l=some x): ln l= Tryz.prog.cellsOf t/\ ∀i,i<n-> ∃m y,DataW.trod enc Tryz.prog w base sp held m e ((l.drop (i*k)).take k)=some y:=by obtain⟨j,m,_,_,g,q,f⟩:=DataW.trod_array o h;refine⟨g,λi p=> ?_⟩;have:=f i p;rw[hk] at this;exact⟨m,j[i]' om,this.trans (ae om)⟩
def u6 {t e n} (d: Tryz.prog.underlying t=some (.array n e)) {b0 v} (h:Value.okWide Tryz.prog w .any b0 t v): ∃cs:Array Value,v= .agg cs:=by unfold Value.okWide at h;rw[d] at h;obtain⟨cs,e,_⟩:=h;exact⟨cs,e⟩
def a1r: Tryz.prog.cellsOf 3 =1:=kr
def N1: Tryz.prog.cellsOf 25 =5:=kr
def Dm {e l x} (h:DataW.trod enc Tryz.prog w base sp held e 25 l=some x): ∃v0 v1 v2 v3 v4,l=[.int .i64 v0,.int .i64 v1,.int .i64 v2,.int .i64 v3,.int .i64 v4]/\IR v0/\IR v1/\IR v2/\IR v3/\IR v4:=by
 obtain⟨k,d⟩:=AI Tryz.underlying25 a1r h;rw[N1] at k;clear h
 match l,k with
 |[E,a1,a2,a3,a4],_=>
  obtain⟨z,D,g⟩:=d 0 dc
  change DataW.trod enc Tryz.prog w base sp held z 3 [E]=some D at g
  obtain⟨A,r,j⟩:=d 1 dc
  change DataW.trod enc Tryz.prog w base sp held A 3 [a1]=some r at j
  obtain⟨p,J,f⟩:=d 2 dc
  change DataW.trod enc Tryz.prog w base sp held p 3 [a2]=some J at f
  obtain⟨q,s,m⟩:=d 3 dc
  change DataW.trod enc Tryz.prog w base sp held q 3 [a3]=some s at m
  obtain⟨G,B,i⟩:=d 4 dc
  change DataW.trod enc Tryz.prog w base sp held G 3 [a4]=some B at i
  obtain⟨v0,rfl,y⟩:=oh u3 g
  obtain⟨v1,rfl,o⟩:=oh u3 j
  obtain⟨v2,rfl,F⟩:=oh u3 f
  obtain⟨v3,rfl,u⟩:=oh u3 m
  obtain⟨v4,rfl,I⟩:=oh u3 i
  exact⟨v0,v1,v2,v3,v4,rfl,y,o,F,u,I⟩
def Hb {b0 v d ps} (f:Value.okWide Tryz.prog w .any b0 25 v) (j:DataW.Trod enc Tryz.prog w base sp held 25 v d ps): ∃v0 v1 v2 v3 v4,v= .agg #[.int .i64 v0,.int .i64 v1,.int .i64 v2,.int .i64 v3,.int .i64 v4]/\IR v0/\IR v1/\IR v2/\IR v3/\IR v4:=by obtain⟨i,rfl⟩:=u6 Tryz.underlying25 f;obtain⟨g,h⟩:=j;obtain⟨v0,v1,v2,v3,v4,e,k⟩:=Dm h;refine⟨v0,v1,v2,v3,v4,?_,k⟩;have e:i.toList=[.int .i64 v0,.int .i64 v1,.int .i64 v2,.int .i64 v3,.int .i64 v4]:=e;rw[<-mh (xs:=i),e]
def a51: Tryz.prog.underlying 5 =some (.int .u8):=kr
def F7: Tryz.prog.cellsOf 5 =1:=kr
def uw {d c x} (h:DataW.trod enc Tryz.prog w base sp held d 5 [c]=some x): ∃z,c= .int .u8 z/\0<=z/\z<256:=by
 obtain⟨z,e,_,f⟩:=DataW.trod_int a51 h;have f:(0:Int)<=z/\z<=255:=by simpa[Lit.wf,IntKind.min,IntKind.max,IntKind.signed,IntKind.bits] using f
 exact⟨z,by simpa using e,f.1,om⟩
def b16 {b0 v d ps} (f:Value.okWide Tryz.prog w .any b0 5 v) (i:DataW.Trod enc Tryz.prog w base sp held 5 v d ps): ∃x:Int,v= .int .u8 x/\0<=x/\x<256:=by obtain⟨x,rfl⟩:=okWide_int a51 f;obtain⟨g,h⟩:=i;obtain⟨y,e,j⟩:=uw h;refine⟨x,rfl,?_⟩;simp only[Value.int.injEq,true_and] at e;rw[e];exact j
end
def yE ρ: ∀L:List ZV,af ρ (qh L)=L.map λz=>Value.int .i64 z.x
 |[]=>rfl
 |z::l=>by rw[qh,cO,yE ρ l];rfl
def Pn L:cC (qh L):=by rw[KK];exact ab bI L
section
variable {H:Type} {enc:TypeId×Value->H} {w:World} {held:Bool}
def Ri {a v} (h:w.cell? a=some v): ∃x:Obj,w.heap[a.block]? =some x/\x.isCells=true:=by unfold World.cell? at h;split at h;rename_i c e f d;exact⟨_,d,rfl⟩;cases h
def JZ {r cs x} (h:DataW.trod enc Tryz.prog w 0 (λ_=>true) held r 22 cs=some x): ∃(s:SW) (A fam0:_),cs=[.slice s.a s.n s.c]/\(tP fam0 ⟨s.a,min s.n 3,s.c⟩ A/\IR (s.n:Nat)/\s.n<=s.c)/\ ∀e∈fam0,iV w.heap.size w false e:=by
 rcases open_ints Tryz.underlying22 u3 kr h with⟨i,_⟩|⟨a,len,q,m,i,_,J,O,N,_,d,I⟩;exact⟨⟨none,0,0⟩,[],[],i,⟨⟨rfl,.inl rfl⟩,dc,ai _⟩,λe y=>by cases y⟩;simp only[if_true] at N;have k:IR ((len:Nat):Int):=bZ.ir (nl:=false) ⟨J,O,λh=>by cases h⟩;by_cases h0:len=0;subst h0;exact⟨⟨some a,0,q⟩,[],[],i,⟨⟨rfl,.inl rfl⟩,k,J⟩,λe y=>by cases y⟩;obtain⟨D,B,p⟩:=a;have o:p=none:=by simpa[Addr.add] using World.cell?_spot (d 0 om)
 subst o;have g: ∀z∈m.take (min len 3),IR z:=λz f=>by have:=bounds_i64 (I z (sY f));exact this
 have u:((m.take (min len 3)).pmap (λz h=>(⟨z,h⟩:ZV)) g).map (λz=>Value.int .i64 z.x)=(m.take (min len 3)).map (Value.int .i64):=by rw[List.map_pmap];exact List.pmap_eq_map g
 obtain⟨x,L,F⟩:=Ri (d 0 om);refine⟨⟨some ⟨D,B,none⟩,len,q⟩,(m.take (min len 3)).pmap (λz h=>(⟨z,h⟩:ZV)) g,[⟨(D,B),qh ((m.take (min len 3)).pmap (λz h=>(⟨z,h⟩:ZV)) g),0,0⟩],i,⟨⟨by rw[List.length_pmap,aO];show min len 3=_;omega,.inr ⟨D,B,rfl,⟨_,bq.2 rfl,rfl,rfl⟩⟩⟩,k,J⟩,λe y=> ?_⟩;obtain rfl:=bq.1 y;refine⟨Pn _,⟨x,L,F⟩,λh=>(by cases h),λj v E=> ?_,λ_=>(aE.1 L).1⟩;have E:(af (λ_=>(0,0)) (qh ((m.take (min len 3)).pmap (λz h=>(⟨z,h⟩:ZV)) g)))[j]? =some v:=E;rw[yE,u,gA] at E;obtain⟨z,f,rfl⟩:=Option.map_eq_some_iff.1 E;rw[gb] at f;split at f;have G:j<ln m:=(aw.1 f).1;have M:=d j G;rw[Addr.add_lit] at M;show w.cell? ⟨D,B+j,none⟩=_;rw[M,ao,f];rfl;cases f
def J0 {b0 v d ps} (f:Value.okWide Tryz.prog w .any b0 24 v) (D:DataW.Trod enc Tryz.prog w 0 (λ_=>true) held 24 v d ps): ∃(s:SW) (A fam0 x y:_),v=(SV.den (λ_=>(0,0)) (.agg [.val (.slice s.a s.n s.c),.val (.int .u8 x),.val (.int .u8 y)]))/\((tP fam0 ⟨s.a,min s.n 3,s.c⟩ A/\IR (s.n:Nat)/\s.n<=s.c)/\(0<=x/\x<256)/\(0<=y/\y<256))/\ ∀e∈fam0,iV w.heap.size w false e:=by
 obtain⟨r,rfl,_⟩:=okWide_struct Tryz.underlying24 f;obtain⟨g,h⟩:=D
 have key: ∀l:List Value,DataW.trod enc Tryz.prog w 0 (λ_=>true) held g 24 l=some (d,ps)-> ∃(s:SW) (A fam0 x y:_),l=[.slice s.a s.n s.c,.int .u8 x,.int .u8 y]/\((tP fam0 ⟨s.a,min s.n 3,s.c⟩ A/\IR (s.n:Nat)/\s.n<=s.c)/\(0<=x/\x<256)/\(0<=y/\y<256))/\ ∀e∈fam0,iV w.heap.size w false e:=λl h=>by
  obtain⟨z,n,_,_,u,q,p⟩:=DataW.trod_struct Tryz.underlying24 h;have F: Tryz.prog.cellsOf 24 =3:=kr;have cS: Tryz.prog.cellsOf 22 =1:=kr;rw[F] at u
  match l,u with
  |[i,a1,a2],_=>
   have q:ln z=3:=q
   match z,q with
   |[B,y1,y2],_=>
    have k:=p 0 _ rfl
    have m:=p 1 _ rfl
    have j:=p 2 _ rfl
    change DataW.trod enc Tryz.prog w 0 (λ_=>true) held n 22 (([i,a1,a2].drop 0).take (Tryz.prog.cellsOf 22))=some B at k
    change DataW.trod enc Tryz.prog w 0 (λ_=>true) held n 5 (([i,a1,a2].drop 1).take (Tryz.prog.cellsOf 5))=some y1 at m
    change DataW.trod enc Tryz.prog w 0 (λ_=>true) held n 5 (([i,a1,a2].drop 2).take (Tryz.prog.cellsOf 5))=some y2 at j
    rw[cS] at k
    rw[F7] at m j
    change DataW.trod enc Tryz.prog w 0 (λ_=>true) held n 22 [i]=some B at k
    change DataW.trod enc Tryz.prog w 0 (λ_=>true) held n 5 [a1]=some y1 at m
    change DataW.trod enc Tryz.prog w 0 (λ_=>true) held n 5 [a2]=some y2 at j
    obtain⟨s,A,fam0,E,J,o⟩:=JZ k
    obtain⟨x,rfl,L⟩:=uw m
    obtain⟨y,rfl,G⟩:=uw j
    obtain rfl:i=_:=by simpa using E
    exact⟨s,A,fam0,x,y,rfl,⟨J,L,G⟩,o⟩
 obtain⟨s,A,fam0,x,y,e,I⟩:=key r.toList h;refine⟨s,A,fam0,x,y,?_,I⟩;rw[<-mh (xs:=r),e];rfl
end
end
section
open Go.ChangeShapes Go.WideShapes Go.ChangeAt Go.RowKit
def b1e {f:FuncId} (M:pd Tryz.prog f b2f) {s:SW} {A:List ZV} {d:List mq} {x y z D F E B:Int} (p:IR z) (k:IR D) (r:IR F) (m:IR E) (q:IR B) (J:(tP d ⟨s.a,min s.n 3,s.c⟩ A/\IR (s.n:Nat)/\s.n<=s.c)/\(0<=x/\x<256)/\(0<=y/\y<256)) (w:World) (G: ∀e∈d,iV w.heap.size w false e) {b0:Int} (H:0<=b0/\b0<256): Calls Tryz.prog f #[SV.den (λ_=>(0,0)) (.agg [.val (.slice s.a s.n s.c),.val (.int .u8 x),.val (.int .u8 y)]),SV.den (λ_=>(0,0)) (.agg [.int z p,.int D k,.int F r,.int E m,.int B q]),.int .u8 b0] w λe w'=>e= .returned (.bool true)/\Below w.heap.size w w':=by
 refine(M.2 [.agg [.val (.slice s.a s.n s.c),.val (.int .u8 x),.val (.int .u8 y)],.agg [.int z p,.int D k,.int F r,.int E m,.int B q],.c (.val (.int .u8 b0))] [⟨.x d,true,[],3⟩] (λu _=>u= .c (.val (.bool true))) ⟨s,A,d,x,y,z,D,F,E,B,p,k,r,m,q,b0,rfl,rfl,⟨J,H⟩,rfl⟩ ⟨⟨rfl,rfl⟩,trivial⟩ ⟨ff,trivial⟩ (λ_=>(0,0)) w (λi c g=> ?_) (λi b o l e g I L=> ?_) (λi b o l g I=> ?_)).mono ?_;rcases i with _|i<;>simp[an] at g;subst g;exact λj v h=>by simp[af] at h
 rcases i with _|i<;>simp[an] at g;subst g;cases I;exact G e L;rcases i with _|i<;>simp[an] at g;subst g;cases I;rfl;rintro e w' ⟨u,news,σ,rfl,_,hh,_,L⟩;exact⟨L σ (gt.refl _ _),hh.bel.below⟩
end
end Go.Proofs.YtlgcobafjbajdaaGreatDoor
