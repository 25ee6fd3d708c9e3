/- w -/
import Derived.Test.YtlgcobafjbajdaaGreatDoorJ01
import Derived.Test.YtlgcobafjbajdaaGreatDoorJ12
import Derived.Test.YtlgcobafjbajdaaGreatDoorJ07
import Derived.Test.YtlgcobafjbajdaaGreatDoorRows
import Derived.ChangeSlices
import Derived.ProofKit
import Derived.OpenShut
import Derived.Carry
import Derived.LaidMore
import Derived.Lay
import Derived.SevenTiedAt
import Derived.Stop.Joined
namespace Go.Proofs.YtlgcobafjbajdaaGreatDoor
open Go.Proofs.Tryz
open Go.RowKit
open Int renaming mul_assoc→a3D
open IntKind renaming i64→ix,wrap→wr
open List renaming append_assoc→aJ,length→ln,map→cg,map_append→aV,replicate→au
open Option renaming some→bL
open _root_.Array renaming toArray_toList→mh
set_option linter.all false
set_option maxRecDepth 100000
set_option maxHeartbeats 32000000
section
variable {CL:List CU} {CT:List Bool}
def b1E:List (FuncId×cP):=[(25,a0W)]
def a9s:vB prog b1E:= .cons a73 .nil
def fh: ∀l:List Bool,kp l=bG bY l
 |[]=>rfl
 |b::l=>by rw[kp,fh l];rfl
def MdQ (CL:List CU) (CT:List Bool) (l:List ZV):Prop:= ∀z∈jN CL l,CT[z.x.toNat]? =some true
def MdQ.step {l j} (h:MdQ CL CT (l.take j)) (hj:j<ln l) {q:Nat} (i:l[j].x=(q:Int)) (f:q<ln CL) (h1:0<=CL[q].made->CT[CL[q].made.toNat]? =some true):MdQ CL CT (l.take (j+1)):=λz k=>by obtain⟨y,d,c,e,g,rfl⟩:=(jA CL).1 k;rw[bE hj] at d;rcases aT.1 d with d|d;exact h _ ((jA CL).2 ⟨y,d,c,e,g,rfl⟩);rw[bq.1 d] at e;unfold pm at e;rw[i,bW,ae f] at e;cases e;exact h1 g
def a94 {l j k} (hk:k<ln CT) (h:CT[k]=true->MdQ CL CT (l.take j)) (hj:ln l<=j):CT[k]? =some true-> ∀z∈jN CL l,CT[z.x.toNat]? =some true:=λd=>by rw[ae hk] at d;have:=h (bL.inj d);rw[bX hj] at this;exact this
def a6a:pd prog 16 a0Z:=iA GA bj (lP a9s (ck GA bj bg 0)) ⟨func16,kr,kr⟩ λX a6 K D=>by
 obtain⟨V,CL,P,I,W,L,Q,M,n3,CT,c3,T,fam,tc,td,tt,rfl,rfl,hL,D⟩:=D;rw[Dv,DX,fh];refine⟨zD,?_⟩
 refine⟨3,[0,1],[.agg [.sli V 0 0 (ln CL) P I,.sli W 1 0 (ln L) Q M]],(λρ a2 e=>by
  show cg (SV.den ρ) [.agg [.sli V 0 0 (ln CL) P I,.sli W 1 0 (ln L) Q M]]=_
  have e0:=e 0 _ rfl
  have e1:=e 1 _ rfl
  simp only[cg,SV.den,C.cells,e0,e1,aL,bF,af]),.inr rfl,⟨ab ju CL,ab ki L,trivial⟩,V,CL,P,I,W,L,Q,M,fam,_,_,rfl,(by rw[Dv,DX]),hL,λsb F=> ?_⟩
 refine zB ?_ ?_<;>intro hs;exact zO [0,1,2,3] [0,1,2] (D false (⟨λh=>(by cases h),λh=>absurd (F.2 h.1) (by rw[bt hs];decide)⟩));have E:=F.1 (bn hs);have u:=E.1;refine zB ?_ ?_<;>intro J;exact zO [0,1,2,3] [0,1,2] (D false (⟨λh=>(by cases h),λh=>absurd h.2.1 (a7F J)⟩));have J:ln CT=ln L:=a7E J;conv=>whnf
 refine zK [0,1,2,3,4] [1,2,6] [0,1,2] (G:={k:Nat//k<=ln CT/\ClQ CL L CT k}) (λg=>[(6,.c (.int (g.1:Nat) (aR T g.2.1)))]) (λ_=>[]) (λg=>ln CT-g.1) ⟨0,ah _,λk _ h=>absurd h (gh _)⟩ trivial ?_;rintro ⟨k,N,p⟩ va2;have N:k<=ln CT:=N;have p:ClQ CL L CT k:=p;dsimp only;refine zB ?_ ?_<;>intro Y;have f:k<ln CT:=dL Y;have hkl:k<ln L:=om;have a1:IR (k:Int):=aR T N;obtain⟨H,-,y,-⟩:=hL _ (ak hkl);have a4:=H.1;conv=>whnf
 refine zK [0,1,2,3,4] [1,2,6,7] [0,1,2] (G:={j:Nat//j<=L[k].il.length/\(CT[k]=true->MdQ CL CT (L[k].il.take j))}) (λg=>[(7,.c (.int (g.1:Nat) (Hg y H.1 g.2.1)))]) (λ_=>[]) (λg=>L[k].il.length-g.1) ⟨0,ah _,λ_ z hz=>absurd hz cd⟩ trivial ?_;rintro ⟨j,U,o⟩ vb2;have U:j<=L[k].il.length:=U;have o:CT[k]=true->MdQ CL CT (L[k].il.take j):=o;dsimp only;refine eS ?_;conv=>arg 2;tactic'=>exact eC rfl rfl rfl rfl rfl rfl y
 refine zB ?_ ?_<;>intro h5;refine eS ?_;refine zB ?_ ?_<;>intro x;have x:CT[k]=true:=x;have d:j<L[k].il.length:=by have:=dL h5;omega
 have a5:IR (j:Int):=Hg y H.1 U;obtain⟨r9,o9,ea,R⟩:=a6h H d;obtain⟨q,O,s⟩:=a3L u hkl (ak d);have a9:IR (q:Int):=aR I (bw s);refine eS ?_;refine⟨_,DR (r:=r9) (off:=o9) (len:=L[k].i.n) (cap:=L[k].i.c) (j:=j) rfl rfl (by show SV.c (.val (.slice L[k].i.a L[k].i.n L[k].i.c))=_;rw[ea]) rfl om,_,DS (r:=r9) (o1:=o9) (off:=j*1) (fb:=3) rfl rfl rfl rfl R (oO L[k].il d) ff,?_⟩;refine eS ?_;refine zB ?_ ?_<;>intro B;have B:0<=CL[q].made:=of_decide_eq_true B;have a8:=(pG u (ak s)).1;obtain⟨m,hm⟩: ∃m:Nat,CL[q].made=(m:Int):=⟨CL[q].made.toNat,om⟩;have A:m<ln CT:=om;have a7:IR (m:Int):=aR T (bw A);refine eS ?_;refine zB ?_ ?_<;>intro h8;exact zO [0,1,2,3] [0,1,2] (v3:=.c (.val (.bool false))) (D false (⟨λh=>(by cases h),λh=>absurd (h.2.2 k hkl (by rw[ae f,x]) _ (ak d) CL[q] (by unfold pm;rw[O,bW,ae s]) B) (by rw[hm,bW,ae A,bt h8];decide)⟩));exact dD [0,1,2,3,4] ⟨j+1,d,λ_=>(o x).step d O s (λ_=>by rw[hm,bW,ae A,bn h8])⟩;have B: ¬0<=CL[q].made:=of_decide_eq_false B;exact dD [0,1,2,3,4] ⟨j+1,d,λ_=>(o x).step d O s (λh=>absurd h B)⟩;have x:CT[k]=false:=x;exact dD [0,1,2,3,4] ⟨k+1,f,Px hkl p (λZ=>by rw[ae f,x] at Z;cases Z)⟩;exact dD [0,1,2,3,4] ⟨k+1,f,Px hkl p (a94 f o (by have:=gi h5;omega))⟩;have a0:ln CT<=k:=gi Y;exact zO [0,1,2,3] [0,1,2] (v3:=.c (.val (.bool true))) (D true (⟨λ_=>⟨E,J,a58.1 λi hi _=>p i hi om⟩,fr⟩))
end
def b1D:List (FuncId×cP):=[(16,a0Z)]
def a6x:vB prog b1D:= .cons a6a .nil
def a7N {m} {n:Nat} (h0: ¬m<0) (h1:m<(n:Int)): ∃q:Nat,m=(q:Int)/\q<n:=⟨m.toNat,om,om⟩
def a3y:pd prog 31 Q9:=iA GA bj (lP a6x (ck GA bj bg 0)) ⟨func31,kr,kr⟩ λa1 a7 K O=>by
 obtain⟨n1,d,W,H,n2,L,Y,R,T,j,Z,D,fam,tc,td,tt,rfl,rfl,hL,a2,O⟩:=O;rw[Dv,DX,fh];refine⟨zD,?_⟩
 refine⟨3,[0,1,2],[.agg [.sli n1 0 0 (ln d) W H,.sli n2 1 0 (ln L) Y R],.c (.sli T 2 0 (ln j) Z D)],(λρ a4 e=>by
  show cg (SV.den ρ) [.agg [.sli n1 0 0 (ln d) W H,.sli n2 1 0 (ln L) Y R],.c (.sli T 2 0 (ln j) Z D)]=_
  have e0:=e 0 _ rfl
  have e1:=e 1 _ rfl
  have e2:=e 2 _ rfl
  simp only[cg,SV.den,C.den,C.cells,e0,e1,e2,aL,bF,af]),.inr rfl,⟨ab ju d,ab ki L,ab bY j,trivial⟩,n1,d,W,H,n2,L,Y,R,T,j,Z,D,fam,_,_,_,rfl,(by rw[Dv,DX,fh]),hL,λvb F=> ?_⟩
 refine zB ?_ ?_<;>intro X;have J: ¬iZ d L j:=λh=>by rw[F.2 h] at X;cases X
 exact zO [0,1,2,3,1000+ 3] [0,1,2] (v3:=OL.none.sl 4) (O OL.none (λh=>absurd h J) fr);have J:iZ d L j:=F.1 (bn X);have a6:=J.2.1;conv=>whnf
 refine zK [0,1,2,3,4,1000+ 3] [1,2,6,7] [0,1,2,5] (G:={q:Nat×OL ZV//q.1<=ln d/\q.2.l=(l7 d j q.1).map zN}) (λg=>[(6,g.1.2.sl 5),(7,.c (.int (g.1.1:Nat) (aR H g.2.1)))]) (λg=>[(5,g.1.2.blk bI 3)]) (λg=>ln d-g.1.1) ⟨(0,OL.none),ah _,rfl⟩ trivial ?_;rintro ⟨⟨k,o⟩,M,s⟩ va2;have M:k<=ln d:=M;have s:o.l=(l7 d j k).map zN:=s;have a5:ln o.l<=k:=by rw[s,bO];exact Ar d j k
 dsimp only;refine zB ?_ ?_<;>intro h0;have f:k<ln d:=dL h0;have r:IR (k:Int):=aR H M;have z:=pG J.1.1 (ak f);refine eS ?_;refine zB ?_ ?_<;>intro N;refine zB ?_ ?_<;>intro y;have i:nf j d[k]=true:=vf (.inl N) (.inl y)
 iterate 2
  try
   have B:=of_decide_eq_false y
   obtain⟨u,I,p⟩:=a7N B (by have:=z;omega:d[k].used<(ln j:Int))
   have a0:IR (u:Int):=aR D (bw p)
   refine eS ?_
   refine zB ?_ ?_<;>intro E
   have i:nf j d[k]=true:=vf (.inl N) (.inr (by rw[mZ I p];exact bt E))
  refine A6 ?_
  exact⟨rfl,o.app bI 3 (m:=1) (by show(ln o.l+1)*1<=5000000000000;omega),λV U=> dD [0,1,2,3,4,8] ⟨(k+1,o.push [(⟨(k:Nat),r⟩:ZV)] rfl V U),f,(by show o.l++[_]=_;rw[vh f i,aV,s];show _=_++[zN k];rw[vv r])⟩⟩
 have i:nf j d[k]=false:=Hx y (by rw[mZ I p];exact bn E);exact dD [0,1,2,3,4,5] ⟨(k+1,o),f,(by show o.l=_;rw[ER f i,s])⟩;have P:=of_decide_eq_false N;obtain⟨m,hm,x⟩:=a7N P (by have:=z;omega:d[k].made<(ln j:Int));have a8:IR (m:Int):=aR D (bw x);refine eS ?_;refine zB ?_ ?_<;>intro A;have A:j[m]=true:=A;refine zB ?_ ?_<;>intro y;have i:nf j d[k]=true:=vf (.inr (by rw[mZ hm x];exact A)) (.inl y)
 iterate 2
  try
   have B:=of_decide_eq_false y
   obtain⟨u,I,p⟩:=a7N B (by have:=z;omega:d[k].used<(ln j:Int))
   have a0:IR (u:Int):=aR D (bw p)
   refine eS ?_
   refine zB ?_ ?_<;>intro E
   have i:nf j d[k]=true:=vf (.inr (by rw[mZ hm x];exact A)) (.inr (by rw[mZ I p];exact bt E))
  refine A6 ?_
  exact⟨rfl,o.app bI 3 (m:=1) (by show(ln o.l+1)*1<=5000000000000;omega),λV U=> dD [0,1,2,3,4,8] ⟨(k+1,o.push [(⟨(k:Nat),r⟩:ZV)] rfl V U),f,(by show o.l++[_]=_;rw[vh f i,aV,s];show _=_++[zN k];rw[vv r])⟩⟩
 have i:nf j d[k]=false:=Hx y (by rw[mZ I p];exact bn E);exact dD [0,1,2,3,4,5] ⟨(k+1,o),f,(by show o.l=_;rw[ER f i,s])⟩;have A:j[m]=false:=A;have i:nf j d[k]=false:=Ua N (by rw[mZ hm x];exact A);exact dD [0,1,2,3,4,5] ⟨(k+1,o),f,(by show o.l=_;rw[ER f i,s])⟩;have Q:ln d<=k:=gi h0;obtain rfl:k=ln d:=bo M Q;exact zO [0,1,2,3,5] [0,1,2,4] (v3:=o.sl 4) (O o (λ_=>s) (λh=>absurd J h))
def Zi:cP:=λd e K=> ∃f A c1 h1 n2 B c2 h2 ta tb,d=[.c (.sli f 0 0 (ln A) c1 h1),.c (.sli n2 1 0 (ln B) c2 h2)]/\e=[⟨.t ta,true,bG bY A,0⟩,⟨.t tb,true,bG bY B,0⟩]/\K (.c (.val (.bool (decide (A=B))))) []
def a0I {a b:Bool} (h:(!decide (a=b))=false):a=b:=by cases a<;>cases b<;>simp_all
def a0J {a b:Bool} (h:(!decide (a=b))=true): ¬a=b:=by cases a<;>cases b<;>simp_all
def a1e:jv prog 13 Zi:=cV GA bj (ck GA bj bg 0) ⟨func13,kr,kr⟩ λx E K p=>by
 obtain⟨N,A,I,y,O,B,L,F,H,J,rfl,rfl,p⟩:=p;refine⟨zD,?_⟩;refine zB ?_ ?_<;>intro q;exact⟨[0,1],[0,1],λf=>⟨ab bY A,ab bY B,_,[],rfl,gz _,trivial,.c (.val (.bool (decide (A=B)))),λo=>jD ((decide_eq_false λe=>a7F q (by rw[e])).symm) o,p⟩⟩;have q:ln A=ln B:=a7E q;conv=>whnf
 refine zK [0,1] [0,1,5] [0,1] (G:={k:Nat//k<=ln A/\ ∀i,i<k->A[i]? =B[i]?}) (λg=>[(5,.c (.int (g.1:Nat) (aR y g.2.1)))]) (λ_=>[]) (λg=>ln A-g.1) ⟨0,ah _,λi h=>absurd h (gh _)⟩ trivial ?_;rintro ⟨k,s,d⟩ vs2;have s:k<=ln A:=s;have d: ∀i,i<k->A[i]? =B[i]? :=d;dsimp only;refine zB ?_ ?_<;>intro j;have m:k<ln A:=dL j;have r:k<ln B:=om;have D:IR (k:Int):=aR y s;refine wM ?_;refine zB ?_ ?_<;>intro u;exact⟨[0,1],[0,1],λf=>⟨ab bY A,ab bY B,_,[],rfl,gz _,trivial,.c (.val (.bool (decide (A=B)))),λo=>jD ((decide_eq_false λe=>by subst e;exact a0J u rfl).symm) o,p⟩⟩;exact dD [0,1] ⟨k+1,m,λi M=>(cj i k).elim (d i) λg=>by rw[show i=k by omega,ae m,ae r,a0I u]⟩;have z:ln A<=k:=gi j;exact⟨[0,1],[0,1],λf=>⟨ab bY A,ab bY B,_,[],rfl,gz _,trivial,.c (.val (.bool (decide (A=B)))),λo=>jD ((decide_eq_true (List.ext_getElem? λi=>(cj i k).elim (d i) λg=>by rw[bi om,bi om])).symm) o,p⟩⟩
def b3G:List (FuncId×cP):=[(53,a6A)]
def a9B:vB prog b3G:= .cons a9R .nil
noncomputable def b0K:ic:={a6f with O:=En qo (lR qo),X:=b3F b3G}
def qp:iU prog b0K:=⟨a6T.T,a6T.D,nH eD (gy eD),a6T.R,a80 a9B⟩
def a7v:pd prog 32 a3U:=iA qp bj (ck qp bj bg 0) ⟨func32,kr,kr⟩ λA N K p=>by
 obtain⟨J,d,G,F,M,L,H,B,fam,E,I,q,k,v,u,rfl,rfl,⟨j,i⟩,p⟩:=p;rw[Dv,DX];have m:=j.n;have z:=j.h;refine⟨zD,?_⟩;refine eS ?_;conv=>arg 2;tactic'=>exact eC rfl rfl rfl rfl rfl rfl z
 refine zB ?_ ?_<;>intro D;have o:((d[q].s.n:Nat):Int)=0:=of_decide_eq_true D;have g:d[q].tl=[]:=aU om;exact⟨[0,1,2],[0,1],λr=>⟨ab ju d,ab ki L,_,[],rfl,gz _,trivial,.c (.val (.bool (kL L v d[q]).fits)),λy=>jD (by rw[Ht rfl g]) y,p⟩⟩;have o: ¬((d[q].s.n:Nat):Int)=0:=of_decide_eq_false D
 obtain⟨t,l,g⟩: ∃t l,d[q].tl=t::l:=by
  cases e:d[q].tl with
  |nil=>rw[e] at m;exact absurd (by rw[m];rfl) o
  |cons t l=>exact⟨t,l,rfl⟩
 exact⟨.agg [.wid 402 (yz v (qk ⟨t.a,t.a⟩ (t::l)) (pV L d[q]).1) (MN v _ (pV L d[q]).2)],a7m (l:=b3G) (f:= 53) (c:=a6A) (v:= .agg [.wid 402 (yz v (qk ⟨t.a,t.a⟩ (t::l)) (pV L d[q]).1) (MN v _ (pV L d[q]).2)]) rfl [.agg [.sli J 0 0 (ln d) G F,.sli M 1 0 (ln L) H B],.c (.int (q:Nat) k),.agg (t7 v)] [⟨.t E,true,bG ju d,0⟩,⟨.t I,true,bG ki L,0⟩,⟨.x fam,true,[],3⟩] [0,1,2] ⟨⟨⟨rfl,rfl⟩,⟨rfl,rfl⟩,⟨rfl,rfl⟩,trivial⟩,⟨ab ju d,ab ki L,ff,trivial⟩⟩ fr (XBl.blk rfl (ab ju d) (XBl.blk rfl (ab ki L) (XBl.fam rfl (.inr rfl) XBl.nil))) ff ⟨J,d,G,F,M,L,H,B,fam,E,I,q,k,v,u,t,l,rfl,(by rw[Dv,DX]),⟨j,i,g⟩,fr⟩,⟨d,L,rfl,rfl,rfl,rfl,⟨q,rfl,u,i⟩⟩,[0,1,2],[0,1],λr=>⟨ab ju d,ab ki L,_,[],rfl,gz _,trivial,.c (.val (.bool (kL L v d[q]).fits)),λy=>jD (by rw[a79 u i,Cr rfl g]) y,p⟩⟩
section
variable {err:Int} {L:List GU} {CL:List CU}
def SnP (s:SN):Prop:=0<s.total/\0<=s.d2
def b2m {a b}:KH a b=false↔a.total*a.total*b.d2<=b.total*b.total*a.d2:=by unfold KH;rw[decide_eq_false_iff_not];omega
def b2o {a b}:KH a b=true↔b.total*b.total*a.d2<a.total*a.total*b.d2:=by unfold KH;rw[decide_eq_true_eq]
def a8G {A B C e f d:Int} (k:0<=A) (j:0<B) (g:0<=C) (h1:A*f<=B*e) (h2:B*d<=C*f):A*d<=C*e:=by
 refine Int.le_of_mul_le_mul_left (a:=B) ?_ j;have h:B*(A*d)=A*(B*d):=by rw[<-a3D,<-a3D,Int.mul_comm B A]
 have m:A*(C*f)=C*(A*f):=by rw[<-a3D,<-a3D,Int.mul_comm A C]
 have i:C*(B*e)=B*(C*e):=by rw[<-a3D,<-a3D,Int.mul_comm C B]
 rw[h,<-i];refine Int.le_trans (o8 h2 k) ?_;rw[m];exact o8 h1 g
def a7W {a:Int} (h:0<a):0<a*a:=Int.mul_pos h h
def a6j {a b c} (d:SnP a) (hb:SnP b) (e:SnP c) (h1:KH a b=false) (h2:KH b c=false):KH a c=false:=b2m.2 (a8G (Int.le_of_lt (a7W d.1)) (a7W hb.1) (Int.le_of_lt (a7W e.1)) (b2m.1 h1) (b2m.1 h2))
def a8Z {a b} (h:KH a b=true):KH b a=false:=b2m.2 (Int.le_of_lt (b2o.1 h))
def a7l a:KH a a=false:=b2m.2 (sT _)
def a6p: ∀l P pre post o,(∀s∈P++l,SnP s)->P=pre++o::post->(∀t∈P,KH t o=false)->(∀p∈pre,KH o p=true)->
  ∃pre2 post2,P++l=pre2++IE o l::post2/\(∀t∈P++l,KH t (IE o l)=false)/\ ∀p∈pre2,KH (IE o l) p=true
 |[],P,pre,post,o,_,h1,h2,h3=>⟨pre,post,by rw[bk];exact h1,by rw[bk];exact h2,h3⟩
 |x::l,P,pre,post,o,hS,h1,h2,h3=>by
  (have e:P++x::l=(P++[x])++l:=by rw[aJ];rfl);(have h:o∈P:=by rw[h1];simp);have f: ∀t∈P,SnP t:=λt d=>hS t (gc _ d);have i:SnP x:=hS x sp;rw[e] at hS⊢;have j:IE o (x::l)=IE (if KH x o=true then x else o) l:=rfl;rw[j]
  cases hw:KH x o with
  |true=>
   rw[if_pos rfl];refine a6p l (P++[x]) P [] x hS rfl ?_ ?_;intro t d;rcases aT.1 d with d|d;exact a6j (f t d) (f o h) i (h2 t d) (a8Z hw);rw[bq] at d;subst d;exact a7l _;intro p g
   cases hq:KH x p with
   |true=>rfl
   |false=>rw[a6j i (f p g) (f o h) hq (h2 p g)] at hw;cases hw
  |false=>rw[if_neg dc];refine a6p l (P++[x]) pre (post++[x]) o hS (by rw[h1];simp) ?_ h3;intro t d;rcases aT.1 d with d|d;exact h2 t d;rw[bq] at d;subst d;exact hw
def a86 (S:List SN):Option SN:=S.find? λs=>S.all λt=> !KH t s
def a7Z {S} (h:S≠[]) (hS: ∀s∈S,SnP s):a86 S=some (kq S):=by
 cases S with
 |nil=>exact absurd rfl h
 |cons x l=>obtain⟨g,d,i,m,o⟩:=a6p l [x] [] [] x hS rfl (λt f=>by rw[bq] at f;subst f;exact a7l _) (λp j=>by cases j);have e:kq (x::l)=IE x l:=rfl;rw[e];unfold a86;rw[List.find?_eq_some_iff_append];refine⟨fE.2 λt f=>by rw[m t f];rfl,g,d,i,λa k=> ?_⟩;(have:(x::l).all (λt=> !KH t a)=false:=by rw[a6b];exact⟨IE x l,by show IE x l∈[x]++l;rw[i];simp,by rw[o a k];decide⟩);rw[this];rfl
def a6y {f p d} (h:o7 f p d err=false):0<err:=by unfold o7 at h;simp only[Bool.or_eq_false_iff,decide_eq_false_iff_not] at h;omega
def IX j m i hx hy o g e k f:0<=Vd j m i hx hy o g e k f:=by
 have d: ∀a:Int,0<=a*a:=λa=>by rcases Int.le_total 0 a with h|h;exact Int.mul_nonneg h h;exact Int.mul_nonneg_of_nonpos_of_nonpos h h
 unfold Vd;exact Int.add_nonneg (Int.add_nonneg (d _) (d _)) (d _)
def a85 {v c} (h:qj (kL L v c)=true):SnP (kL L v c):=by unfold qj at h;rw[aG,Bool.not_eq_true'] at h;have h:=h.1;unfold kL at h⊢;split at h;cases h;exact⟨a6y h,IX _ _ _ _ _ _ _ _ _ _⟩
def a8p {v l}: ∀s∈lI CL L v l,SnP s:=λs e=>by obtain⟨i,-,c,-,d,rfl⟩:=um e;exact a85 d
end
section
variable {L:List GU}
def a3B {v c} (h:(kL L v c).fits=false):0<=c.made:=by unfold kL at h;split at h;cases h;have d:=a6y h;by_cases hm:0<=c.made;exact hm;rw[UJ hm] at d;exact absurd d dc
def a12 L v c:qj (kL L v c)= !(kL L v c).fits:=by
 unfold qj;rw[oW]
 cases h:(kL L v c).fits with
 |true=>rfl
 |false=>rw[decide_eq_true (a3B h)];rfl
def a0N:cP:=λd e K=> ∃f CL c1 h1 n2 L c2 h2 fam tc td,d=[.agg [.sli f 0 0 (ln CL) c1 h1,.sli n2 1 0 (ln L) c2 h2]]/\e=[⟨.t tc,true,eM CL,0⟩,⟨.t td,true,eO L,0⟩,⟨.x fam,true,[],3⟩]/\ln L<=1000000000/\ ∀o:OL Bool,o.l=au (ln L) true->K (o.sl 3) [o.blk bY 4]
def b3D:List (FuncId×cP):=[(31,Q9),(32,a3U)]
def b0R:vB prog b3D:= .cons a3y<| .cons a7v .nil
def a6q:cP:=λe h K=> ∃y d o m z L p i j f r s fam k q u v,e=[.agg [.sli y 0 0 (ln d) o m,.sli z 1 0 (ln L) p i],.c (.sli j 2 0 (ln f) r s),.agg (t7 v)]/\h=[⟨.t k,true,eM d,0⟩,⟨.t q,true,eO L,0⟩,⟨.t u,true,kp f,0⟩,⟨.x fam,true,[],3⟩]/\((∀c∈d,CuT fam c)/\ ∀g∈L,g.Ok fam)/\ln d<=100000000000/\
 ∀b:Bool,(iZ d L f->(b=true↔Ik d L v f))->(¬iZ d L f->b=true)->K (.c (.val (.bool b))) []
def a8C {CL v S k} (h: ∀i∈S.take k,∀c,CL[i]? =some c->qj (kL L v c)=false) (hk:k<ln S) {q} (j:q=S[k]) (f:q<ln CL) (h1:qj (kL L v CL[q])=false): ∀i∈S.take (k+1),∀c,CL[i]? =some c->qj (kL L v c)=false:=λi d c g=>by rw[bE hk] at d;rcases aT.1 d with d|d;exact h i d c g;have e:i=q:=(bq.1 d).trans j.symm;subst e;rw[ae f] at g;cases g;exact h1
def a6I:pd prog 17 a6q:=iA qp bj (lP b0R (ck qp bj bg 0)) ⟨func17,kr,kr⟩ λa1 a5 K r=>by
 obtain⟨E,d,B,u,F,L,D,A,Q,m,W,Z,fam,tc,td,tt,v,rfl,rfl,⟨a0,hL⟩,a2,r⟩:=r;rw[Dv,DX,fh];refine⟨zD,?_⟩
 refine⟨3,[0,1,2],[.agg [.sli E 0 0 (ln d) B u,.sli F 1 0 (ln L) D A],.c (.sli Q 2 0 (ln m) W Z)],(λV P e=>by
  show cg (SV.den V) [.agg [.sli E 0 0 (ln d) B u,.sli F 1 0 (ln L) D A],.c (.sli Q 2 0 (ln m) W Z)]=_
  have O:=e 0 _ rfl
  have e1:=e 1 _ rfl
  have e2:=e 2 _ rfl
  simp only[cg,SV.den,C.den,C.cells,O,e1,e2,aL,bF,af]),.inr rfl,⟨ab ju d,ab ki L,ab bY _,trivial⟩,E,d,B,u,F,L,D,A,Q,m,W,Z,fam,_,_,_,rfl,(by rw[Dv,DX,fh]),hL,om,λo J U=> ?_⟩
 conv=>whnf
 refine zK [0,1,2,3,4,5,6] [3,5,7,8] [0,1,2,6] (G:={k:Nat//k<=ln o.l/\ ∀i∈(l7 d m (ln d)).take k,∀c,d[i]? =some c->qj (kL L v c)=false}) (λg=>[(8,.c (.int (g.1:Nat) (aR o.ok g.2.1)))]) (λ_=>[]) (λg=>ln o.l-g.1) ⟨0,ah _,λi hi=>absurd hi cd⟩ trivial ?_;rintro ⟨k,T,p⟩ va2;have T:k<=ln o.l:=T;have p: ∀i∈(l7 d m (ln d)).take k,∀c,d[i]? =some c->qj (kL L v c)=false:=p;dsimp only;refine zB ?_ ?_<;>intro h0;have j:k<ln o.l:=dL h0;have z:iZ d L m:=Classical.byContradiction λz=>by rw[U z] at j;exact absurd j (gh _)
 have I:=J z;have s:k<(l7 d m (ln d)).length:=by rw[I,bO] at j;exact j
 obtain⟨q,hq⟩: ∃q,q=(l7 d m (ln d))[k]:=⟨_,rfl⟩;have f:q<ln d:=by rw[hq];exact MK d m (ln d) _ (ak s)
 have y:IR (q:Int):=aR u (bw f);have R:o.l[k].x=(q:Int):=by simp only[I,go,<-hq];exact AT y
 have Y:=(pG z.1.1 (ak f)).1;refine eS ?_
 refine⟨3,[0,1],[.agg [.sli E 0 0 (ln d) B u,.sli F 1 0 (ln L) D A],.c (.int (q:Nat) y),.agg (t7 v)],(λV P e=>by
  show cg (SV.den V) [.agg [.sli E 0 0 (ln d) B u,.sli F 1 0 (ln L) D A],.c (.int o.l[k].x o.l[k].hx),.agg (t7 v)]=_
  have O:=e 0 _ rfl
  have e1:=e 1 _ rfl
  simp only[cg,SV.den,C.den,C.cells,O,e1,aL,bF,af,R]
  rfl),.inr rfl,⟨ab ju d,ab ki L,trivial⟩,E,d,B,u,F,L,D,A,fam,_,_,q,y,v,f,rfl,(by rw[Dv,DX]),⟨a0 _ (ak f),Y⟩,?_⟩
 refine zB ?_ ?_<;>intro N;obtain⟨c9,M,X⟩:=vg (ak s);rw[<-hq,ae f] at M;cases M;exact zO [0,1,2,3] [0,1,2] (v3:=.c (.val (.bool false))) (r false (λ_=>⟨λh=>(by cases h),λh=>absurd (h q d[q] (ae f) X) (by rw[a12,bt N];decide)⟩) (λh=>absurd z h));have N:=bn N;exact dD [0,1,2,3,4,5,6] ⟨k+1,j,a8C p s hq f (by rw[a12,N];rfl)⟩;have H:ln o.l<=k:=gi h0;exact zO [0,1,2,3] [0,1,2] (v3:=.c (.val (.bool true))) (r true (λz=>⟨λ_ i c r hs=>p i (by rw[bX (by have:=J z;rw[this,bO] at H;exact H)];exact MJ r hs (ln d) (aw.1 r).1) c r,fr⟩) fr)
end
section
variable {o:List Bool} {k:Nat} {CL:List CU} {L:List GU}
def rfA (CL:List CU) (L:List GU) (o:List Bool):Nat->List Bool
 |0=>o
 |k+1=>Cv CL L k (rfA CL L o k)
def a5v {b} (h:o.getD k false=b):o.set k b=o:=by refine jg (aZ ..) λi f d=> ?_;rw[List.getElem_set];split;rename_i e;subst e;rw[<-h,ao,ae d];rfl;rfl
def a3P {o k} (h:o.getD k false=false): ∀l:List ZV,l.foldl (jF k) o=o
 |[]=>rfl
 |z::l=>by rw[PE];(have:jF k o z=o:=by unfold jF;rw[h,CO];exact a5v h);rw[this];exact a3P h l
def a76 {o k} (h:o.getD k false=true): ∀l:List ZV,(∀z∈l,o.getD z.x.toNat false=true)->l.foldl (jF k) o=o
 |[],_=>rfl
 |z::l,hl=>by rw[PE];(have:jF k o z=o:=by unfold jF;rw[h,hl z aP,Bool.true_and];exact a5v h);rw[this];exact a76 h l λy d=>hl y (aD _ d)
def a2D (hk:k<ln L) o:Cv CL L k o=(jN CL L[k].il).foldl (jF k) o:=by unfold Cv;rw[ae hk]
def a8i CL L k o:(Cv CL L k o).length=ln o:=by unfold Cv;split;exact vY k _ o;rfl
def a77 CL L o: ∀k,(rfA CL L o k).length=ln o
 |0=>rfl
 |k+1=>(a8i CL L k _).trans (a77 CL L o k)
def a9m {CT m} (h:iZ CL L CT) (hm:m<ln L) (g:IR (ln L:Int)):rfA CL L (CT.set m false) (ln L)=xI CL L CT m:=by
 have d:m<ln CT:=by rw[h.2.1];exact hm
 have j:(CT.set m false).getD m false=false:=w5 d
 have s1: ∀k,k<=m->rfA CL L (CT.set m false) k=CT.set m false:=by
  intro k
  induction k with
  |zero=>intro _;rfl
  |succ k ih=>
   intro r;have hkl:k<ln L:=om;show Cv CL L k (rfA CL L (CT.set m false) k)=_;rw[ih om,a2D hkl]
   cases e:(CT.set m false).getD k false with
   |false=>exact a3P e _
   |true=>have p:CT.getD k false=true:=(getD_set_ne (by omega:k≠m)).symm.trans e;refine a76 e _ λz f=> ?_;have s:=S8 h.1 hkl (by unfold IR at*;omega) f;rw[getD_set_ne om];exact Lo h.2.2 hkl p f
 have s2:rfA CL L (CT.set m false) (m+1)=CT.set m false:=by show Cv CL L m (rfA CL L (CT.set m false) m)=_;rw[s1 m (ai _),a2D hm];exact a3P j _
 have q: ∀i,m+1+i<=ln L->rfA CL L (CT.set m false) (m+1+i)=ik CL L CT m i:=by
  intro i
  induction i with
  |zero=>intro _;exact s2
  |succ i ih=>intro u;show Cv CL L (m+1+i) (rfA CL L (CT.set m false) (m+1+i))=_;rw[ih om,a2D om,Ag om]
 have:=q (ln CT-(m+1)) (by rw[h.2.1];omega);rw[show m+1+(ln CT-(m+1))=(ln L) by rw[h.2.1];omega] at this;exact this
structure UpI (CL:List CU) (L:List GU) (k:Nat) (o:List Bool):Prop where
 len:ln o=ln L
 cl: ∀i (h:i<ln L),k<=i->o.getD i false=true-> ∀z∈jN CL L[i].il,o.getD z.x.toNat false=true
def UpI.start (h:ln o=ln L):UpI CL L (ln L) o:=⟨h,λi d e=>absurd d om⟩
def UpI.vld (h:UpI CL L 0 o) (hs:vC CL L):iZ CL L o:=⟨hs,h.len,Zu λk d e z f=>h.cl k d (ah _) e z f⟩
def a3T {j} (h:o.getD j false=true):(o.set k true).getD j false=true:=by by_cases e:j=k;subst e;apply w5;rcases cj j (ln o) with g|g;exact g;rw[ao,bi g] at h;cases h;rw[getD_set_ne e];exact h
def UpI.set {m} (h:UpI CL L k o) (hm:m<k):UpI CL L k (o.set m true):=⟨by rw[aZ];exact h.len,λi f d e z g=>a3T (h.cl i f d ((getD_set_ne om).symm.trans e) z g)⟩
def UpI.down (h:UpI CL L (k+1) o) (hk: ∀h:k<ln L,o.getD k false=true-> ∀z∈jN CL L[k].il,o.getD z.x.toNat false=true):UpI CL L k o:=⟨h.len,λi e j d z f=>by rcases cj k i with g|g;exact h.cl i e g d z f;obtain rfl:i=k:=om;exact hk e d z f⟩
end
section
variable {k:Nat} {o:List Bool}
def OL.emp {d:Type}:OL d:=⟨[],false,0,ai _,dc,λh=>by cases h⟩
def a6g CL: ∀a b:List ZV,jN CL (a++b)=jN CL a++jN CL b
 |[],_=>rfl
 |z::a,b=>by rw[cK,jN,jN,a6g CL a b,aJ]
def a3n {CL l j} (hj:j<ln l) {q:Nat} (e:l[j].x=(q:Int)) (d:q<ln CL):jN CL (l.take (j+1))=jN CL (l.take j)++if 0<=CL[q].made then [⟨CL[q].made,CL[q].hm⟩] else []:=by rw[bE hj,a6g];congr 1;rw[jN,jN,bk];unfold pm;rw[e,bW,ae d]
def a8O {z} {m:Nat} (d:z.x=(m:Int)) (hm:m<ln o) (h:o[m]=true):jF k o z=o:=by
 unfold jF;rw[d,bW];have e:o.getD m false=true:=by rw[ao,ae hm];exact h
 rw[e,Bool.and_true];exact a5v rfl
def a8j {z} {m:Nat} (d:z.x=(m:Int)) (hm:m<ln o) (h:o[m]=false):jF k o z=o.set k false:=by
 unfold jF;rw[d,bW];have e:o.getD m false=false:=by rw[ao,ae hm];exact h
 rw[e,CM]
def b0G CT m c9 (k9:bZ (false&&decide (ln CT=0)) (0+ln CT) c9):(c9-(0+ln CT))*1=(c9-(((OL.emp:OL Bool).push CT (n:=ln CT) rfl c9 k9).put m false).l.length)*1:=by show _=(c9-(([]++CT).set m false).length)*1;rw[aZ,ge,aN]
def a6w l (hk:k<ln l) b:ga (bG bY l) (0+k*1) [.val (.bool b)]=some (bG bY (l.set k b)):=iH bY l hk b
def a3m:pd prog 22 Lk:=iA GA bj (lP a6x (ck GA bj bg 0)) ⟨func22,kr,kr⟩ λa9 b6 K H=>by
 obtain⟨n1,f,c1,W,n2,L,Y,I,n3,d,c3,R,fam,tc,td,tt,n,hn,rfl,rfl,hL,b2,H⟩:=H;rw[Dv,DX,fh];refine⟨zD,?_⟩
 refine⟨3,[0,1,2],[.agg [.sli n1 0 0 (ln f) c1 W,.sli n2 1 0 (ln L) Y I],.c (.sli n3 2 0 (ln d) c3 R)],(λu b8 e=>by
  show cg (SV.den u) [.agg [.sli n1 0 0 (ln f) c1 W,.sli n2 1 0 (ln L) Y I],.c (.sli n3 2 0 (ln d) c3 R)]=_
  have e0:=e 0 _ rfl
  have e1:=e 1 _ rfl
  have e2:=e 2 _ rfl
  simp only[cg,SV.den,C.den,C.cells,e0,e1,e2,aL,bF,af]),.inr rfl,⟨ab ju f,ab ki L,ab bY d,trivial⟩,n1,f,c1,W,n2,L,Y,I,n3,d,c3,R,fam,_,_,_,rfl,(by rw[Dv,DX,fh]),hL,λvb N=> ?_⟩
 refine zB ?_ ?_<;>intro X;exact zO [0,1,2,3,1000+ 4] [0,1,2] (v3:=OL.none.sl 4) (H OL.none (λh=>absurd h (λh=>by rw[N.2 h.2.2] at X;cases X)) fr);have U:iZ f L d:=N.1 (bn X);have a7:=U.2.1;have y:=U.1.1;refine zB ?_ ?_<;>intro ha;exact zO [0,1,2,3,1000+ 4] [0,1,2] (v3:=OL.none.sl 4) (H OL.none (λh=>absurd h (λh=>absurd h.1 (by have:=of_decide_eq_true ha;omega))) fr);refine zB ?_ ?_<;>intro hb;exact zO [0,1,2,3,1000+ 4] [0,1,2] (v3:=OL.none.sl 4) (H OL.none (λh=>absurd h (λh=>absurd h.2.1 (by have:=of_decide_eq_true hb;omega))) fr);have b3: ¬n<0:=of_decide_eq_false ha;have d0: ¬((ln d:Nat):Int)<=n:=of_decide_eq_false hb;obtain⟨m,hm⟩: ∃m:Nat,n=(m:Int):=⟨n.toNat,om⟩;have M:m<ln d:=om;have a2:m<ln L:=om;have a1:IR ((ln L:Nat):Int):=I.ir;refine A6 ?_;conv=>whnf
 rw[show dk (bG bY d) 0 (ln d*1)=some (bG bY d) from gQ bY d];refine⟨fZ bY _,(OL.emp:OL Bool).app bY 4 (m:=ln d) (by show(0+ln d)*1<=5000000000000;omega),λP V=> ?_⟩;conv=>whnf
 have a5:IR (m:Int):=aR R (bw M);conv=>arg 2;tactic'=>exact be (k:=m) (hi:=a5) rfl rfl rfl (eA hm) (by exact(by omega:m<0+ln d))
 conv=>whnf
 conv=>arg 2;tactic'=>exact bM (l:=[.val (.bool false)]) (cs:=bG bY (d.set m false)) rfl rfl rfl rfl (⟨rfl,rfl⟩) rfl rfl (a6w d M false)
 conv=>whnf
 rw[bV];conv=>whnf
 refine zK [0,1,2,3,4,6] [3,8,9] [0,1,2,5] (G:={q:Nat×OL Bool//q.1<=ln L/\q.2.l=rfA f L (d.set m false) q.1}) (λg=>[(8,g.1.2.sl 5),(9,.c (.int (g.1.1:Nat) (aR I g.2.1)))]) (λg=>[(5,g.1.2.blk bY 4)]) (λg=>ln L-g.1.1) ⟨(0,(((OL.emp:OL Bool).push d (n:=ln d) rfl P V).put m false)),ah _,rfl⟩ trivial ?_ (hent:=λ_ c7=>⟨ab ju f,ab ki L,ab bY d,ab bY _,(by(iterate 8 refine⟨fr,?_⟩);refine⟨λu=>((OL.emp:OL Bool).push_sl d (n:=ln d) rfl P V 5 u).trans (((OL.emp:OL Bool).push d (n:=ln d) rfl P V).put_sl m false 5 u),?_⟩;refine⟨fr,?_⟩;exact gm _),(by(iterate 5 refine⟨mL _,?_⟩);refine⟨⟨rfl,rfl,b0G d m P V,λu=>rfl⟩,?_⟩;exact trivial)⟩);rintro ⟨⟨k,o⟩,T,F⟩ va2;have T:k<=ln L:=T;have F:o.l=rfA f L (d.set m false) k:=F;have a0:ln o.l=ln L:=by rw[F,a77,aZ,a7]
 dsimp only;refine zB ?_ ?_<;>intro h0;have hkl:k<ln L:=by have:=dL h0;omega
 have b7:IR (k:Int):=aR I T;obtain⟨Q,-,x,-⟩:=hL _ (ak hkl);have c5:=Q.1;conv=>whnf
 refine zK [0,1,2,3,4,5] [3,8,9,10] [0,1,2,5] (G:={q:Nat×OL Bool//q.1<=L[k].il.length/\q.2.l=(jN f (L[k].il.take q.1)).foldl (jF k) o.l}) (λg=>[(8,g.1.2.sl 5),(10,.c (.int (g.1.1:Nat) (Hg x Q.1 g.2.1)))]) (λg=>[(5,g.1.2.blk bY 4)]) (λg=>L[k].il.length-g.1.1) ⟨(0,o),ah _,rfl⟩ trivial ?_;rintro ⟨⟨j,p⟩,Z,z⟩ vb2;have Z:j<=L[k].il.length:=Z;have z:p.l=(jN f (L[k].il.take j)).foldl (jF k) o.l:=z;have c4:ln p.l=ln L:=by rw[z,vY,a0]
 dsimp only;refine eS ?_;conv=>arg 2;tactic'=>exact eC rfl rfl rfl rfl rfl rfl x
 refine zB ?_ ?_<;>intro h5;have s:j<L[k].il.length:=by have:=dL h5;omega
 have c6:IR (j:Int):=Hg x Q.1 Z;obtain⟨r9,o9,ea,a8⟩:=a6h Q s;obtain⟨q,hq,D⟩:=a3L y hkl (ak s);have c8:IR (q:Int):=aR W (bw D);have B:=a3n s hq D;refine eS ?_;refine⟨_,DR (r:=r9) (off:=o9) (len:=L[k].i.n) (cap:=L[k].i.c) (j:=j) rfl rfl (by show SV.c (.val (.slice L[k].i.a L[k].i.n L[k].i.c))=_;rw[ea]) rfl om,_,DS (r:=r9) (o1:=o9) (off:=j*1) (fb:=3) rfl rfl rfl rfl a8 (oO L[k].il s) ff,?_⟩;refine eS ?_;refine zB ?_ ?_<;>intro E;have E:0<=f[q].made:=of_decide_eq_true E;have b9:=(pG y (ak D)).1;obtain⟨w,hw⟩: ∃w:Nat,f[q].made=(w:Int):=⟨f[q].made.toNat,om⟩;have A:w<ln p.l:=om;have c0:IR (w:Int):=aR p.ok (bw A);refine eS ?_;refine zB ?_ ?_<;>intro J;have J:=bt J;have a4:k<ln p.l:=om;refine p6 ?_;conv=>arg 2;tactic'=>exact bM (l:=[.val (.bool false)]) (cs:=bG bY (p.l.set k false)) rfl rfl rfl rfl (⟨rfl,rfl⟩) rfl (by exact p.ok.pos om) (a6w p.l a4 false)
 conv=>whnf
 rw[bV];exact dD [0,1,2,3,4,5] ⟨(j+1,(p.put k false)),s,(by show(p.put k false).l=_;rw[B,if_pos E,CQ,<-z];show _=jF k p.l _;rw[a8j hw A J];rfl)⟩ (h:=λb5=>⟨ab ju f,ab ki L,ab bY d,ab bY _,(by(iterate 8 refine⟨fr,?_⟩);refine⟨λu=>p.put_sl k false 5 u,?_⟩;refine⟨fr,?_⟩;refine⟨λu=>kM (dr (n:=L[k].i.n) om x) u,?_⟩;exact gm _),(by(iterate 5 refine⟨mL _,?_⟩);refine⟨⟨rfl,rfl,p.put_tl k false bY _,λu=>rfl⟩,?_⟩;exact trivial)⟩);have J:=bn J;exact dD [0,1,2,3,4,5] ⟨(j+1,p),s,(by show p.l=_;rw[B,if_pos E,CQ,<-z];show _=jF k p.l _;rw[a8O hw A J])⟩;have E: ¬0<=f[q].made:=of_decide_eq_false E;exact dD [0,1,2,3,4,5] ⟨(j+1,p),s,(by show p.l=_;rw[B,if_neg E,bk];exact z)⟩;have O:L[k].il.length<=j:=by have:=gi h5;omega
 rw[bX O] at z;exact dD [0,1,2,3,4,5] ⟨(k+1,p),hkl,(by show p.l=Cv f L k (rfA f L (d.set m false) k);rw[z,a2D hkl,F])⟩;have a6:ln L<=k:=by have:=gi h0;omega
 obtain rfl:k=ln L:=bo T a6;rw[a9m U a2 a1] at F;exact zO [0,1,2,3,5] [0,1,2,4] (v3:=o.sl 4) (H o (λ_=>by rw[F,hm,bW]) (λh=>absurd ⟨om,om,U⟩ h))
end
section
variable {CL:List CU} {L:List GU} {CT C0:List Bool} {j:Nat}
def a09 (o:List Bool):Nat:=o.count true
structure RdI (CL:List CU) (L:List GU) (v:VW) (k:Nat) (CT:List Bool):Prop where
 top:Io CL L v CT
 fit:Ik CL L v CT\/a09 CT+k<=ln L
structure InI (CL:List CU) (L:List GU) (v:VW) (C0:List Bool) (j:Nat) (CT:List Bool):Prop where
 top:Io CL L v CT
 sub:ym CT C0
 st:(CT=C0/\ ∀i∈(l7 CL C0 (ln CL)).take j,∀c,CL[i]? =some c->qj (kL L v c)=false)\/a09 CT+1<=a09 C0
end
def uC:List (FuncId×cP):=[(25,a0W),(21,a0N),(31,Q9),(32,a3U),(22,Lk)]
structure ChG (CL:List CU) (L:List GU) (v:VW) where
 k:Nat
 o:OL Bool
 hk:k<=ln L+1
 rd:RdI CL L v k o.l
structure ChJ (CL:List CU) (L:List GU) (v:VW) (C0:List Bool) (n:Nat) where
 j:Nat
 p:OL Bool
 hj:j<=n
 inn:InI CL L v C0 j p.l
section
variable {L:List GU} {CL:List CU} {q k:Nat}
noncomputable def b0L:ic:={a6f with O:=En qo (lR qo),X:=b3F b3G}
def a6Z:iU prog b0L:=⟨a6T.T,a6T.D,nH eD (gy eD),a6T.R,a80 a9B⟩
def a6E:cP:=λd e K=> ∃(f CL c1 h1 n2 L c2 h2 fam tc td:_) (a:Nat) (hca:_) (b:Nat) (hcb v:_) (ha:a<ln CL) (hb:b<ln CL),d=[.agg [.sli f 0 0 (ln CL) c1 h1,.sli n2 1 0 (ln L) c2 h2],.c (.int (a:Nat) hca),.c (.int (b:Nat) hcb),.agg (t7 v)]/\e=[⟨.t tc,true,eM CL,0⟩,⟨.t td,true,eO L,0⟩,⟨.x fam,true,[],3⟩]/\((CuT fam CL[a]/\CL[a].made<(ln L:Int)/\CL[a].tl≠[])/\CuT fam CL[b]/\CL[b].made<(ln L:Int)/\CL[b].tl≠[])/\K (.c (.val (.bool (KH (kL L v CL[a]) (kL L v CL[b]))))) []
def a8N {v c}:(kL L v c).total=(pV L c).1:=by unfold kL;split<;>rfl
def a8M {v c t l} (h:c.tl=t::l):(kL L v c).d2=yz v (qk ⟨t.a,t.a⟩ (t::l)) (pV L c).1:=by rw[Cr rfl h]
def b0V {x y a b} (hx:x=a.total*a.total*b.d2) (hy:y=b.total*b.total*a.d2):decide (0<(x-y).sign)=KH a b:=by unfold KH;rw[hx,hy];by_cases h:b.total*b.total*a.d2<a.total*a.total*b.d2;rw[decide_eq_true h,decide_eq_true (TZ.2 h)];rw[decide_eq_false h,decide_eq_false λd=>h (TZ.1 d)]
def a71 {l:List TR} (h:l≠[]): ∃t s,l=t::s:=by cases l with
 |nil=>exact absurd rfl h
 |cons t s=>exact⟨t,s,rfl⟩
def bdP (CL:List CU) (L:List GU) (v:VW) (i:Nat):Bool:=match CL[i]?with|some c=>qj (kL L v c)|none=>false
def a7V (CL:List CU) (L:List GU) (v:VW) (i:Nat):SN:=match CL[i]?with|some c=>kL L v c|none=>O3
def a3v CL L v: ∀l:List Nat,lI CL L v l=(l.filter (bdP CL L v)).map (a7V CL L v)
 |[]=>rfl
 |i::l=>by
  rw[lI,a3v CL L v l,nQ]
  cases hc:CL[i]?with
  |none=>(have e:bdP CL L v i=false:=by unfold bdP;rw[hc]);rw[e];rfl
  |some c=>(have e:bdP CL L v i=qj (kL L v c):=by unfold bdP;rw[hc]);(have d:a7V CL L v i=kL L v c:=by unfold a7V;rw[hc]);rw[e];simp only;split;rw[aI,d];rfl;rfl
def a9v {v} (h:q<ln CL):bdP CL L v q=qj (kL L v CL[q]):=by unfold bdP;rw[ae h]
def b0a {v} (h:q<ln CL):a7V CL L v q=kL L v CL[q]:=by unfold a7V;rw[ae h]
def a8q {v c} (h:qj (kL L v c)=true):c.tl≠[]:=λe=>by rw[a12,Ht rfl e] at h;cases h
def a9f {l:List Nat} (hk:k<ln l) p:(l.take (k+1)).filter p=(l.take k).filter p++if p l[k]=true then [l[k]] else []:=by rw[bE hk,a9H];congr 1;rw[nQ];rfl
def a3E (S:List SN) (s:SN):Bool:=S.all λt=> !KH t s
def a84 {S j} (hj:j<ln S) s:((S.take (j+1)).all λt=> !KH t s)=(((S.take j).all λt=> !KH t s)&& !KH S[j] s):=by rw[bE hj,a8o,KM,List.all_nil,Bool.and_true]
def a9N {S} (hS: ∀s∈S,SnP s) (hk:k<ln S) (h0: ∀i (h:i<ln S),i<k->a3E S S[i]=false) (h1:a3E S S[k]=true):S[k]=kq S:=by
 have e:=a7Z (S:=S) (λe=>by rw[e] at hk;exact absurd hk (gh _)) hS;unfold a86 at e;have f:S.find? (λs=>S.all λt=> !KH t s)=some S[k]:=by refine List.find?_eq_some_iff_getElem.2 ⟨h1,k,hk,rfl,λj d=> ?_⟩;have:=h0 j om d;unfold a3E at this;rw[this];rfl
 rw[f] at e;exact bL.inj e
def a9O {S} (hS: ∀s∈S,SnP s) (h0: ∀i (h:i<ln S),a3E S S[i]=false):S=[]:=by refine Classical.byContradiction λd=> ?_;have e:=a7Z d hS;unfold a86 at e;have f:=List.find?_some e;have g:=List.mem_of_find?_eq_some e;obtain⟨i,m,j⟩:=ns g;have:=h0 i m;rw[j] at this;unfold a3E at this;rw[this] at f;cases f
def b0W {z} (h:z.x=(q:Int)) (d:IR (q:Int)):z=zN q:=by obtain⟨x,e⟩:=z;subst h;exact(vv d).symm
def a8Q {a b d hb x y} (e:a=b) (f:x=y) ρ:(SV.tup [.c (.int a d),.c (.val (.bool x))]).den ρ=(SV.tup [.c (.int b hb),.c (.val (.bool y))]).den ρ:=by subst e;subst f;rfl
def a9l {S} (h: ∀i (h:i<ln S),i<k->a3E S S[i]=false) (hk:k<ln S) (h1:a3E S S[k]=false): ∀i (h:i<ln S),i<k+1->a3E S S[i]=false:=λi d e=>by rcases cj i k with g|g;exact h i d g;obtain rfl:i=k:=om;exact h1
def a8h:pd prog 39 a6E:=iA a6Z bj (ck a6Z bj bg 0) ⟨func39,kr,kr⟩ λM Q K J=>by obtain⟨u,CL,p,o,y,L,r,j,fam,m,s,a,i,b,h,v,G,B,rfl,rfl,A,J⟩:=J;rw[Dv,DX];obtain⟨⟨z,g,F⟩,D,e,E⟩:=A;obtain⟨t1,H,O⟩:=a71 F;obtain⟨d,I,N⟩:=a71 E;refine⟨zD,?_⟩;exact⟨⟨CL,L,rfl,rfl,rfl,rfl,⟨a,rfl,G,g⟩⟩,.agg [.wid 402 (yz v (qk ⟨d.a,d.a⟩ (d::I)) (pV L CL[b]).1) (MN v _ (pV L CL[b]).2)],a7m (l:=b3G) (f:= 53) (c:=a6A) (v:= .agg [.wid 402 (yz v (qk ⟨d.a,d.a⟩ (d::I)) (pV L CL[b]).1) (MN v _ (pV L CL[b]).2)]) rfl [.agg [.sli u 0 0 (ln CL) p o,.sli y 1 0 (ln L) r j],.c (.int (b:Nat) h),.agg (t7 v)] [⟨.t m,true,bG ju CL,0⟩,⟨.t s,true,bG ki L,0⟩,⟨.x fam,true,[],3⟩] [0,1,2] ⟨⟨⟨rfl,rfl⟩,⟨rfl,rfl⟩,⟨rfl,rfl⟩,trivial⟩,⟨ab ju CL,ab ki L,ff,trivial⟩⟩ fr (XBl.blk rfl (ab ju CL) (XBl.blk rfl (ab ki L) (XBl.fam rfl (.inr rfl) XBl.nil))) ff ⟨u,CL,p,o,y,L,r,j,fam,m,s,b,h,v,B,d,I,rfl,(by rw[Dv,DX]),⟨D,e,N⟩,fr⟩,⟨CL,L,rfl,rfl,rfl,rfl,⟨b,rfl,B,e⟩⟩,.agg [.wid 402 (yz v (qk ⟨t1.a,t1.a⟩ (t1::H)) (pV L CL[a]).1) (MN v _ (pV L CL[a]).2)],a7m (l:=b3G) (f:= 53) (c:=a6A) (v:= .agg [.wid 402 (yz v (qk ⟨t1.a,t1.a⟩ (t1::H)) (pV L CL[a]).1) (MN v _ (pV L CL[a]).2)]) rfl [.agg [.sli u 0 0 (ln CL) p o,.sli y 1 0 (ln L) r j],.c (.int (a:Nat) i),.agg (t7 v)] [⟨.t m,true,bG ju CL,0⟩,⟨.t s,true,bG ki L,0⟩,⟨.x fam,true,[],3⟩] [0,1,2] ⟨⟨⟨rfl,rfl⟩,⟨rfl,rfl⟩,⟨rfl,rfl⟩,trivial⟩,⟨ab ju CL,ab ki L,ff,trivial⟩⟩ fr (XBl.blk rfl (ab ju CL) (XBl.blk rfl (ab ki L) (XBl.fam rfl (.inr rfl) XBl.nil))) ff ⟨u,CL,p,o,y,L,r,j,fam,m,s,a,i,v,G,t1,H,rfl,(by rw[Dv,DX]),⟨z,g,O⟩,fr⟩,[0,1,2],[0,1],λP=>⟨ab ju CL,ab ki L,_,[],rfl,gz _,trivial,.c (.val (.bool (KH (kL L v CL[a]) (kL L v CL[b])))),λR=>jD (b0V (by rw[a8N,a8M N,<-a79 G g]) (by rw[a8N,a8M O,<-a79 B e])) R,J⟩⟩
def b3E:List (FuncId×cP):=[(31,Q9),(32,a3U),(39,a6E)]
def b0S:vB prog b3E:= .cons a3y<| .cons a7v<| .cons a8h .nil
def a70:cP:=λd f K=> ∃A CL p o B L r i j h u y fam m s z v,d=[.agg [.sli A 0 0 (ln CL) p o,.sli B 1 0 (ln L) r i],.c (.sli j 2 0 (ln h) u y),.agg (t7 v)]/\f=[⟨.t m,true,eM CL,0⟩,⟨.t s,true,eO L,0⟩,⟨.t z,true,kp h,0⟩,⟨.x fam,true,[],3⟩]/\((∀c∈CL,CuT fam c)/\ ∀g∈L,g.Ok fam)/\ln CL<=100000000000/\
 ∀e:List SN,e=BR CL L v h->K (.tup [.c (.int (kq e).made (kq e).hm),.c (.val (.bool (decide ((0:Int)<(ln e:Nat)))))]) []
def a8A:pd prog 20 a70:=iA qp bj (lP b0S (ck qp bj bg 0)) ⟨func20,kr,kr⟩ λe5 e9 K hc=>by
 obtain⟨P,CL,O,y,Q,L,N,R,n3,r,c3,h3,fam,tc,td,tt,v,rfl,rfl,⟨a0,hL⟩,a4,hc⟩:=hc;rw[Dv,DX,fh];refine⟨zD,?_⟩
 refine⟨3,[0,1,2],[.agg [.sli P 0 0 (ln CL) O y,.sli Q 1 0 (ln L) N R],.c (.sli n3 2 0 (ln r) c3 h3)],(λE a7 e=>by
  show cg (SV.den E) [.agg [.sli P 0 0 (ln CL) O y,.sli Q 1 0 (ln L) N R],.c (.sli n3 2 0 (ln r) c3 h3)]=_
  have e0:=e 0 _ rfl
  have e1:=e 1 _ rfl
  have e2:=e 2 _ rfl
  simp only[cg,SV.den,C.den,C.cells,e0,e1,e2,aL,bF,af]),.inr rfl,⟨ab ju CL,ab ki L,ab bY _,trivial⟩,P,CL,O,y,Q,L,N,R,n3,r,c3,h3,fam,_,_,_,rfl,(by rw[Dv,DX,fh]),hL,om,λo e3 d2=> ?_⟩
 conv=>whnf
 obtain⟨W,hW⟩: ∃W,W=Kj CL L r:=⟨_,rfl⟩;have Z:o.l=W.map zN:=by by_cases A:iZ CL L r;rw[e3 A,hW,ve A];rw[d2 A,hW,T9 A];rfl
 have X: ∀i∈W,iZ CL L r/\i<ln CL:=λi p=>by by_cases A:iZ CL L r;rw[hW,ve A] at p;exact⟨A,MK CL r (ln CL) _ p⟩;rw[hW,T9 A] at p;cases p
 have f2:ln W<=100000000000:=by by_cases A:iZ CL L r;rw[hW,ve A];exact aC (Ar CL r (ln CL)) a4;rw[hW,T9 A];exact ah _
 refine zK [0,1,2,3,4,5,6,1000+ 3] [3,5,8,9,10] [0,1,2,6,7] (G:={q:Nat×OL ZV//q.1<=ln o.l/\q.2.l=((W.take q.1).filter (bdP CL L v)).map zN}) (λg=>[(8,g.1.2.sl 7),(10,.c (.int (g.1.1:Nat) (aR o.ok g.2.1)))]) (λg=>[(7,g.1.2.blk bI 3)]) (λg=>ln o.l-g.1.1) ⟨(0,OL.none),ah _,rfl⟩ trivial ?_;rintro ⟨⟨k,b⟩,hk,d⟩ va2;have hk:k<=ln o.l:=hk;have d:b.l=((W.take k).filter (bdP CL L v)).map zN:=d;have f3:ln b.l<=ln W:=by rw[d,bO];exact aC (Id _ _) (by rw[aO];omega)
 dsimp only;refine zB ?_ ?_<;>intro h0;have M:k<ln o.l:=dL h0;have c8:IR (k:Int):=aR o.ok hk;have c5:k<ln W:=by rw[Z,bO] at M;exact M
 obtain⟨q,hq⟩: ∃q,q=W[k]:=⟨_,rfl⟩;obtain⟨A,f⟩:=X q (by rw[hq];exact ak c5);have T:IR (q:Int):=aR y (bw f);have b9:o.l[k].x=(q:Int):=by simp only[Z,go,<-hq];exact AT T
 have d3:=(pG A.1.1 (ak f)).1;have J:=a9f c5 (bdP CL L v);rw[<-hq,a9v f,a12] at J;refine eS ?_
 refine⟨3,[0,1],[.agg [.sli P 0 0 (ln CL) O y,.sli Q 1 0 (ln L) N R],.c (.int (q:Nat) T),.agg (t7 v)],(λE a7 e=>by
  show cg (SV.den E) [.agg [.sli P 0 0 (ln CL) O y,.sli Q 1 0 (ln L) N R],.c (.int o.l[k].x o.l[k].hx),.agg (t7 v)]=_
  have e0:=e 0 _ rfl
  have e1:=e 1 _ rfl
  simp only[cg,SV.den,C.den,C.cells,e0,e1,aL,bF,af,b9]
  rfl),.inr rfl,⟨ab ju CL,ab ki L,trivial⟩,P,CL,O,y,Q,L,N,R,fam,_,_,q,T,v,f,rfl,(by rw[Dv,DX]),⟨a0 _ (ak f),d3⟩,?_⟩
 refine zB ?_ ?_<;>intro h6;have h6:=bt h6;rw[h6] at J;have d1:=a3B h6;refine wM ?_;refine zB ?_ ?_<;>intro h7;refine eS ?_;left;refine iT ?_;exact⟨rfl,b.app bI 3 (m:=1) (by show(ln b.l+1)*1<=5000000000000;omega),λc9 k9=> dD [0,1,2,3,4,5,6,9] ⟨(k+1,(b.push [o.l[k]] rfl c9 k9)),M,(by show(b.push [o.l[k]] rfl c9 k9).l=_;show b.l++[_]=_;rw[J,if_pos (show(!false)=true from rfl),aV,<-d,b0W b9 T];rfl)⟩⟩;exact absurd d1 (of_decide_eq_false h7);have h6:=bn h6;rw[h6] at J;exact dD [0,1,2,3,4,5,6,7] ⟨(k+1,b),M,(by show b.l=_;rw[J];exact d.trans (by rw[if_neg (show¬(!true)=true by decide),bk]))⟩;have b7:ln o.l<=k:=gi h0;rw[bX (by rw[Z,bO] at b7;exact b7)] at d;obtain⟨D,hD⟩: ∃D,D=W.filter (bdP CL L v):=⟨_,rfl⟩;rw[<-hD] at d;have d8: ∀i∈D,i<ln CL:=λi p=>by rw[hD] at p;exact(X i (iQ.1 p).1).2
 have b8: ∀i (h:i<ln CL),i∈D->qj (kL L v CL[i])=true:=λi h p=>by rw[hD] at p;rw[<-a9v h];exact(iQ.1 p).2
 have d5: ∀i∈D,iZ CL L r:=λi p=>by rw[hD] at p;exact(X i (iQ.1 p).1).1
 have a5:BR CL L v r=D.map (a7V CL L v):=by unfold BR;rw[<-hW,a3v,hD]
 obtain⟨S,hS⟩: ∃S,S=D.map (a7V CL L v):=⟨_,rfl⟩;have a6: ∀s∈S,SnP s:=λs hs=>a8p (CL:=CL) (L:=L) (v:=v) (l:=W) s (by rw[a3v,<-hD,<-hS];exact hs);have f0:ln S=ln b.l:=by rw[hS,d,bO,bO]
 rw[<-hS] at a5;have hc:=hc S a5.symm;have hat: ∀i (h:i<ln b.l),∃q,∃hq:q<ln CL,b.l[i].x=(q:Int)/\(∃hs:i<ln S,S[i]=kL L v CL[q])/\q∈D:=λi h=>by (have b3:i<ln D:=by rw[d,bO] at h;exact h);have f:=d8 _ (ak b3);refine⟨D[i],f,?_,⟨om,?_⟩,ak b3⟩;simp only[d,go];exact AT (aR y (bw f));simp only[hS,go];exact b0a f
 conv=>whnf
 refine zK [0,1,2,3,4,5,7] [3,5,8,12] [0,1,2,6] (G:={k:Nat//k<=ln b.l/\ ∀i (h:i<ln S),i<k->a3E S S[i]=false}) (λg=>[(12,.c (.int (g.1:Nat) (aR b.ok g.2.1)))]) (λ_=>[]) (λg=>ln b.l-g.1) ⟨0,ah _,λi _ h=>absurd h (gh _)⟩ trivial ?_;rintro ⟨u,V,H⟩ vb2;have V:u<=ln b.l:=V;have H: ∀i (h:i<ln S),i<u->a3E S S[i]=false:=H;dsimp only;refine zB ?_ ?_<;>intro h5;have b2:u<ln b.l:=dL h5;have c8:IR (u:Int):=aR b.ok V;obtain⟨qk,B,c7,⟨c0,a1⟩,a9⟩:=hat u b2;conv=>whnf
 refine zK [0,1,2,3,4,5,6] [3,5,8,12,13,14] [0,1,2,6] (G:={j:Nat//j<=ln b.l}) (λg=>[(13,.c (.val (.bool ((S.take g.1).all λt=> !KH t S[u])))),(14,.c (.int (g.1:Nat) (aR b.ok g.2)))]) (λ_=>[]) (λg=>ln b.l-g.1) ⟨0,ah _⟩ trivial ?_;rintro ⟨j,hj⟩ vc2;dsimp only;refine zB ?_ ?_<;>intro h8;have Y:j<ln b.l:=dL h8;have f1:IR (j:Int):=aR b.ok hj;obtain⟨qj,I,d7,⟨d6,e4⟩,d0⟩:=hat j Y;have F:IR (qk:Int):=aR y (bw B);have U:IR (qj:Int):=aR y (bw I);have c4:=d5 _ a9;have b5:=(pG c4.1.1 (ak B)).1;have a2:=(pG c4.1.1 (ak I)).1;have a8:=a84 d6 S[u];refine wM ?_
 refine⟨3,[0,1],[.agg [.sli P 0 0 (ln CL) O y,.sli Q 1 0 (ln L) N R],.c (.int (qj:Nat) U),.c (.int (qk:Nat) F),.agg (t7 v)],(λE a7 e=>by
  show cg (SV.den E) [.agg [.sli P 0 0 (ln CL) O y,.sli Q 1 0 (ln L) N R],.c (.int b.l[j].x b.l[j].hx),.c (.int b.l[u].x b.l[u].hx),.agg (t7 v)]=_
  have e0:=e 0 _ rfl
  have e1:=e 1 _ rfl
  simp only[cg,SV.den,C.den,C.cells,e0,e1,aL,bF,af,d7,c7]
  rfl),.inr rfl,⟨ab ju CL,ab ki L,trivial⟩,P,CL,O,y,Q,L,N,R,fam,_,_,qj,U,qk,F,v,I,B,rfl,(by rw[Dv,DX]),⟨⟨a0 _ (ak I),a2,a8q (b8 _ I d0)⟩,a0 _ (ak B),b5,a8q (b8 _ B a9)⟩,?_⟩
 rw[<-e4,<-a1];refine zB ?_ ?_<;>intro h9
 iterate 2
  try have h9:((S.take j).all λt=> !KH t S[u])=false:=h9
  exact dD [0,1,2,3,4,5,6] ⟨j+1,Y⟩ (hm:=(by show (ln b.l)-(j+1)<ln b.l-j;omega)) (h:=λe8=>⟨ab ju CL,ab ki L,ab bY r,ab bI _,(by(iterate 13 refine⟨fr,?_⟩);refine⟨λE=>jD (by rw[a8,h9];rfl) E,?_⟩;refine⟨λE=>kM (dr (n:=ln b.l) Y b.ok.ir) E,?_⟩;exact gm _),gz _⟩)
 have e6:ln b.l<=j:=gi h8;have d4:S.take j=S:=bX om;rw[d4];refine zB ?_ ?_<;>intro z;have z:a3E S S[u]=true:=z;have d9:=a9N a6 c0 H z;have F:IR (qk:Int):=aR y (bw B);refine wM ?_;exact⟨[0,1,2,3],[0,1,2],λc6=>⟨ab ju CL,ab ki L,ab bY r,_,[],rfl,gz _,trivial,.tup [.c (.int (kq S).made (kq S).hm),.c (.val (.bool (decide ((0:Int)<(ln S:Nat)))))],λE=>a8Q (by rw[<-d9,a1,oW]) (decide_eq_true om).symm E,hc⟩⟩;have z:a3E S S[u]=false:=z;exact dD [0,1,2,3,4,5,6] ⟨u+1,b2,a9l H c0 z⟩;have e7:ln b.l<=u:=gi h5;have b6:S=[]:=a9O a6 λi p=>H i p om;exact⟨[0,1,2,3],[0,1,2],λc6=>⟨ab ju CL,ab ki L,ab bY r,_,[],rfl,gz _,trivial,.tup [.c (.int (kq S).made (kq S).hm),.c (.val (.bool (decide ((0:Int)<(ln S:Nat)))))],λE=>a8Q (by rw[b6];rfl) (by rw[b6];rfl) E,hc⟩⟩
end
section
variable {r s p q:Nat} {R:List Bool}
def ptE x y z (hx:IR x:=by decide) (hy:IR y:=by decide) (hz:IR z:=by decide):PT:=⟨x,y,z,hx,hy,hz⟩
def Ky:TR:=⟨ptE 1 0 0,ptE 0 1 0,ptE 0 0 1⟩
def swE (r:Nat):SW:=⟨some ⟨r,0,none⟩,1,1⟩
def zE n (h:IR n:=by decide):ZV:=⟨n,h⟩
def xD (r s:Nat):List CU:=[⟨swE r,-1,0,[Ky],dc,dc⟩,⟨swE s,0,-1,[Ky],dc,dc⟩]
def wZ (p q:Nat):List GU:=[⟨0,swE p,swE q,⟨none,0,0⟩,15,15,false,⟨#[]⟩,[zE 0],[zE 1],dc,dc,dc⟩]
def zN0:zN 0=zE 0:=vv dc
def Sw r s p q:vC (xD r s) (wZ p q):=by
 refine⟨rfl,⟨?_,?_,?_⟩,λi j=> ?_⟩;show wN [(zE 0,zN 0)];simp[wN];intro e d c f;have d:e∈[(zE 0,zN 0)]:=d;rw[bq] at d;subst d;rw[zN0];have f:(xD r s)[0]? =some c:=f;cases f;show(-1:Int)<0;decide;show wN [(zE 1,zN 0)];simp[wN];have h:dI GU.il 0 (wZ p q)=[(zE 0,zE 0)]:=by rw[<-zN0];rfl
 have g:dI GU.ol 0 (wZ p q)=[(zE 1,zE 0)]:=by rw[<-zN0];rfl
 rw[h,g];rcases i with _|_|i;exact⟨.inl ⟨(by decide:(0:Int)<=0),_,bq.2 rfl,rfl,rfl⟩,.inr ⟨(by decide:(-1:Int)<0),λe d=>by rw[bq] at d;subst d;decide⟩⟩;exact⟨.inr ⟨(by decide:(-1:Int)<0),λe d=>by rw[bq] at d;subst d;decide⟩,.inl ⟨(by decide:(0:Int)<=0),_,bq.2 rfl,rfl,rfl⟩⟩;exact absurd j (by simp[xD])
def a4D r s p q b:iZ (xD r s) (wZ p q) [b]:=by
 refine⟨Sw r s p q,rfl,λk g _ z d c e f=> ?_⟩;obtain rfl:k=0:=by have:(wZ p q).length=1:=rfl;omega
 have d:z∈[zE 0]:=d;rw[bq] at d;subst d;have e:(xD r s)[0]? =some c:=e;cases e;exact absurd (show(0:Int)<= -1 from f) dc
def Fm x y z f p (hx:IR x:=by decide) (hy:IR y:=by decide) (hz:IR z:=by decide) (hf:IR f:=by decide) (hp:IR p:=by decide):VW:=⟨⟨x,y,z,hx,hy,hz⟩,f,p,hf,hp⟩
def a1V r s p q v b:BR (xD r s) (wZ p q) v [b]=lI (xD r s) (wZ p q) v (l7 (xD r s) [b] 2):=by unfold BR;rw[ve (a4D r s p q b)];rfl
def LQ r s p q: ∃t:SN,BR (xD r s) (wZ p q) (Fm 0 0 0 1 1) [true]=[t]/\t.made=0:=by rw[a1V];exact⟨kL (wZ p q) (Fm 0 0 0 1 1) ⟨swE s,0,-1,[Ky],dc,dc⟩,rfl,rfl⟩
def W7 r s p q:BR (xD r s) (wZ p q) (Fm 0 0 0 1 1) [false]=[]:=by rw[a1V];rfl
def a4A r s p q:BR (xD r s) (wZ p q) (Fm 1000 0 0 1 1) [true]=[]:=by rw[a1V];rfl
def a4C r s p q:xI (xD r s) (wZ p q) [true] 0=[false]:=rfl
def a4z (h:Pw (xD r s) (wZ p q) (Fm 0 0 0 1 1) [true] R):R=[false]:=by
 obtain⟨t,d,e⟩:=LQ r s p q
 cases h with
 |stop h=>rw[d] at h;cases h
 |step h hr=>
  rw[d,show kq [t]=t from rfl,e,show(0:Int).toNat=0 from rfl,a4C] at hr
  cases hr with
  |stop h=>rfl
  |step h hr=>exact absurd (W7 r s p q) h
def a4y (h:Pw (xD r s) (wZ p q) (Fm 1000 0 0 1 1) [true] R):R=[true]:=by
 cases h with
 |stop h=>rfl
 |step h hr=>exact absurd (a4A r s p q) h
def Sv {fam} (h1:pg fam (r,0) (fy [Ky])) (h2:pg fam (s,0) (fy [Ky])): ∀c∈xD r s,c.Ok fam:=λc d=>by simp only[xD,br,cd,or_false] at d;rcases d with rfl|rfl;exact⟨⟨rfl,.inr ⟨r,0,rfl,h1⟩⟩,(by decide:IR ((1:Nat):Int))⟩;exact⟨⟨rfl,.inr ⟨s,0,rfl,h2⟩⟩,(by decide:IR ((1:Nat):Int))⟩
def Su {fam} (h1:pg fam (p,0) (qh [zE 0])) (h2:pg fam (q,0) (qh [zE 1])): ∀g∈wZ p q,g.Ok fam:=λg d=>by simp only[wZ,br,cd,or_false] at d;subst d;exact⟨⟨rfl,.inr ⟨p,0,rfl,h1⟩⟩,⟨rfl,.inr ⟨q,0,rfl,h2⟩⟩,(by decide:IR ((1:Nat):Int)),(by decide:IR ((1:Nat):Int))⟩
end
section
variable {H:FuncId->List SV->List aY->(SV->List aY->Prop)->Prop} {f:FuncId} {fn:Func}
def TH {P:Program} {E:ic} (k:iU P E) (hm:P.follows .mixedOrders=true) (q:ko P H) (p:iM P f fn) {args:List SV} {v:SV} (d: ∀ρ ρ',v.den ρ=v.den ρ') (g: ∀ρ ρ',args.map (SV.den ρ)=args.map (SV.den ρ')) (h:A5 E H fn args [] λu _=> ∀ρ,u.den ρ=v.den ρ) (ρ:fF) (w:World): Calls P f (args.map (SV.den ρ)).toArray w λe w'=>e= .returned (v.den ρ)/\Below w.heap.size w w':=by have m:dv w.heap.size ⟨w,λ_=>False,ρ,0⟩ (an []) ρ w:=⟨λi b h=>by simp[an] at h,λi b h=>by simp[an] at h,λi j b c h=>by simp[an] at h,λρ _ i b h=>by simp[an] at h,sR.refl _ _,ai _,λi h=>h.elim,λi b e h=>by simp[an] at h,λi j b c h=>by simp[an] at h,λi b o l e h=>by simp[an] at h⟩;refine(sG k hm q p h w.heap.size _ ρ w m (λρ' _=>g ρ' ρ)).mono ?_;rintro e w' ⟨u,hp',ρ1,hu,hh',-,he⟩;have:=he ρ1 (gt.refl _ _);exact⟨by rw[this,hu ρ1,d ρ1 ρ],hh'.bel.below⟩
def a3a {E:ic} (i:iU prog E) (r:ko prog H) (g:iM prog f fn) {d:Dn}
  (h: ∀args p v,d args=some (p,v)->(∀ρ ρ',v.den ρ=v.den ρ')/\(∀ρ ρ',args.map (SV.den ρ)=args.map (SV.den ρ'))/\((∀q,p=some q->q)->A5 E H fn args [] λu _=> ∀ρ,u.den ρ=v.den ρ)):dW prog f d:=
 ⟨g.callable,λargs p v j=>by
  obtain⟨e,k,m⟩:=h args p v j
  exact⟨e,λo ρ w=>TH i bj r g e k (m o) ρ w⟩⟩
end
def a0l:List (FuncId×cP):=[(19,Zn),(14,Dh)]
def UT:vB prog a0l:= .cons RF<| .cons FZ .nil
def hS:FuncId->List SV->List aY->(SV->List aY->Prop)->Prop:=w7 (hfz (hsm (LU a0l (inl (a1K 0) Mh 0))) 4)
def a4H:ko prog hS:=SG (SH (a2a (lP UT (ck (nC 0) bj bg 0))) 4)
def a1W r s:bZ false (xD r s).length 2:=(by decide:bZ false 2 2)
def a1X p q:bZ false (wZ p q).length 1:=(by decide:bZ false 1 1)
def a1Y r s:(xD r s).length<=100000000000:=(by decide:2<=100000000000)
def a4B p q:(wZ p q).length<=1000000000:=(by decide:1<=1000000000)
def Jj:Dn
 |[]=>some (none,.c (.val (.bool true)))
 |_=>none
def Yy:dW prog 10 Jj:=a3a (nC 0) a4H ⟨func10,kr,kr⟩ λD p v y=>by
 unfold Jj at y;split at y;cases y;refine⟨ff,ff,λ_=> ?_⟩;conv=>whnf
 right;conv=>whnf
 refine .inr ⟨12,4,6,⟨ff,rfl,rfl⟩,λh=> ?_⟩;conv=>whnf
 refine .inr ⟨12,5,6,⟨ff,rfl,rfl⟩,λf=> ?_⟩;conv=>whnf
 refine .inr ⟨12,7,9,⟨ff,rfl,rfl⟩,λg=> ?_⟩;conv=>whnf
 refine .inr ⟨12,8,9,⟨ff,rfl,rfl⟩,λd=> ?_⟩;conv=>whnf
 refine .inr ⟨[.agg [.sli false 6 0 2 2 dc,.sli false 9 0 1 1 dc],.c (.sli false 11 0 1 1 dc),.agg (t7 (Fm 0 0 0 1 1))],[⟨33,false,[.int 50 dc,.int 0 dc,.int 0 dc],0⟩,⟨33,false,[.int 60 dc,.int 10 dc,.int 10 dc],0⟩,⟨35,false,t7 (Fm 0 0 0 100 2),0⟩,⟨35,false,t7 (Fm 55 5 5 1 1),0⟩,⟨.t 0,true,[],0⟩,⟨.t 0,true,[],0⟩,⟨55,false,eM (xD h f),0⟩,⟨.t 0,true,[],0⟩,⟨.t 0,true,[],0⟩,⟨63,false,eO (wZ g d),0⟩,⟨30,false,[.sli false 6 0 2 2 dc,.sli false 9 0 1 1 dc],0⟩,⟨4,false,[.val (.bool true)],0⟩,⟨.x [⟨(h,0),fy [Ky], 58,0⟩,⟨(f,0),fy [Ky], 58,0⟩,⟨(g,0),qh [zE 0], 3,0⟩,⟨(d,0),qh [zE 1], 3,0⟩],true,[],2⟩],gm _,(by(iterate 9 refine⟨mL _,?_⟩);refine⟨⟨rfl,rfl,rfl,λj=>(by simp[af,eO,guC,wZ,SW.v,swE,C.cells,jK,qQ])⟩,?_⟩;exact gz _),?_⟩
 refine⟨12,[6,9,11],[.agg [.sli false 0 0 2 2 dc,.sli false 1 0 1 1 dc],.c (.sli false 2 0 1 1 dc),.agg (t7 (Fm 0 0 0 1 1))],(λj m e=>by
  show cg (SV.den j) [.agg [.sli false 6 0 2 2 dc,.sli false 9 0 1 1 dc],.c (.sli false 11 0 1 1 dc),.agg (t7 (Fm 0 0 0 1 1))]=_
  have q:=e 0 _ rfl
  have k:=e 1 _ rfl
  have G:=e 2 _ rfl
  simp only[cg,SV.den,C.den,C.cells,q,k,G,aL,bF,af]
  rfl),.inl rfl,⟨bR (xD h f),bT (wZ g d),ff,trivial⟩,false,xD h f,2,a1W _ _,false,wZ g d,1,a1X _ _,false,[true],1,dc,_,_,_,_,Fm 0 0 0 1 1,rfl,rfl,⟨Sv (fam:=_) ⟨_,aP,rfl,rfl⟩ ⟨_,aD _ aP,rfl,rfl⟩,Su (fam:=_) ⟨_,aD _ (aD _ aP),rfl,rfl⟩ ⟨_,aD _ (aD _ (aD _ aP)),rfl,rfl⟩⟩,a1Y _ _,λQ L M H z=> ?_⟩
 obtain rfl:=T8 M H;obtain⟨s,F,A⟩:=LQ h f g d;obtain rfl:L=[s]:=z.trans F;refine zl3 ?_
 refine⟨12,[6,9],[.agg [.sli false 0 0 2 2 dc,.sli false 1 0 1 1 dc],.agg (t7 (Fm 0 0 0 1 1))],(λj m e=>by
  show cg (SV.den j) [.agg [.sli false 6 0 2 2 dc,.sli false 9 0 1 1 dc],.agg (t7 (Fm 0 0 0 1 1))]=_
  have q:=e 0 _ rfl
  have k:=e 1 _ rfl
  simp only[cg,SV.den,C.cells,q,k,aL,bF,af]
  rfl),.inl rfl,⟨bR (xD h f),bT (wZ g d),trivial⟩,false,xD h f,2,a1W _ _,false,wZ g d,1,a1X _ _,_,_,_,Fm 0 0 0 1 1,rfl,rfl,⟨Sv (fam:=_) ⟨_,aP,rfl,rfl⟩ ⟨_,aD _ aP,rfl,rfl⟩,Su (fam:=_) ⟨_,aD _ (aD _ aP),rfl,rfl⟩ ⟨_,aD _ (aD _ (aD _ aP)),rfl,rfl⟩⟩,a1Y _ _,a4B _ _,λo i P=> ?_⟩
 have i:=a4z (i (Sw h f g d));obtain⟨R,O,B,J⟩:=o;dsimp only at i;subst i;refine zl3 ?_
 refine⟨12,[6,9],[.agg [.sli false 0 0 2 2 dc,.sli false 1 0 1 1 dc],.agg (t7 (Fm 1000 0 0 1 1))],(λj m e=>by
  show cg (SV.den j) [.agg [.sli false 6 0 2 2 dc,.sli false 9 0 1 1 dc],.agg (t7 (Fm 1000 0 0 1 1))]=_
  have q:=e 0 _ rfl
  have k:=e 1 _ rfl
  simp only[cg,SV.den,C.cells,q,k,aL,bF,af]
  rfl),.inl rfl,⟨bR (xD h f),bT (wZ g d),trivial⟩,false,xD h f,2,a1W _ _,false,wZ g d,1,a1X _ _,_,_,_,Fm 1000 0 0 1 1,rfl,rfl,⟨Sv (fam:=_) ⟨_,aP,rfl,rfl⟩ ⟨_,aD _ aP,rfl,rfl⟩,Su (fam:=_) ⟨_,aD _ (aD _ aP),rfl,rfl⟩ ⟨_,aD _ (aD _ (aD _ aP)),rfl,rfl⟩⟩,a1Y _ _,a4B _ _,λu i P=> ?_⟩
 have i:=a4y (i (Sw h f g d));obtain⟨T,I,E,N⟩:=u;dsimp only at i;subst i;refine zB ?_ ?_<;>intro r;have r:decide (s.made=0)=true:=r;conv=>whnf
 exact λj=>jD rfl j;have r:decide (s.made=0)=false:=r;exact absurd A (of_decide_eq_false r);cases y
def QG:List (FuncId×Dn):=(10,Jj)::IB
def vN:dU QG:= .cons Yy vM
def Bb {T f ev hp t x y} (ho:f= .slice t x none (some y) none) {sz h z e d g eq} (hT:T t=some ⟨sz,h,z,.slice e d g,eq⟩) {a n c} (hx:ev x= .c (.val (.slice a n c))) {k hi} (hk:ev y= .c (.int k hi)) (hlt:k<=c):mf T f ev hp=some (.val (.c (.val (.slice a k c)))):=by subst ho;simp only[mf,hT,hx,Option.map,lW,hk];show(if k<=c then _ else _)=_;rw[if_pos hlt]
def a4Z (n:Nat):minI (n:Int) 3=((min n 3:Nat):Int):=by unfold minI;split<;>omega
def ZI n:IR ((min n 3:Nat):Int):=ui
def a2c {a b d hb} (e:a=b):(SV.c (.int a d))=SV.c (.int b hb):=by subst e;rfl
def stX:List (FuncId×cP):=[(28,QW)]
def a3d:vB prog stX:= .cons Wg .nil
def Zp:cP:=λd f K=> ∃(s:SW) (A fam0 x y:_),d=[.agg [.val (.slice s.a s.n s.c),.val (.int .u8 x),.val (.int .u8 y)]]/\f=[⟨.x fam0,true,[],3⟩]/\((tP fam0 ⟨s.a,min s.n 3,s.c⟩ A/\IR (s.n:Nat)/\s.n<=s.c)/\(0<=x/\x<256)/\(0<=y/\y<256))/\
 ∀(e:OL CU) (oG:OL GU) fam,Po fam e.l oG.l->K (.agg [e.ch 1,oG.ch 2]) [e.blk ju 55,oG.blk ki 63,⟨.x fam,true,[],2⟩]
def GuP.ok9 {fam g} (h:GuP fam g):g.Ok fam:=by obtain⟨⟨x,f,k,s⟩,⟨y,j,i,q⟩,-⟩:=h;have m:=f.ok;have e:=j.ok;rw[k,s] at m;rw[i,q] at e;refine⟨m,e,?_,?_⟩;obtain⟨p,r,o,d,-⟩:=f;rw[<-k,x.hn];exact d.ir;obtain⟨p,r,o,d,-⟩:=j;rw[<-i,y.hn];exact d.ir
structure GrK (fam:List mq) (CL:List CU) (L:List GU):Prop where
 ct: ∀c∈CL,CuT fam c
 co: ∀c∈CL,c.Ok fam
 gk: ∀g∈L,g.Ok fam
 sn:vC CL L
 cn:ln CL<=100000000000
 ln:ln L<=36864
def Po.grk {fam CL L} (h:Po fam CL L):GrK fam CL L:=by have i:=h.cnt;have e:=h.ll;exact⟨λc d=>(h.cu c d).cut,λc d=>(h.cu c d).cut.ok,λg f=>(h.gu g f).ok9,VN h.bld,om,e⟩
def Ig {a b c d e} (h:IR a) (hb:IR b) (i:IR c) (f:IR d) (g:IR e):VW:=⟨⟨a.tmod 524288,b.tmod 524288,c.tmod 524288,h.tmod _,hb.tmod _,i.tmod _⟩,d.tmod 5000,e.tmod 50,f.tmod _,g.tmod _⟩
def a3R {x:Int} (h:0<=x/\x<256):0<=IntKind.i64.wrap (15+IntKind.i64.wrap (x.tmod 4))/\IntKind.i64.wrap (15+IntKind.i64.wrap (x.tmod 4))<=100:=by have d:0<=x.tmod 4:=Int.tmod_nonneg 4 h.1;have e:x.tmod 4<4:=Int.tmod_lt_of_pos x dc;rw[cN (z:=x.tmod 4) ui,cN ui];omega
def a1l:pd prog 11 Zp:=iA (cm vN 0) bj (qJ a3d (ck (cm vN 0) bj bg 0)) ⟨func11,kr,kr⟩ λargs ros K hc=>by
 obtain⟨s,A,fam0,x,y,rfl,rfl,⟨⟨hok,hsi,hcap⟩,hx,hy⟩,hc⟩:=hc;refine⟨λρ ρ' _=>rfl,?_⟩;conv=>whnf
 conv=>arg 2;tactic'=>exact eC rfl rfl rfl rfl rfl rfl hsi
 conv=>whnf
 conv=>arg 2;tactic'=>exact Bb (k:=min s.n 3) (hi:=ZI _) rfl rfl rfl (a2c (a4Z _)) (by exact om)
 exact⟨0,.inr rfl,trivial,⟨s.a,min s.n 3,s.c⟩,A,fam0,_,_,_,_,rfl,rfl,⟨hok,ZI _⟩,a3R hx,λoC oG fam hg=> zO [0,3,4,5] [1,2] (hc oC oG fam hg)⟩
def a7y:List (FuncId×cP):=[(13,Zi)]
def Xt:iL prog a7y:= .cons a1e .nil
def a1I:ic:=vA 0 QG
def B5:iU prog a1I:=cm vN 0
section
open Go.ChangeShapes Go.WideShapes Go.ChangeAt Go.RowKit
def own:ownKnob Tryz.prog.godebug=none:=kr
def Xr:laidOutB Tryz.prog=true:=kr
section
variable {H:Type} {enc:TypeId×Value->H}
def sO {W i} (hb:Below W.heap.size W i) {g}: ∀{ts vs ds ps},DataW.TrodAll enc Tryz.prog W 0 (λ_=>true) true ts vs ds ps->
  (∀t∈ts, Tryz.prog.readableRec t=true/\t< Tryz.prog.types.size)->(∀x∈ps,x.block<W.heap.size)->(∀x∈ps,g x.block=true)->DataW.TrodAll enc Tryz.prog i 0 g true ts vs ds ps
 |[],[],[],_,h,_,_,_=>h
 |t::ts,v::vs,d::ds,ps,h,ht,hlt,hsp=>by obtain⟨p,q,k,j,rfl⟩:=h;exact⟨p,q,WideElems.Trod_stays Xr (ht t aP).1 (ht t aP).2 k (λx e=>hb.same (hlt x (gc _ e))) (λx e=>hsp x (gc _ e)),sO hb j (λt f=>ht t (aD _ f)) (λx e=>hlt x (gG _ e)) (λx e=>hsp x (gG _ e)),rfl⟩
 |[],_::_,_,_,h,_,_,_=>h.elim
 |[],[],_::_,_,h,_,_,_=>h.elim
 |_::_,[],_,_,h,_,_,_=>by cases‹List (DataW H)›<;>exact h.elim
 |_::_,_::_,[],_,h,_,_,_=>h.elim
variable {w:World} {base:Nat} {sp:Nat->Bool} {held:Bool}
def oh {t} (g: Tryz.prog.underlying t=some (.int .i64)) {d c x} (h:DataW.trod enc Tryz.prog w base sp held d t [c]=some x): ∃z,c= .int .i64 z/\IR z:=by obtain⟨z,e,_,f⟩:=DataW.trod_int g h;have:=bounds_i64 f;exact⟨z,by simpa using e,this⟩
def u3: Tryz.prog.underlying 3 =some (.int .i64):=kr
def AI {t e n k} (o: Tryz.prog.underlying t=some (.array n e)) (hk: Tryz.prog.cellsOf e=k) {d l x} (h:DataW.trod enc Tryz.prog w base sp held d t l=some x): ln l= Tryz.prog.cellsOf t/\ ∀i,i<n-> ∃m y,DataW.trod enc Tryz.prog w base sp held m e ((l.drop (i*k)).take k)=some y:=by obtain⟨j,m,_,_,g,q,f⟩:=DataW.trod_array o h;refine⟨g,λi p=> ?_⟩;have:=f i p;rw[hk] at this;exact⟨m,j[i]' om,this.trans (ae om)⟩
def u6 {t e n} (d: Tryz.prog.underlying t=some (.array n e)) {b0 v} (h:Value.okWide Tryz.prog w .any b0 t v): ∃cs:Array Value,v= .agg cs:=by unfold Value.okWide at h;rw[d] at h;obtain⟨cs,e,_⟩:=h;exact⟨cs,e⟩
def a1r: Tryz.prog.cellsOf 3 =1:=kr
def N1: Tryz.prog.cellsOf 25 =5:=kr
def Dm {e l x} (h:DataW.trod enc Tryz.prog w base sp held e 25 l=some x): ∃v0 v1 v2 v3 v4,l=[.int .i64 v0,.int .i64 v1,.int .i64 v2,.int .i64 v3,.int .i64 v4]/\IR v0/\IR v1/\IR v2/\IR v3/\IR v4:=by
 obtain⟨k,d⟩:=AI Tryz.underlying25 a1r h;rw[N1] at k;clear h
 match l,k with
 |[E,a1,a2,a3,a4],_=>
  obtain⟨z,D,g⟩:=d 0 dc
  change DataW.trod enc Tryz.prog w base sp held z 3 [E]=some D at g
  obtain⟨A,r,j⟩:=d 1 dc
  change DataW.trod enc Tryz.prog w base sp held A 3 [a1]=some r at j
  obtain⟨p,J,f⟩:=d 2 dc
  change DataW.trod enc Tryz.prog w base sp held p 3 [a2]=some J at f
  obtain⟨q,s,m⟩:=d 3 dc
  change DataW.trod enc Tryz.prog w base sp held q 3 [a3]=some s at m
  obtain⟨G,B,i⟩:=d 4 dc
  change DataW.trod enc Tryz.prog w base sp held G 3 [a4]=some B at i
  obtain⟨v0,rfl,y⟩:=oh u3 g
  obtain⟨v1,rfl,o⟩:=oh u3 j
  obtain⟨v2,rfl,F⟩:=oh u3 f
  obtain⟨v3,rfl,u⟩:=oh u3 m
  obtain⟨v4,rfl,I⟩:=oh u3 i
  exact⟨v0,v1,v2,v3,v4,rfl,y,o,F,u,I⟩
def Hb {b0 v d ps} (f:Value.okWide Tryz.prog w .any b0 25 v) (j:DataW.Trod enc Tryz.prog w base sp held 25 v d ps): ∃v0 v1 v2 v3 v4,v= .agg #[.int .i64 v0,.int .i64 v1,.int .i64 v2,.int .i64 v3,.int .i64 v4]/\IR v0/\IR v1/\IR v2/\IR v3/\IR v4:=by obtain⟨i,rfl⟩:=u6 Tryz.underlying25 f;obtain⟨g,h⟩:=j;obtain⟨v0,v1,v2,v3,v4,e,k⟩:=Dm h;refine⟨v0,v1,v2,v3,v4,?_,k⟩;have e:i.toList=[.int .i64 v0,.int .i64 v1,.int .i64 v2,.int .i64 v3,.int .i64 v4]:=e;rw[<-mh (xs:=i),e]
def a51: Tryz.prog.underlying 5 =some (.int .u8):=kr
def F7: Tryz.prog.cellsOf 5 =1:=kr
def uw {d c x} (h:DataW.trod enc Tryz.prog w base sp held d 5 [c]=some x): ∃z,c= .int .u8 z/\0<=z/\z<256:=by
 obtain⟨z,e,_,f⟩:=DataW.trod_int a51 h;have f:(0:Int)<=z/\z<=255:=by simpa[Lit.wf,IntKind.min,IntKind.max,IntKind.signed,IntKind.bits] using f
 exact⟨z,by simpa using e,f.1,om⟩
end
def yE ρ: ∀L:List ZV,af ρ (qh L)=L.map λz=>Value.int .i64 z.x
 |[]=>rfl
 |z::l=>by rw[qh,cO,yE ρ l];rfl
def Pn L:cC (qh L):=by rw[KK];exact ab bI L
section
variable {H:Type} {enc:TypeId×Value->H} {w:World} {held:Bool}
def Ri {a v} (h:w.cell? a=some v): ∃x:Obj,w.heap[a.block]? =some x/\x.isCells=true:=by unfold World.cell? at h;split at h;rename_i c e f d;exact⟨_,d,rfl⟩;cases h
def JZ {q cs x} (h:DataW.trod enc Tryz.prog w 0 (λ_=>true) held q 22 cs=some x): ∃(s:SW) (A fam0:_),cs=[.slice s.a s.n s.c]/\(tP fam0 ⟨s.a,min s.n 3,s.c⟩ A/\IR (s.n:Nat)/\s.n<=s.c)/\ ∀e∈fam0,iV w.heap.size w false e:=by
 rcases open_ints Tryz.underlying22 u3 kr h with⟨i,_⟩|⟨a,len,p,zs,i,_,I,N,M,_,d,G⟩;exact⟨⟨none,0,0⟩,[],[],i,⟨⟨rfl,.inl rfl⟩,dc,ai _⟩,λe u=>by cases u⟩;simp only[if_true] at M;have k:IR ((len:Nat):Int):=bZ.ir (nl:=false) ⟨I,N,λh=>by cases h⟩;by_cases h0:len=0;subst h0;exact⟨⟨some a,0,p⟩,[],[],i,⟨⟨rfl,.inl rfl⟩,k,I⟩,λe u=>by cases u⟩;obtain⟨B,y,o⟩:=a;have m:o=none:=by simpa[Addr.add] using World.cell?_spot (d 0 om)
 subst m;have g: ∀z∈zs.take (min len 3),IR z:=λz f=>by have:=bounds_i64 (G z (sY f));exact this
 have r:((zs.take (min len 3)).pmap (λz h=>(⟨z,h⟩:ZV)) g).map (λz=>Value.int .i64 z.x)=(zs.take (min len 3)).map (Value.int .i64):=by rw[List.map_pmap];exact List.pmap_eq_map g
 obtain⟨x,J,E⟩:=Ri (d 0 om);refine⟨⟨some ⟨B,y,none⟩,len,p⟩,(zs.take (min len 3)).pmap (λz h=>(⟨z,h⟩:ZV)) g,[⟨(B,y),qh ((zs.take (min len 3)).pmap (λz h=>(⟨z,h⟩:ZV)) g),0,0⟩],i,⟨⟨by rw[List.length_pmap,aO];show min len 3=_;omega,.inr ⟨B,y,rfl,⟨_,bq.2 rfl,rfl,rfl⟩⟩⟩,k,I⟩,λe u=> ?_⟩;obtain rfl:=bq.1 u;refine⟨Pn _,⟨x,J,E⟩,λh=>(by cases h),λj v D=> ?_,λ_=>(aE.1 J).1⟩;have D:(af (λ_=>(0,0)) (qh ((zs.take (min len 3)).pmap (λz h=>(⟨z,h⟩:ZV)) g)))[j]? =some v:=D;rw[yE,r,gA] at D;obtain⟨z,f,rfl⟩:=a6o.1 D;rw[gb] at f;split at f;have F:j<ln zs:=(aw.1 f).1;have L:=d j F;rw[Addr.add_lit] at L;show w.cell? ⟨B,y+j,none⟩=_;rw[L,ao,f];rfl;cases f
def J0 {b0 v d ps} (f:Value.okWide Tryz.prog w .any b0 24 v) (D:DataW.Trod enc Tryz.prog w 0 (λ_=>true) held 24 v d ps): ∃(s:SW) (A fam0 x y:_),v=(SV.den (λ_=>(0,0)) (.agg [.val (.slice s.a s.n s.c),.val (.int .u8 x),.val (.int .u8 y)]))/\((tP fam0 ⟨s.a,min s.n 3,s.c⟩ A/\IR (s.n:Nat)/\s.n<=s.c)/\(0<=x/\x<256)/\(0<=y/\y<256))/\ ∀e∈fam0,iV w.heap.size w false e:=by
 obtain⟨r,rfl,_⟩:=okWide_struct Tryz.underlying24 f;obtain⟨g,h⟩:=D
 have key: ∀l:List Value,DataW.trod enc Tryz.prog w 0 (λ_=>true) held g 24 l=some (d,ps)-> ∃(s:SW) (A fam0 x y:_),l=[.slice s.a s.n s.c,.int .u8 x,.int .u8 y]/\((tP fam0 ⟨s.a,min s.n 3,s.c⟩ A/\IR (s.n:Nat)/\s.n<=s.c)/\(0<=x/\x<256)/\(0<=y/\y<256))/\ ∀e∈fam0,iV w.heap.size w false e:=λl h=>by
  obtain⟨z,n,_,_,u,q,p⟩:=DataW.trod_struct Tryz.underlying24 h;have F: Tryz.prog.cellsOf 24 =3:=kr;have cS: Tryz.prog.cellsOf 22 =1:=kr;rw[F] at u
  match l,u with
  |[i,a1,a2],_=>
   have q:ln z=3:=q
   match z,q with
   |[B,y1,y2],_=>
    have k:=p 0 _ rfl
    have m:=p 1 _ rfl
    have j:=p 2 _ rfl
    change DataW.trod enc Tryz.prog w 0 (λ_=>true) held n 22 (([i,a1,a2].drop 0).take (Tryz.prog.cellsOf 22))=some B at k
    change DataW.trod enc Tryz.prog w 0 (λ_=>true) held n 5 (([i,a1,a2].drop 1).take (Tryz.prog.cellsOf 5))=some y1 at m
    change DataW.trod enc Tryz.prog w 0 (λ_=>true) held n 5 (([i,a1,a2].drop 2).take (Tryz.prog.cellsOf 5))=some y2 at j
    rw[cS] at k
    rw[F7] at m j
    change DataW.trod enc Tryz.prog w 0 (λ_=>true) held n 22 [i]=some B at k
    change DataW.trod enc Tryz.prog w 0 (λ_=>true) held n 5 [a1]=some y1 at m
    change DataW.trod enc Tryz.prog w 0 (λ_=>true) held n 5 [a2]=some y2 at j
    obtain⟨s,A,fam0,E,J,o⟩:=JZ k
    obtain⟨x,rfl,L⟩:=uw m
    obtain⟨y,rfl,G⟩:=uw j
    obtain rfl:i=_:=by simpa using E
    exact⟨s,A,fam0,x,y,rfl,⟨J,L,G⟩,o⟩
 obtain⟨s,A,fam0,x,y,e,I⟩:=key r.toList h;refine⟨s,A,fam0,x,y,?_,I⟩;rw[<-mh (xs:=r),e];rfl
end
end
section
variable {CL:List CU} {o:List Bool}
def a8u:cP:=λe f K=> ∃z CL m k A L p h i d r s fam j q u n y,e=[.agg [.sli z 0 0 (ln CL) m k,.sli A 1 0 (ln L) p h],.c (.sli i 2 0 (ln d) r s),.c (.int n y)]/\f=[⟨.t j,true,eM CL,0⟩,⟨.t q,true,eO L,0⟩,⟨.t u,true,kp d,0⟩,⟨.x fam,true,[],3⟩]/\(∀g∈L,g.Ok fam)/\ln d<=1099511627776/\
 ∀o:OL Bool,((0<=n/\n<(ln d:Nat)/\iZ CL L d)->iZ CL L o.l)->(¬(0<=n/\n<(ln d:Nat)/\iZ CL L d)->o.l=[])->K (o.sl 4) [o.blk bY 4]
def b0M {n r:Nat} (h:IR (n:Int)) (d:r<=n):IR ((r:Int)-1):=by unfold IR at*;omega
def a8R {n:Nat} (h:IR (n:Int)):IntKind.i64.wrap ((n:Int)-1)=(n:Int)-1:=cN (by unfold IR at*;omega)
def a9u {CT:List Bool} {n:Nat} (e:ln CT=n) (h:IR (n:Int)):IntKind.i64.wrap (((0+ln CT:Nat):Int)-1)=(n:Int)-1:=by rw[aN,e];exact a8R h
def UpM (CL:List CU) (o:List Bool) (l:List ZV):Prop:= ∀z∈jN CL l,o.getD z.x.toNat false=true
def UpM.same {l j} (h:UpM CL o (l.take j)) (hj:j<ln l) {q:Nat} (f:l[j].x=(q:Int)) (d:q<ln CL) (h1: ¬0<=CL[q].made):UpM CL o (l.take (j+1)):=λz e=>by rw[a3n hj f d,if_neg h1,bk] at e;exact h z e
def UpM.set {l j} (h:UpM CL o (l.take j)) (hj:j<ln l) {q:Nat} (i:l[j].x=(q:Int)) (f:q<ln CL) {w:Nat} (g:CL[q].made=(w:Int)) (e:w<ln o):UpM CL (o.set w true) (l.take (j+1)):=λz d=>by rw[a3n hj i f,if_pos om] at d;rcases aT.1 d with d|d;exact a3T (h z d);rw[bq.1 d];show(o.set w true).getD CL[q].made.toNat false=true;rw[g,bW];exact w5 e
def a9Q CT m c9 (k9:bZ (false&&decide (ln CT=0)) (0+ln CT) c9):(c9-(0+ln CT))*1=(c9-(((OL.emp:OL Bool).push CT (n:=ln CT) rfl c9 k9).put m true).l.length)*1:=by show _=(c9-(([]++CT).set m true).length)*1;rw[aZ,ge,aN]
def a8g:pd prog 34 a8u:=iA GA bj (lP a6x (ck GA bj bg 0)) ⟨func34,kr,kr⟩ λa7 b3 K F=>by
 obtain⟨T,CL,Q,I,U,L,M,E,n3,d,c3,h3,fam,tc,td,tt,n,hn,rfl,rfl,hL,a8,F⟩:=F;rw[Dv,DX,fh];refine⟨zD,?_⟩
 refine⟨3,[0,1,2],[.agg [.sli T 0 0 (ln CL) Q I,.sli U 1 0 (ln L) M E],.c (.sli n3 2 0 (ln d) c3 h3)],(λs b7 e=>by
  show cg (SV.den s) [.agg [.sli T 0 0 (ln CL) Q I,.sli U 1 0 (ln L) M E],.c (.sli n3 2 0 (ln d) c3 h3)]=_
  have e0:=e 0 _ rfl
  have e1:=e 1 _ rfl
  have e2:=e 2 _ rfl
  simp only[cg,SV.den,C.den,C.cells,e0,e1,e2,aL,bF,af]),.inr rfl,⟨ab ju CL,ab ki L,ab bY d,trivial⟩,T,CL,Q,I,U,L,M,E,n3,d,c3,h3,fam,_,_,_,rfl,(by rw[Dv,DX,fh]),hL,λvb W=> ?_⟩
 refine zB ?_ ?_<;>intro J;exact zO [0,1,2,3,1000+ 4] [0,1,2] (v3:=OL.none.sl 4) (F OL.none (λh=>absurd h (λh=>by rw[W.2 h.2.2] at J;cases J)) fr);have V:iZ CL L d:=W.1 (bn J);have Y:=V.2.1;have X:=V.1.1;refine zB ?_ ?_<;>intro ha;exact zO [0,1,2,3,1000+ 4] [0,1,2] (v3:=OL.none.sl 4) (F OL.none (λh=>absurd h (λh=>absurd h.1 (by have:=of_decide_eq_true ha;omega))) fr);refine zB ?_ ?_<;>intro hb;exact zO [0,1,2,3,1000+ 4] [0,1,2] (v3:=OL.none.sl 4) (F OL.none (λh=>absurd h (λh=>absurd h.2.1 (by have:=of_decide_eq_true hb;omega))) fr);have a9: ¬n<0:=of_decide_eq_false ha;have d0: ¬((ln d:Nat):Int)<=n:=of_decide_eq_false hb;obtain⟨m,hm⟩: ∃m:Nat,n=(m:Int):=⟨n.toNat,om⟩;have O:m<ln d:=om;have b9:m<ln L:=om;have R:IR ((ln L:Nat):Int):=E.ir;refine A6 ?_;conv=>whnf
 rw[show dk (bG bY d) 0 (ln d*1)=some (bG bY d) from gQ bY d];refine⟨fZ bY _,(OL.emp:OL Bool).app bY 4 (m:=ln d) (by show(0+ln d)*1<=5000000000000;omega),λc9 k9=> ?_⟩;conv=>whnf
 have a2:IR (m:Int):=aR h3 (bw O);conv=>arg 2;tactic'=>exact be (k:=m) (hi:=a2) rfl rfl rfl (eA hm) (by exact(by omega:m<0+ln d))
 conv=>whnf
 conv=>arg 2;tactic'=>exact bM (l:=[.val (.bool true)]) (cs:=bG bY (d.set m true)) rfl rfl rfl rfl (⟨rfl,rfl⟩) rfl rfl (a6w d O true)
 conv=>whnf
 rw[bV];conv=>whnf
 refine zK [0,1,2,3,4,6] [3,8,9] [0,1,2,5] (G:={q:Nat×OL Bool//q.1<=ln L/\UpI CL L q.1 q.2.l}) (λg=>[(3,.c (.ptr 4 0)),(8,g.1.2.sl 5),(9,.c (.int ((g.1.1:Nat)-1:Int) (b0M R g.2.1)))]) (λg=>[(0,⟨.t tc,true,bG ju CL,0⟩),(1,⟨.t td,true,bG ki L,0⟩),(2,⟨.t tt,true,bG bY d,0⟩),(3,⟨.x fam,true,[],3⟩),(4,⟨30,false,[.sli T 0 0 (ln CL) Q I,.sli U 1 0 (ln L) M E],0⟩),(5,g.1.2.blk bY 4)]) (λg=>g.1.1) ⟨(ln L,(((OL.emp:OL Bool).push d (n:=ln d) rfl c9 k9).put m true)),ai _,UpI.start (by show(([]++d).set m true).length=_;rw[aZ,ge,Y])⟩ trivial ?_ (hent:=λ_ c7=>⟨ab ju CL,ab ki L,ab bY d,ab bY _,(by(iterate 8 refine⟨fr,?_⟩);refine⟨λs=>((OL.emp:OL Bool).push_sl d (n:=ln d) rfl c9 k9 5 s).trans (((OL.emp:OL Bool).push d (n:=ln d) rfl c9 k9).put_sl m true 5 s),?_⟩;refine⟨λs=>kM (a9u Y R) s,?_⟩;exact gm _),(by(iterate 5 refine⟨mL _,?_⟩);refine⟨⟨rfl,rfl,a9Q d m c9 k9,λs=>rfl⟩,?_⟩;exact trivial)⟩);rintro ⟨⟨r,o⟩,hr,N⟩ va2;have hr:r<=ln L:=hr;have N:UpI CL L r o.l:=N;have b8:=N.len;dsimp only;refine zB ?_ ?_<;>intro h0;have b6:1<=r:=by have:=of_decide_eq_true h0;omega
 obtain⟨k,rfl⟩: ∃k,r=k+1:=⟨r-1,om⟩;have hkl:k<ln L:=om;have P:IR (k:Int):=aR E (bw hkl);have a0:((k+1:Nat):Int)-1=(k:Int):=om;obtain⟨oi,-,A,-⟩:=hL _ (ak hkl);have c5:=oi.1;conv=>whnf
 refine zK [0,1,2,3,4,5] [3,8,9,10] [0,1,2,5] (G:={q:Nat×OL Bool//q.1<=L[k].il.length/\UpI CL L (k+1) q.2.l/\UpM CL q.2.l (L[k].il.take q.1)}) (λg=>[(3,.c (.ptr 4 0)),(8,g.1.2.sl 5),(9,.c (.int (k:Nat) P)),(10,.c (.int (g.1.1:Nat) (Hg A oi.1 g.2.1)))]) (λg=>[(0,⟨.t tc,true,bG ju CL,0⟩),(1,⟨.t td,true,bG ki L,0⟩),(2,⟨.t tt,true,bG bY d,0⟩),(3,⟨.x fam,true,[],3⟩),(4,⟨30,false,[.sli T 0 0 (ln CL) Q I,.sli U 1 0 (ln L) M E],0⟩),(5,g.1.2.blk bY 4)]) (λg=>L[k].il.length-g.1.1) ⟨(0,o),ah _,N,λz J=>absurd J cd⟩ (pc (a81 a0)) ?_;rintro ⟨⟨j,p⟩,hj,u,y⟩ vb2;have hj:j<=L[k].il.length:=hj;have u:UpI CL L (k+1) p.l:=u;have y:UpM CL p.l (L[k].il.take j):=y;have c4:=u.len;dsimp only;refine eS ?_;conv=>arg 2;tactic'=>exact eC rfl rfl rfl rfl rfl rfl A
 refine zB ?_ ?_<;>intro h5;have a1:k<ln p.l:=om;refine eS ?_;refine zB ?_ ?_<;>intro h6;have h6:p.l[k]=true:=h6;have f:j<L[k].il.length:=by have:=dL h5;omega
 have c6:IR (j:Int):=Hg A oi.1 hj;obtain⟨r9,o9,ea,a6⟩:=a6h oi f;obtain⟨q,hq,B⟩:=a3L X hkl (ak f);have c8:IR (q:Int):=aR I (bw B);refine eS ?_;refine⟨_,DR (r:=r9) (off:=o9) (len:=L[k].i.n) (cap:=L[k].i.c) (j:=j) rfl rfl (by show SV.c (.val (.slice L[k].i.a L[k].i.n L[k].i.c))=_;rw[ea]) rfl om,_,DS (r:=r9) (o1:=o9) (off:=j*1) (fb:=3) rfl rfl rfl rfl a6 (oO L[k].il f) ff,?_⟩;refine eS ?_;refine zB ?_ ?_<;>intro H;have H:0<=CL[q].made:=of_decide_eq_true H;obtain⟨w,hw⟩: ∃w:Nat,CL[q].made=(w:Int):=⟨CL[q].made.toNat,om⟩;have b5:w<k:=by have:=S8 V.1 hkl P (z:=⟨CL[q].made,CL[q].hm⟩) ((jA CL).2 ⟨_,ak f,CL[q],(by unfold pm;rw[hq,bW,ae B]),H,rfl⟩);have h9:CL[q].made.toNat<k:=this.2;omega
 have D:w<ln p.l:=om;have c0:IR (w:Int):=aR p.ok (bw D);refine p6 ?_;conv=>arg 2;tactic'=>exact bM (l:=[.val (.bool true)]) (cs:=bG bY (p.l.set w true)) rfl rfl rfl rfl (⟨rfl,rfl⟩) rfl (by exact p.ok.pos om) (a6w p.l D true)
 conv=>whnf
 rw[bV];exact dD [0,1,2,3,4,5] ⟨(j+1,(p.put w true)),f,u.set om,y.set f hq B hw D⟩ (h:=λb2=>⟨ab ju CL,ab ki L,ab bY d,ab bY _,(by(iterate 8 refine⟨fr,?_⟩);refine⟨λs=>p.put_sl w true 5 s,?_⟩;refine⟨fr,?_⟩;refine⟨λs=>kM (dr (n:=L[k].i.n) om A) s,?_⟩;exact gm _),(by(iterate 5 refine⟨mL _,?_⟩);refine⟨⟨rfl,rfl,p.put_tl w true bY _,λs=>rfl⟩,?_⟩;exact trivial)⟩);have H: ¬0<=CL[q].made:=of_decide_eq_false H;exact dD [0,1,2,3,4,5] ⟨(j+1,p),f,u,y.same f hq B H⟩;have h6:p.l[k]=false:=h6;exact dD [0,1,2,3,4,5] ⟨(k,p),bw hkl,u.down λ_ ht=>by rw[ao,ae a1] at ht;exact absurd (show p.l[k]=true from ht) (by rw[h6];decide)⟩ (hm:=(by show k<k+1;omega)) (h:=λa5=>⟨ab ju CL,ab ki L,ab bY d,ab bY _,(by(iterate 9 refine⟨fr,?_⟩);refine⟨λs=>kM (by rw[cN (by unfold IR at*;omega)]) s,?_⟩;exact gm _),gz _⟩);have Z:L[k].il.length<=j:=by have:=gi h5;omega
 rw[bX Z] at y;exact dD [0,1,2,3,4,5] ⟨(k,p),bw hkl,u.down λ_ ht=>y⟩ (hm:=(by show k<k+1;omega)) (h:=λa5=>⟨ab ju CL,ab ki L,ab bY d,ab bY _,(by(iterate 9 refine⟨fr,?_⟩);refine⟨λs=>kM (by rw[cN (by unfold IR at*;omega)]) s,?_⟩;exact gm _),gz _⟩);have a4:r=0:=by have:=of_decide_eq_false h0;omega
 subst a4;exact zO [0,1,2,3,5] [0,1,2,4] (v3:=o.sl 4) (F o (λ_=>N.vld V.1) (λh=>absurd ⟨om,om,V⟩ h))
end
def b1C:List (FuncId×cP):=[(22,Lk),(34,a8u)]
def a9r:vB prog b1C:= .cons a3m<| .cons a8g .nil
def a2u {n m} (d:IR n) (hm:IR m):IR (n % m):=by by_cases h:m=0;subst h;rw[Int.emod_zero];exact d;have e:=Int.emod_nonneg n h;have f:=Int.emod_lt n h;unfold IR at*;omega
def a9i {n m:Int} (d:IR n) (h:0<m/\m<=4611686018427387903):(wr ix (n.tmod m+m)).tmod m=n % m:=by have e: -m<n.tmod m:=Int.lt_tmod_of_pos n h.1;have f:n.tmod m<m:=Int.tmod_lt_of_pos n h.1;rw[cN (z:=n.tmod m+m) ui,kZ om,Int.add_emod_right];have _:=d;rw[Int.tmod_def,Int.sub_mul_emod_self_left]
def a8B:Dn
 |[.c (.int n hn),.c (.int m hm)]=>some (some (0<m/\m<=4611686018427387903),.c (.int (n % m) (a2u hn hm)))
 |_=>none
def b0b:dW prog 33 a8B:=dC (un:=20) (n:=0) ⟨func33,kr,kr⟩ eR bg λi p v e=>by
 unfold a8B at e;split at e;rename_i n f m h;cases e;refine⟨[.c (.int n f),.c (.int m h)],fr,ff,ff,λd=> ?_⟩;have g:0<m/\m<=4611686018427387903:=d _ rfl;conv=>whnf
 conv=>arg 2;tactic'=>exact WN rfl rfl rfl (by exact om) rfl (f.tmod m)
 conv=>whnf
 conv=>arg 2;tactic'=>exact WN rfl rfl rfl (by exact om) (a9i f g) (a2u f h)
 conv=>whnf
 exact λ_=>rfl;cases e
def a8s:List (FuncId×Dn):=(33,a8B)::s9
def a3k:dU a8s:= .cons b0b eR
def b0I:ic:={vA 0 a8s with O:=En qo (lR qo)}
def a6S:iU prog b0I:=⟨(cm a3k 0).T,(cm a3k 0).D,nH eD (gy eD),(cm a3k 0).R,(cm a3k 0).X⟩
def a7r:cP:=λd e K=> ∃h CL c1 h1 n2 L c2 h2 S x fam tc td ts cs,d=[.agg [.sli h 0 0 (ln CL) c1 h1,.sli n2 1 0 (ln L) c2 h2],.c x]/\e=[⟨.t tc,true,eM CL,0⟩,⟨.t td,true,eO L,0⟩,⟨.t ts,true,cs,0⟩,⟨.x fam,true,[],3⟩]/\(cC cs/\((∃i f cS,∃hS:bZ i (ln S) cS,x= .sli i 2 f (ln S) cS hS/\mj bI cs f S)\/ ∃a c,x= .val (.slice a 0 c)))/\(∀g∈L,g.Ok fam)/\ln L<=1000000000/\
 ∀o:OL Bool,ln o.l<=ln L->(vC CL L->iZ CL L o.l)->K (o.sl 4) [o.blk bY 4]
def a6v (a:Int):IR (wr ix (a.tdiv 4)):=el _
def a9A {CL L} (h:vC CL L):iZ CL L (au (ln L) false):=by refine⟨h,bb,λk e d=> ?_⟩;rw[gT,if_pos e] at d;cases d
def a74:pd prog 18 a7r:=iA a6S bj (lP a9r (ck a6S bj bg 0)) ⟨func18,kr,kr⟩ λW a0 K I=>by
 obtain⟨F,d,D,B,H,L,E,s,S,x,fam,tc,td,ts,cs,rfl,rfl,⟨j,hx⟩,X,M,I⟩:=I;rw[Dv,DX];have j:cC cs:=j;rcases hx with⟨nS,oS,cS,hS,rfl,a1⟩|⟨a9,c9,rfl⟩;refine⟨zD,?_⟩;conv=>whnf
 refine .inl ⟨rfl,ln L,ln L,rfl,rfl,ai _,M,λO=> ?_⟩;rw[show tU (ln L) zb=_ from MC (ln L)];conv=>whnf
 refine zK [0,1,2,3,4,5] [1,2,5,6] [0,1,2,5] (G:={q:Nat×OL Bool//q.1<=ln S/\ln q.2.l<=ln L/\(vC d L->iZ d L q.2.l)}) (λg=>[(5,g.1.2.sl 5),(6,.c (.int (g.1.1:Nat) (aR hS g.2.1)))]) (λg=>[(5,g.1.2.blk bY 4)]) (λg=>ln S-g.1.1) ⟨(0,(OL.mk (au (ln L) false) false (ln L) (by rw[bb];exact O))),ah _,CS bb,a9A⟩ trivial ?_ (hent:=λ_ a4=>⟨ab ju d,ab ki L,j,cz _,(by exact⟨fr,fr,fr,fr,fr,λA=>(by simp only[OL.sl,SV.den,C.den,C.cells,bb]),fr,gm _⟩),(by(iterate 5 refine⟨mL _,?_⟩);refine⟨⟨rfl,rfl,(show (ln L)-ln L=(ln L-(au (ln L) false).length)*1 by rw[bb,gE]),λA=>by rw[fh];rfl⟩,?_⟩;exact trivial)⟩);rintro ⟨⟨k,o⟩,T,i,f⟩ va2;have T:k<=ln S:=T;have i:ln o.l<=ln L:=i;have f:vC d L->iZ d L o.l:=f;dsimp only;refine zB ?_ ?_<;>intro h0;have J:k<ln S:=dL h0;have Z:IR (k:Int):=aR hS T;refine zB ?_ ?_<;>intro g1;refine zB ?_ ?_<;>intro g2;have a2:0<ln o.l:=by have:=of_decide_eq_true g2;omega
 have p:IR ((ln o.l:Nat):Int):=aR o.ok (ai _);refine eS ?_;refine⟨⟨om,om⟩,?_⟩;refine eS ?_;refine zB ?_ ?_<;>intro h3;conv=>whnf
 have u:0<=(wr ix (S[k].x.tdiv 4) % (ln o.l:Nat)):=Int.emod_nonneg _ om;have y:(wr ix (S[k].x.tdiv 4) % (ln o.l:Nat))<(ln o.l:Nat):=Int.emod_lt_of_pos _ om
 refine⟨3,[0,1,5],[.agg [.sli F 0 0 (ln d) D B,.sli H 1 0 (ln L) E s],.c (.sli o.nl 2 0 (ln o.l) o.cap o.ok),.c (.int (wr ix (S[k].x.tdiv 4) % (ln o.l:Nat)) (a2u (a6v S[k].x) p))],(λA R e=>by
  show cg (SV.den A) [.agg [.sli F 0 0 (ln d) D B,.sli H 1 0 (ln L) E s],o.sl 5,.c (.int (wr ix (S[k].x.tdiv 4) % (ln o.l:Nat)) (a2u (a6v S[k].x) p))]=_
  have Q:=e 0 _ rfl
  have V:=e 1 _ rfl
  have z:=e 2 _ rfl
  simp only[OL.sl,cg,SV.den,C.den,C.cells,Q,V,z,aL,bF,af]),.inr rfl,⟨ab ju d,ab ki L,ab bY _,trivial⟩,F,d,D,B,H,L,E,s,o.nl,o.l,o.cap,o.ok,fam,_,_,_,_,_,rfl,(by rw[Dv,DX,fh]),X,om,λo2 r N=> ?_⟩
 conv=>whnf
 by_cases hv:iZ d L o.l;have z:=r ⟨u,y,hv⟩;have U:IR ((ln L:Nat):Int):=s.ir;obtain⟨P,-⟩:=X8 hv (m:=((wr ix (S[k].x.tdiv 4) % (ln o.l:Nat))).toNat) (by have:=hv.2.1;omega) U;rw[<-z] at P
 iterate 2
  try
   conv=>whnf
   have u:0<=(wr ix (S[k].x.tdiv 4) % (ln o.l:Nat)):=Int.emod_nonneg _ om
   have y:(wr ix (S[k].x.tdiv 4) % (ln o.l:Nat))<(ln o.l:Nat):=Int.emod_lt_of_pos _ om
   refine⟨3,[0,1,5],[.agg [.sli F 0 0 (ln d) D B,.sli H 1 0 (ln L) E s],.c (.sli o.nl 2 0 (ln o.l) o.cap o.ok),.c (.int (wr ix (S[k].x.tdiv 4) % (ln o.l:Nat)) (a2u (a6v S[k].x) p))],(λA R e=>by
    show cg (SV.den A) [.agg [.sli F 0 0 (ln d) D B,.sli H 1 0 (ln L) E s],o.sl 5,.c (.int (wr ix (S[k].x.tdiv 4) % (ln o.l:Nat)) (a2u (a6v S[k].x) p))]=_
    have Q:=e 0 _ rfl
    have V:=e 1 _ rfl
    have z:=e 2 _ rfl
    simp only[OL.sl,cg,SV.den,C.den,C.cells,Q,V,z,aL,bF,af]),.inr rfl,⟨ab ju d,ab ki L,ab bY _,trivial⟩,F,d,D,B,H,L,E,s,o.nl,o.l,o.cap,o.ok,fam,_,_,_,_,_,rfl,(by rw[Dv,DX,fh]),X,om,λo2 r N=> ?_⟩
   conv=>whnf
   by_cases hv:iZ d L o.l
   have P:=r ⟨u,y,hv⟩
  exact dD [0,1,2,3,4,6] ⟨(k+1,o2),J,CS P.2.1,λ_=>P⟩
  have z:=N λh=>hv h.2.2
  exact dD [0,1,2,3,4,6] ⟨(k+1,o2),J,(by show (ln o2.l)<=_;rw[z];exact ah _),λh=>absurd (f h) hv⟩
 exact zO [0,1,2,3,5] [0,1,2,4] (I o i f);exact zO [0,1,2,3,5] [0,1,2,4] (I o i f);exact zO [0,1,2,3,5] [0,1,2,4] (I o i f);refine⟨zD,?_⟩;conv=>whnf
 refine .inl ⟨rfl,ln L,ln L,rfl,rfl,ai _,M,λO=> ?_⟩;rw[show tU (ln L) zb=_ from MC (ln L)];refine iT ?_;exact⟨1,[0,1,2,3,5],[0,1,2,4],λY=>⟨ab ju d,ab ki L,j,cz _,_,[(OL.mk (au (ln L) false) false (ln L) (by rw[bb];exact O)).blk bY 4],rfl,⟨mL _,mL _,mL _,mL _,⟨rfl,rfl,(show (ln L)-ln L=(ln L-(au (ln L) false).length)*1 by rw[bb,gE]),λA=>by rw[fh];rfl⟩,trivial⟩,⟨OL.new _ bY _,trivial⟩,(OL.mk (au (ln L) false) false (ln L) (by rw[bb];exact O)).sl 4,λA=>(by simp only[OL.sl,SV.den,C.den,C.cells,bb]),I (OL.mk (au (ln L) false) false (ln L) (by rw[bb];exact O)) (CS bb) a9A⟩⟩
section
variable {cs:List C} {ρ ρ':fF}
def StA (cs:List C) (S:List ZV) (b:Nat) (x:C):Prop:=(∃e d cS,∃hS:bZ e (ln S) cS,x= .sli e b d (ln S) cS hS/\mj bI cs d S)\/ ∃a c,x= .val (.slice a 0 c)
def StA.to {S b x} (h:StA cs S b x) d: ∃x2,StA cs S d x2/\ ∀ρ ρ':fF,ρ' d=ρ b->(SV.c x).den ρ=(SV.c x2).den ρ':=by rcases h with⟨g,f,cS,hS,rfl,i⟩|⟨a,c,rfl⟩;exact⟨.sli g d f (ln S) cS hS,.inl ⟨g,f,cS,hS,rfl,i⟩,λρ ρ' e=>by simp only[SV.den,C.den,C.cells,e]⟩;exact⟨_,.inr ⟨a,c,rfl⟩,λ_ _ _=>rfl⟩
def StA.den {S b x} (h:StA cs S b x) (e:ρ b=ρ' b):(SV.c x).den ρ=(SV.c x).den ρ':=by rcases h with⟨f,d,cS,hS,rfl,g⟩|⟨a,c,rfl⟩;simp only[SV.den,C.den,C.cells,e];rfl
def a8H {a b d e} (h:a.den ρ=d.den ρ') (h2:b.den ρ=e.den ρ'):cg (SV.den ρ) [a,b]=cg (SV.den ρ') [d,e]:=by rw[cg,cg,cg,cg,cg,cg,h,h2]
def a93 {a b c e f d} (h:a.den ρ=e.den ρ') (h2:b.den ρ=f.den ρ') (g:c.den ρ=d.den ρ'):cg (SV.den ρ) [a,b,c]=cg (SV.den ρ') [e,f,d]:=by rw[cg,cg,cg,cg,cg,cg,cg,cg,h,h2,g]
def a89 {l c} (k:bZ (false&&decide (ln l=0)) (0+ln l) c) t (h:(0+ln l+1)*1<=5000000000000):TyX.t t=TyX.t t/\(false&&decide (ln l=0))=(false&&decide (ln l=0))/\bu ([]++bG bY l)=(0+ln l)*1/\((false&&decide (ln l=0))=false->bu ([]++bG bY l)+(c-(0+ln l))*1=c*1)/\(0+ln l+1)*1<=5000000000000:=by
 have d:bu ([]++bG bY l)=(0+ln l)*1:=by rw[ge,aN];exact hZ bY l
 have:=k.1;exact⟨rfl,rfl,d,λ_=>by rw[d];omega,h⟩
def a8x:cP:=λd e K=> ∃(s:SW) (A fam0 x y q0 q1 q2 q3 q4 hq0 hq1 hq2 hq3 hq4 S z ts cs:_),d=[.agg [.val (.slice s.a s.n s.c),.val (.int .u8 x),.val (.int .u8 y)],.agg [.int q0 hq0,.int q1 hq1,.int q2 hq2,.int q3 hq3,.int q4 hq4],.c z]/\e=[⟨.t ts,true,cs,0⟩,⟨.x fam0,true,[],3⟩]/\(((tP fam0 ⟨s.a,min s.n 3,s.c⟩ A/\IR (s.n:Nat)/\s.n<=s.c)/\(0<=x/\x<256)/\(0<=y/\y<256))/\cC cs/\StA cs S 0 z)/\K (.c (.val (.bool true))) []
end
section
open Go.ChangeShapes Go.WideShapes Go.ChangeAt Go.RowKit
section
variable {H:Type} {enc:TypeId×Value->H} {w:World} {held:Bool}
def a41 {b0 v d ps} (q:Value.okWide Tryz.prog w .any b0 22 v) (J:DataW.Trod enc Tryz.prog w 0 (λ_=>true) held 22 v d ps): ∃z S a,v=(SV.c z).den (λ_=>a)/\StA (qh S) S 0 z/\w.rangeAt a.1 a.2 (af (λ_=>a) (qh S)):=by
 obtain⟨P,len,p,rfl⟩:=okWide_slice Tryz.underlying22 q;obtain⟨F,M⟩:=J
 have e: ∀a c,∃z S a',Value.slice a 0 c=(SV.c z).den (λ_=>a')/\StA (qh S) S 0 z/\w.rangeAt a'.1 a'.2 (af (λ_=>a') (qh S)):=λa c=>
  ⟨.val (.slice a 0 c),[],(0,0),rfl,.inr ⟨a,c,rfl⟩,λj v h=>by simp[qh,af] at h⟩
 rcases open_ints Tryz.underlying22 u3 kr M with⟨i,_⟩|⟨a,D,A,zs,i,_,N,O,L,_,g,y⟩;simp[Value.cells] at i;obtain⟨rfl,rfl,rfl⟩:=i;exact e none 0;simp[Value.cells] at i;obtain⟨rfl,rfl,rfl⟩:=i;simp only[if_true] at L;by_cases h0:len=0;subst h0;exact e (some a) p;obtain⟨E,B,o⟩:=a;have m:o=none:=by simpa[Addr.add] using World.cell?_spot (g 0 om)
 subst m;have k: ∀z∈zs.take len,IR z:=λz f=>by have:=bounds_i64 (y z (sY f));exact this
 have s:((zs.take len).pmap (λz h=>(⟨z,h⟩:ZV)) k).map (λz=>Value.int .i64 z.x)=(zs.take len).map (Value.int .i64):=by rw[List.map_pmap];exact List.pmap_eq_map k
 obtain⟨S,hS⟩: ∃S,S=(zs.take len).pmap (λz h=>(⟨z,h⟩:ZV)) k:=⟨_,rfl⟩;have r:len=ln S:=by rw[hS,List.length_pmap,aO];omega
 subst r;refine⟨.sli false 0 0 (ln S) p ⟨N,O,λh=>by cases h⟩,S,(E,B),rfl,.inl ⟨_,_,_,_,rfl,by rw[KK];exact mj.self bI S⟩,λj v G=> ?_⟩;rw[yE,hS,s,gA] at G;obtain⟨z,f,rfl⟩:=a6o.1 G;rw[gb] at f;split at f;have u:j<ln zs:=(aw.1 f).1;have I:=g j u;rw[Addr.add_lit] at I;show w.cell? ⟨E,B+j,none⟩=_;rw[I,ao,f];rfl;cases f
end
def a59 {f:FuncId} (M:pd Tryz.prog f a8x) {s:SW} {A:List ZV} {d:List mq} {x y D F H G E:Int} (p:IR D) (k:IR F) (r:IR H) (m:IR G) (q:IR E) (J:(tP d ⟨s.a,min s.n 3,s.c⟩ A/\IR (s.n:Nat)/\s.n<=s.c)/\(0<=x/\x<256)/\(0<=y/\y<256)) (w:World) (I: ∀e∈d,iV w.heap.size w false e) {z:C} {S:List ZV} {a:Nat×Nat} (hS:StA (qh S) S 0 z) (N:w.rangeAt a.1 a.2 (af (λ_=>a) (qh S))): Calls Tryz.prog f #[SV.den (λ_=>(0,0)) (.agg [.val (.slice s.a s.n s.c),.val (.int .u8 x),.val (.int .u8 y)]),SV.den (λ_=>(0,0)) (.agg [.int D p,.int F k,.int H r,.int G m,.int E q]),(SV.c z).den (λ_=>a)] w λe w'=>e= .returned (.bool true)/\Below w.heap.size w w':=by
 refine(M.2 [.agg [.val (.slice s.a s.n s.c),.val (.int .u8 x),.val (.int .u8 y)],.agg [.int D p,.int F k,.int H r,.int G m,.int E q],.c z] [⟨.t 0,true,qh S,0⟩,⟨.x d,true,[],3⟩] (λu _=>u= .c (.val (.bool true))) ⟨s,A,d,x,y,D,F,H,G,E,p,k,r,m,q,S,z,0,qh S,rfl,rfl,⟨J,Pn S,hS⟩,rfl⟩ ⟨⟨rfl,rfl⟩,⟨rfl,rfl⟩,trivial⟩ ⟨Pn S,ff,trivial⟩ (λ_=>a) w (λi c g=> ?_) (λi b o l e g B L=> ?_) (λi b o l g B=> ?_)).mono ?_;rcases i with _|_|i<;>simp[an] at g;subst g;exact N;subst g;exact λj v h=>by simp[af] at h
 rcases i with _|_|i<;>simp[an] at g;subst g;cases B;subst g;cases B;exact I e L;rcases i with _|_|i<;>simp[an] at g;subst g;cases B;subst g;cases B;rfl;rintro e w' ⟨u,news,σ,rfl,_,hh,_,L⟩;exact⟨L σ (gt.refl _ _),hh.bel.below⟩
end
def l3X:List (FuncId×cP):=[(11,Zp),(18,a7r),(19,Zn),(20,a70),(17,a6q)]
def a91:vB prog l3X:= .cons a1l<| .cons a74<| .cons RF<| .cons a8A<| .cons a6I .nil
def a96 {b:Bool} {d B:List SN} (h:b=true↔B=[]) (e:d=B):(decide ((0:Int)<(ln d:Nat))== !b)=true:=by
 subst e
 cases d with
 |nil=>rw[h.2 rfl];rfl
 |cons s l=>
  have f:b=false:=by cases b with
   |false=>rfl
   |true=>exact absurd (h.1 rfl) sp
  rw[f,decide_eq_true sp];rfl
def a9b:pd prog 5 a8x:=iA B5 bj (lP a91 (dX Xt (ck B5 bj bg 0))) ⟨func5,kr,kr⟩ λa4 a7 K T=>by
 obtain⟨s,A,N,x,y,q0,q1,q2,q3,q4,j,q,k,g,i,S,z,ts,cs,rfl,rfl,⟨W,G,hS⟩,T⟩:=T
 obtain⟨z2,a0,Q⟩:=hS.to 2
 have X:=hS
 rcases X with⟨nS,oS,cS,hSS,rfl,-⟩|⟨a9,c9,rfl⟩<;>
 (
  refine⟨λB u e=> ?_,?_⟩
  have D:=e 0 (by decide:0<2)
  simp only[cg,hS.den D]
  rfl
  refine⟨1,[],[.agg [.val (.slice s.a s.n s.c),.val (.int .u8 x),.val (.int .u8 y)]],(λ_ _ _=>rfl),.inr rfl,trivial,s,A,N,x,y,rfl,rfl,W,λf d fam hg=> ?_⟩
  conv=>whnf
  have r:=hg.grk
  have b3:=r.ln
  have b5:=r.cn
  have b2:IR ((ln d.l:Nat):Int):=d.ok.ir
  refine⟨6,[4,5,0],[.agg [.sli f.nl 0 0 (ln f.l) f.cap f.ok,.sli d.nl 1 0 (ln d.l) d.cap d.ok],.c z2],(λB u e=>a8H (a:= .agg [.sli f.nl 4 0 (ln f.l) f.cap f.ok,.sli d.nl 5 0 (ln d.l) d.cap d.ok]) (by
   have D:=e 0 _ rfl
   have E:=e 1 _ rfl
   simp only[SV.den,C.cells,D,E,aL,bF,af]) (Q B u (e 2 _ rfl))),.inl rfl,⟨ab ju _,ab ki _,G,trivial⟩,f.nl,f.l,f.cap,f.ok,d.nl,d.l,d.cap,d.ok,S,z2,fam,_,_,ts,cs,rfl,(by rw[Dv,DX]),⟨G,a0⟩,r.gk,om,λo a5 J=> ?_⟩
  conv=>whnf
  have hv:=J r.sn
  refine⟨6,[4,5,9],[.agg [.sli f.nl 0 0 (ln f.l) f.cap f.ok,.sli d.nl 1 0 (ln d.l) d.cap d.ok],.c (.sli o.nl 2 0 (ln o.l) o.cap o.ok),.agg (t7 (Ig j q k g i))],(λB u e=>by
   show cg (SV.den B) [.agg [.sli f.nl 4 0 (ln f.l) f.cap f.ok,.sli d.nl 5 0 (ln d.l) d.cap d.ok],o.sl 9,.agg (t7 (Ig j q k g i))]=_
   have D:=e 0 _ rfl
   have E:=e 1 _ rfl
   have H:=e 2 _ rfl
   simp only[OL.sl,cg,SV.den,C.den,C.cells,D,E,H,aL,bF,af]
   rfl),.inl rfl,⟨ab ju _,ab ki _,ab bY _,trivial⟩,f.nl,f.l,f.cap,f.ok,d.nl,d.l,d.cap,d.ok,o.nl,o.l,o.cap,o.ok,fam,_,_,_,(Ig j q k g i),rfl,(by rw[Dv,DX,fh]),⟨r.co,r.gk⟩,r.cn,λis L U a1 F=> ?_⟩
  obtain rfl:=T8 U a1
  have F:L=BR f.l d.l (Ig j q k g i) o.l:=F
  refine⟨6,[4,5,9],[.agg [.sli f.nl 0 0 (ln f.l) f.cap f.ok,.sli d.nl 1 0 (ln d.l) d.cap d.ok],.c (.sli o.nl 2 0 (ln o.l) o.cap o.ok),.agg (t7 (Ig j q k g i))],(λB u e=>by
   show cg (SV.den B) [.agg [.sli f.nl 4 0 (ln f.l) f.cap f.ok,.sli d.nl 5 0 (ln d.l) d.cap d.ok],o.sl 9,.agg (t7 (Ig j q k g i))]=_
   have D:=e 0 _ rfl
   have E:=e 1 _ rfl
   have H:=e 2 _ rfl
   simp only[OL.sl,cg,SV.den,C.den,C.cells,D,E,H,aL,bF,af]
   rfl),.inl rfl,⟨ab ju _,ab ki _,ab bY _,trivial⟩,f.nl,f.l,f.cap,f.ok,d.nl,d.l,d.cap,d.ok,o.nl,o.l,o.cap,o.ok,fam,_,_,_,(Ig j q k g i),rfl,(by rw[Dv,DX,fh]),⟨r.ct,r.gk⟩,r.cn,λbe P=> ?_⟩
  replace P:be=L:=P.trans F.symm
  conv=>whnf
  rw[show dk (o.blk bY 4).cs 0 (ln o.l*1)=some (bG bY o.l) from gQ bY o.l]
  refine⟨fZ bY _,(OL.emp:OL Bool).app bY 4 (m:=ln o.l) (by show(0+ln o.l)*1<=5000000000000;omega),λc9 k9=>⟨rfl,a89 k9 4 om,λc8 k8=> ?_⟩⟩
  conv=>whnf
  have M:0+ln o.l+1=(o.l++[true]).length:=by rw[aa];show _=_+1;omega
  obtain⟨p,hp⟩: ∃p,p=OL.of (o.l++[true]) k8 M:=⟨_,rfl⟩
  refine⟨6,[4,5,13],[.agg [.sli f.nl 0 0 (ln f.l) f.cap f.ok,.sli d.nl 1 0 (ln d.l) d.cap d.ok],.c (.sli p.nl 2 0 (ln p.l) p.cap p.ok),.agg (t7 (Ig j q k g i))],(λB u e=>a93 (a:= .agg [.sli f.nl 4 0 (ln f.l) f.cap f.ok,.sli d.nl 5 0 (ln d.l) d.cap d.ok]) (by
   have D:=e 0 _ rfl
   have E:=e 1 _ rfl
   simp only[SV.den,C.cells,D,E,aL,bF,af]) ((OL.of_sl k8 M 13 B).trans (by
   have H:=e 2 _ rfl
   rw[hp]
   simp only[OL.sl,SV.den,C.den,C.cells,H])) (c:= .agg (t7 (Ig j q k g i))) rfl),.inl rfl,⟨ab ju _,ab ki _,cJ (ab bY _) ff,trivial⟩,f.nl,f.l,f.cap,f.ok,d.nl,d.l,d.cap,d.ok,p.nl,p.l,p.cap,p.ok,fam,_,_,_,(Ig j q k g i),rfl,(by rw[Dv,DX,fh,hp];show _=[_,_,(⟨_,true,bG bY (o.l++[true]),0⟩:aY),_];rw[en];rfl),⟨r.co,r.gk⟩,r.cn,λis2 Z a8 R I=> ?_⟩
  have nn:ln p.l=ln o.l+1:=by rw[hp];exact aa
  have Y:Z=[]:=by rw[I,R (λh=>by have h8:=h.2.1;have h9:=hv.2.1;omega)];rfl
  subst be
  subst Y
  refine zB ?_ ?_<;>intro g1
  refine zB ?_ ?_<;>intro g2
  refine⟨6,[4,5,9],[.agg [.sli f.nl 0 0 (ln f.l) f.cap f.ok,.sli d.nl 1 0 (ln d.l) d.cap d.ok],.c (.sli o.nl 2 0 (ln o.l) o.cap o.ok),.agg (t7 (Ig j q k g i))],(λB u e=>by
   show cg (SV.den B) [.agg [.sli f.nl 4 0 (ln f.l) f.cap f.ok,.sli d.nl 5 0 (ln d.l) d.cap d.ok],o.sl 9,.agg (t7 (Ig j q k g i))]=_
   have D:=e 0 _ rfl
   have E:=e 1 _ rfl
   have H:=e 2 _ rfl
   simp only[OL.sl,cg,SV.den,C.den,C.cells,D,E,H,aL,bF,af]
   rfl),.inl rfl,⟨ab ju _,ab ki _,ab bY _,trivial⟩,f.nl,f.l,f.cap,f.ok,d.nl,d.l,d.cap,d.ok,o.nl,o.l,o.cap,o.ok,fam,_,_,_,(Ig j q k g i),rfl,(by rw[Dv,DX,fh]),⟨r.ct,r.gk⟩,r.cn,λb a2 _=> ?_⟩
  have V:=a0E (v:=(Ig j q k g i)) hv
  have O:(decide ((0:Int)<(ln L:Nat))== !b)=true:=a96 ((a2 hv).trans V.symm) F
  exact⟨[0,1],[0],λa6=>⟨G,_,[],rfl,gz _,trivial,.c (.val (.bool true)),λB=>jD O B,T⟩⟩
  exact absurd g2 (by show¬(_==_)=false;rw[beq_self_eq_true];decide)
  exact absurd rfl (of_decide_eq_false (p:=(kq L).made=(kq L).made) g1)
 )
end Go.Proofs.YtlgcobafjbajdaaGreatDoor
