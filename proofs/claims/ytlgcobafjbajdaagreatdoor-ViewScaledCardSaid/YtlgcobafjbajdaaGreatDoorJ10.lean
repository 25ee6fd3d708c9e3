/- w -/
import Derived.Test.YtlgcobafjbajdaaGreatDoorJ01
import Derived.Test.YtlgcobafjbajdaaGreatDoorJ09
import Derived.Test.YtlgcobafjbajdaaGreatDoorJ08
import Derived.Test.YtlgcobafjbajdaaGreatDoorJ06
import Derived.Test.YtlgcobafjbajdaaGreatDoorJ04
import Derived.Test.YtlgcobafjbajdaaGreatDoorJ07
import Derived.Test.YtlgcobafjbajdaaGreatDoorJ05
namespace Go.Proofs.YtlgcobafjbajdaaGreatDoor
open Tryz
open Go.RowKit
open IntKind renaming i64→ix,wrap→wr
open List renaming append_assoc→aJ,drop_eq_getElem_cons→bh,drop_zero→it,length→ln,map→cg,map_append→aV,perm_append_singleton→a0t,perm_middle→jh,replicate→au,replicate_succ→dZ,take_append_drop→aF
open _root_.Array renaming length_toList→dg
set_option linter.all false
set_option maxRecDepth 100000
set_option maxHeartbeats 64000000
section
variable {k cap:Nat} {pts:List PT} {α:Type} {nl:Bool}
structure PI where
 r:Nat
 n:Nat
 l:List ZV
 cap:Nat
 hn:n=ln l
 ok:bZ false n cap
def PI.ent (p:PI):mq:=⟨(p.r,0),bG bI p.l, 3,(p.cap-p.n)*1⟩
def PI.w (p:PI):Value:= .slice (some ⟨p.r,0,none⟩) p.n p.cap
def jp:RW PI:=⟨λp=>[.val p.w],1,fr,λ_ _ _=>rfl,fr⟩
def CX (n:Nat) (l:List PI):Prop:=(l.flatMap λp=>p.l.map ZV.x).Perm ((List.range n).map Int.ofNat)
def Zf:List (FuncId×cP):=[(102,FQ)]
def QJ:iL prog Zf:= .cons NW .nil
def LD:ic:={vA 0 s9 with O:=a2C Z3 (XS (En qo (lR qo)) 1)}
def Gk:iU prog LD:=⟨(cm eR 0).T,(cm eR 0).D,Mp Tz (Er (nH eD (gy eD)) 1),(cm eR 0).R,λ_ _ _ _ h=>(show False from h).elim⟩
def hD4:=SI (hnew Zf (inl LD Mh 0)) 1
def SB:ko prog hD4:=uM (dX QJ (ck Gk bj bg 0)) 1
def a4f:ic:={LD with O:=XT LD hD4 LD.O 1}
def Sd:iU prog a4f:=⟨Gk.T,Gk.D,Mr Gk SB Gk.O 1,Gk.R,λ_ _ _ _ h=>(show False from h).elim⟩
def Di:cP:=λd e K=> ∃a n c L m hm s fam,d=[.c (.val (.slice a n c)),.c (.int m hm),.c (.val (.bool s))]/\e=[⟨.x fam,true,[],3⟩]/\(n=ln L/\(L=[]\/ ∃r o,a=some ⟨r,o,none⟩/\pg fam (r,o) (bG iX L))/\n<=1000000000000)/\(∀x∈L,Fx fam x)/\
 ∀(o:OL PI) (F:List PI),o.l.Perm F->CX n o.l->ln o.l<=n->K (o.sl 1) [o.blk jp 22,⟨.x (F.map PI.ent),true,[],2⟩]
structure GrI (n k:Nat) (pts:List PT) (o F:List PI):Prop where
 kn:k<=n
 len:ln o=ln pts
 le:ln pts<=k
 perm:o.Perm F
 nd:(F.map PI.r).Nodup
 num:CX k o
structure GrG (n:Nat) where
 k:Nat
 pts:OL PT
 o:OL PI
 F:List PI
 inv:GrI n k pts.l o.l F
def GrI.hit {n a o d f p p2} (h:GrI n k pts o (d++p::f)) (u:a<ln o) (hp:o[a]=p) (hk:k<n) (E: ∀e∈d.map PI.ent++f.map PI.ent,e.a.1≠p2.r) (hl:p2.l.map ZV.x=p.l.map ZV.x++[(k:Int)]):GrI n (k+1) pts (o.set a p2) (d++f++[p2]):=by
 have m:o=o.take a++p::o.drop (a+1):=by rw[<-hp,<-bh u,aF]
 have G:o.set a p2=o.take a++p2::o.drop (a+1):=by rw[cZ,if_pos u]
 have H:(p::(o.take a++o.drop (a+1))).Perm (p::(d++f)):=by have:=h.perm;rw[m] at this;exact(jh.symm.trans this).trans jh
 have I:=H.cons_inv;have D:(o.set a p2).Perm (p2::(o.take a++o.drop (a+1))):=by rw[G];exact jh
 have J:o.Perm (p::(o.take a++o.drop (a+1))):=by have:=(jh (a:=p) (l₁:=o.take a) (l₂:=o.drop (a+1)));rw[<-m] at this;exact this
 refine⟨hk,by rw[aZ];exact h.len,eH h.le,D.trans ((I.cons p2).trans (a0t p2 (d++f)).symm),?_,?_⟩;have B:=h.nd;rw[aV,aI] at B;have j:(d.map PI.r++f.map PI.r).Nodup:=((jh.nodup_iff).1 B).of_cons;rw[aV,aV,a0r,gB];refine⟨j,sp,?_⟩;intro x i y s e;rw[bq] at s;subst s;subst e;rcases aT.1 i with i|i<;>obtain⟨z,A,g⟩:=bD.1 i;exact E z.ent (gc _ (bD.2 ⟨z,A,rfl⟩)) g;exact E z.ent (gG _ (bD.2 ⟨z,A,rfl⟩)) g;have F:=h.num;unfold CX at*;have q:=(J.flatMap_right λp=>p.l.map ZV.x).symm.trans F;refine(D.flatMap_right λp=>p.l.map ZV.x).trans ?_;rw[aL,hl,PG,aV];rw[aL] at q;rw[aJ];refine List.Perm.trans ?_ (q.append_right [(k:Int)]);rw[aJ];exact List.Perm.append_left _ List.perm_append_comm
def GrI.miss {n X Y o j f F q p2} (h:GrI n k pts o F) (u:pts=X++Y) (g:o=j++f) (hk:k<n) (E: ∀e∈F.map PI.ent,e.a.1≠p2.r) (hl:p2.l.map ZV.x=[(k:Int)]):GrI n (k+1) (X++q::Y) (j++p2::f) (F++[p2]):=by have m:=h.le;have d:=h.len;rw[u,g,aa,aa] at d;rw[u,aa] at m;refine⟨hk,by simp only[aa,aS];omega,by simp only[aa,aS];omega,?_,?_,?_⟩;have q:=h.perm;rw[g] at q;exact jh.trans ((q.cons p2).trans (a0t p2 F).symm);rw[aV,a0r,gB];refine⟨h.nd,sp,?_⟩;intro x B y A e;rw[bq] at A;subst A;subst e;obtain⟨z,D,i⟩:=bD.1 B;exact E z.ent (bD.2 ⟨z,D,rfl⟩) i;have s:=h.num;unfold CX at*;rw[g] at s;refine((jh (a:=p2) (l₁:=j) (l₂:=f)).flatMap_right λp=>p.l.map ZV.x).trans ?_;rw[aL,hl,PG,aV];exact List.perm_append_comm.trans (s.append_right _)
def GrI.pl {n o F} (h:GrI n k pts o F) {p} (hp:p∈o):p.n<=n:=by have d:=h.num.length_eq;rw[bO,CR] at d;obtain⟨s,t,rfl⟩:=pi hp;rw[dG,aL,aa,aa,bO] at d;have:=p.hn;have:=h.kn;omega
def GrI.ne {n o g j p} (h:GrI n k pts o (g++p::j)): ∀e∈g.map PI.ent++j.map PI.ent,e.a.1≠p.r:=by have i:=h.nd;rw[aV,aI] at i;have d:=(jh.nodup_iff).1 i;intro e f s;rw[<-aV] at f;obtain⟨q,m,rfl⟩:=bD.1 f;refine(xO.1 d).1 ?_;rw[<-aV];exact bD.2 ⟨q,m,s⟩
def EL (R:RW α) (X Y:List α) (q:α):bG R (X++q::Y)=(bG R X++R.c q)++bG R Y:=by rw[en,bG,aJ]
def Et:bZ false 1 1:=⟨ai _,dc,λh=>by cases h⟩
def mA {t w n m lim cs} (d:bu cs=n*w) (h:bZ nl n cap) (hm:(n+m)*w<=lim):TyX.t t= .t t/\nl=nl/\bu cs=n*w/\(nl=false->bu cs+(cap-n)*w=cap*w)/\(n+m)*w<=lim:=by refine⟨rfl,rfl,d,λ_=> ?_,hm⟩;rw[d,<-Nat.add_mul];have:=h.1;congr 1;omega
def OL.of (l:List α) {n} (h:bZ nl n cap) (e:n=ln l):OL α:=⟨l,nl,cap,e▸h⟩
def OL.of_sl {l:List α} {n:Nat} h (e:n=ln l) (b:Nat) ρ:(SV.c (.sli nl b 0 n cap h)).den ρ=((OL.of l h e).sl b).den ρ:=by subst e;rfl
def OL.of_tl {l:List α} {n:Nat} (h:bZ nl n cap) (e:n=ln l) (R:RW α) (t:TypeId):(cap-n)*R.n=((OL.of l h e).blk R t).tl:=by subst e;rfl
def Oz {n} (h:k<=n) (d:n<=1000000000000):IR (k:Int):=ui
def TA (l:List (LI TR)) (hk:k<ln l):jP false (bG iX l) (k*1) 1=some (.c (.val (.slice l[k].s.a l[k].s.n l[k].s.c))):=by unfold jP;have:=sf iX l hk;rw[aN] at this;rw[show k*1=k*iX.n from rfl,show(1:Nat)=iX.n from rfl,this];rfl
def F0:pd prog 74 Di:=iA Sd bj SB ⟨func74,kr,kr⟩ λb2 b6 K hc=>by
 obtain⟨a,n,c,L,m,hm,s,fam,rfl,rfl,⟨a4,a1,T⟩,a9,hc⟩:=hc;refine⟨λj b5 e=>rfl,?_⟩;conv=>whnf
 refine zK [0,1000+ 33,1000+ 22,1000000] [0,1,2,7,8,9] [1,2] (G:=GrG n) (λg=>[(0,.c (.val (.slice a n c))),(1,.c (.int m hm)),(2,.c (.val (.bool s))),(7,g.pts.sl 1),(8,g.o.sl 2),(9,.c (.int (g.k:Nat) (Oz g.inv.kn T)))]) (λg=>[(0,⟨.x fam,true,[],3⟩),(1,g.pts.blk fp 33),(2,g.o.blk jp 22),(3,⟨.x (g.F.map PI.ent),true,[],2⟩)]) (λg=>n-g.k) ⟨0,OL.none,OL.none,[],⟨ah _,rfl,ai _,.nil,.nil,.nil⟩⟩ trivial ?_;rintro ⟨k,pts,out,F,u⟩ vs2;dsimp only;conv=>whnf
 conv=>arg 2;tactic'=>exact eC rfl rfl rfl rfl rfl rfl (Oz (ai n) T)
 refine zB ?_ ?_<;>intro a0;have D:k<n:=dL a0;have H:k<ln L:=by rw[<-a4];exact D
 obtain⟨r,o,rfl,a5⟩:=a1.resolve_left (λh=>by rw[h] at H;cases H);have hx:=a9 L[k] (ak H);obtain⟨r2,o2,a8,Z⟩:=hx.1.resolve_left (λh=>by have:=hx.2.1;rw[h] at this;cases this);refine A6 ?_;conv=>whnf
 refine .inr ⟨r,o,n,c,k,rfl,rfl,D,?_⟩;refine zl3 ?_;conv=>whnf
 refine .inr ⟨r,o,k*1,0,bG iX L,.c (.val (.slice L[k].s.a L[k].s.n L[k].s.c)),rfl,⟨_,_,_,rfl,rfl,a5⟩,⟨TA L H,ff⟩,?_⟩;refine iT ?_;conv=>whnf
 have X:bZ false L[k].l.length L[k].s.c:=L[k].hn▸hx.2.2;refine .inr ⟨0,false,r2,o2,L[k].l.length,L[k].s.c,X, 58,bG bU L[k].l,0,(by rw[a8,L[k].hn];rfl),.inr ⟨_,_,_,rfl,rfl,Z⟩,⟨ab bU _,trivial⟩,false,L[k].l,L[k].s.c,X,_,m,hm,s,rfl,rfl,λp=> ?_⟩;conv=>whnf
 have i:IR (k:Int):=Oz u.kn T;refine zK [0,1,2,3,5] [0,1,2,7,8,9,10,11] [1,2] (G:={a:Nat//a<=ln pts.l}) (λg=>[(0,.c (.val (.slice (some ⟨r,o,none⟩) n c))),(1,.c (.int m hm)),(2,.c (.val (.bool s))),(7,pts.sl 1),(8,out.sl 2),(9,.c (.int (k:Nat) i)),(10,.c (.ptr 4 0)),(11,.c (.int (g.1:Nat) (aR pts.ok g.2)))]) (λ_=>[(0,⟨.x fam,true,[],3⟩),(1,pts.blk fp 33),(2,out.blk jp 22),(3,⟨.x (F.map PI.ent),true,[],2⟩),(4,(⟨.t 33,false,pC p,0⟩:aY))]) (λg=>ln pts.l-g.1) ⟨0,ah _⟩ trivial ?_;rintro ⟨d,y⟩ vs4;have y:d<=ln pts.l:=y;dsimp only;refine zB ?_ ?_<;>intro a6;have P:d<ln pts.l:=dL a6;have q:IR (d:Int):=aR pts.ok y;refine eS ?_;refine zB ?_ ?_<;>intro hb
 iterate 2
  try
   conv=>whnf
   exact dD [0,1,2,3,4] ⟨d+1,P⟩
  refine zB ?_ ?_<;>intro g0
  have P:d<ln pts.l:=by have:=of_decide_eq_true g0;omega
  have q:IR (d:Int):=aR pts.ok y
  refine eS ?_
  refine zB ?_ ?_<;>intro g1
  have f:d<ln out.l:=by rw[u.len];exact P
  conv=>whnf
  have Y:out.l[d]∈F:=u.perm.mem_iff.1 (ak f)
  obtain⟨F1,F2,rfl⟩:=pi Y
  have b3:out.l[d].n<=1000000000000:=aC (u.pl (ak f)) T
  refine eS ?_
  refine .inr ⟨59,false,out.l[d].r,out.l[d].n,out.l[d].cap,out.l[d].ok,3,F1.map PI.ent,out.l[d].ent,F2.map PI.ent,rfl,rfl,(by show some (⟨.x _,true,[],2⟩:aY)=_;rw[aV];rfl),⟨⟨.inr rfl,(OL.new pts fp _).2,(OL.new out jp _).2,.inr rfl,.inl rfl,.inl rfl,trivial⟩,⟨trivial,trivial,trivial,trivial,trivial,trivial,trivial⟩,u.ne⟩,?_⟩
  refine A6 ?_
  conv=>whnf
  refine .inl ⟨rfl,mA (by show bu (bG bI out.l[d].l)=_;rw[hZ,<-out.l[d].hn];rfl) out.l[d].ok om,λI O=> ?_⟩
  conv=>whnf
  refine .inr ⟨3,7,62,⟨rfl,rfl,cJ (ab bI _) ff⟩,aj rfl,λA z=> ?_⟩
  refine p6 ?_
  conv=>arg 2;tactic'=>exact bM (l:=[.val (.slice (jK false ⟨A,0,none⟩) (out.l[d].n+1) I)]) (cs:=bG jp (out.l.set d (⟨A,out.l[d].n+1,out.l[d].l++[(⟨((k:Nat):Int),i⟩:ZV)],I,(by rw[aa,out.l[d].hn];rfl),O⟩:PI))) rfl rfl rfl rfl (⟨rfl,rfl⟩) rfl (out.nlf (em (ah _) f)) (by exact iH jp out.l f (⟨A,out.l[d].n+1,out.l[d].l++[(⟨((k:Nat):Int),i⟩:ZV)],I,(by rw[aa,out.l[d].hn];rfl),O⟩:PI))
  conv=>whnf
  rw[bV]
  exact dD [0,1,2,3] ⟨k+1,pts,out.put d (⟨A,out.l[d].n+1,out.l[d].l++[(⟨((k:Nat):Int),i⟩:ZV)],I,(by rw[aa,out.l[d].hn];rfl),O⟩:PI),F1++F2++[(⟨A,out.l[d].n+1,out.l[d].l++[(⟨((k:Nat):Int),i⟩:ZV)],I,(by rw[aa,out.l[d].hn];rfl),O⟩:PI)],GrI.hit (p2:=(⟨A,out.l[d].n+1,out.l[d].l++[(⟨((k:Nat):Int),i⟩:ZV)],I,(by rw[aa,out.l[d].hn];rfl),O⟩:PI)) u f rfl D z (by show cg ZV.x (_++[_])=_;rw[aV];rfl)⟩ (hm:=(by show n-(k+1)<n-k;omega)) (h:=λW=>⟨ab fp _,ab jp _,(by(iterate 8 refine⟨fr,?_⟩);refine⟨λj=>out.put_sl d (⟨A,out.l[d].n+1,out.l[d].l++[(⟨((k:Nat):Int),i⟩:ZV)],I,(by rw[aa,out.l[d].hn];rfl),O⟩:PI) 2 j,?_⟩;refine⟨λj=>kM (dr (n:=n) D (Oz (ai n) T)) j,?_⟩;exact gm _),(by exact⟨⟨rfl,rfl,rfl,fr⟩,⟨rfl,rfl,rfl,fr⟩,⟨rfl,rfl,out.put_tl d (⟨A,out.l[d].n+1,out.l[d].l++[(⟨((k:Nat):Int),i⟩:ZV)],I,(by rw[aa,out.l[d].hn];rfl),O⟩:PI) jp _,fr⟩,⟨congrArg TyX.x (by rw[aV,aV];show _=_++[PI.ent _];unfold PI.ent;rw[en];rfl),rfl,rfl,fr⟩,trivial⟩)⟩)
  conv=>whnf
  have q:IR (d:Int):=aR pts.ok y
  have f:d<=ln out.l:=by rw[u.len];exact y
  have R:ln pts.l<=1000000000000:=by have:=u.le;have:=u.kn;omega
  have a7:ln out.l<=1000000000000:=by rw[u.len];exact R
  have E:d<=pts.cap:=aC y pts.ok.1
  have B:d<=out.cap:=aC f out.ok.1
  have s1:dk (bG fp pts.l) 0 (d*3)=some (bG fp (pts.l.take d)):=kN fp pts.l y
  have s2:dk (bG fp pts.l) (gP 0 3 d pts.cap) ((ln pts.l-d)*3)=some (bG fp (pts.l.drop d)):=by have h:=((mj.self fp pts.l).from y pts.ok.1).all;rw[bN] at h;exact h
  have s3:dk (bG jp out.l) 0 (d*1)=some (bG jp (out.l.take d)):=kN jp out.l f
  have s4:dk (bG jp out.l) (gP 0 1 d out.cap) ((ln out.l-d)*1)=some (bG jp (out.l.drop d)):=by have h:=((mj.self jp out.l).from f out.ok.1).all;rw[bN] at h;exact h
  conv=>whnf
  conv=>arg 2;tactic'=>exact fN (k:=d) (hi:=q) rfl rfl rfl rfl E (⟨E,pts.ok.2.1,pts.ok.2.2⟩)
  refine YY ?_
  conv=>whnf
  rw[show dk (pts.blk fp 33).cs 0 (d*3)=_ from s1]
  refine⟨fZ fp _,om,λc1 k1=> ?_⟩
  refine iT ?_
  conv=>whnf
  have V:bu (bG fp (pts.l.take d))=d*3:=fx fp y
  left
  refine A6 ?_
  conv=>whnf
  refine .inl ⟨rfl,mA V k1 om,λc2 k2=> ?_⟩
  refine iT ?_
  conv=>whnf
  conv=>arg 2;tactic'=>exact fO (k:=d) (hi:=q) rfl rfl rfl rfl y
  refine YY ?_
  conv=>whnf
  rw[show dk (pts.blk fp 33).cs (gP 0 3 d pts.cap) ((ln pts.l-d)*3)=_ from s2]
  refine⟨fZ fp _,mA (by rw[cw,V];show d*3+3=_;omega) k2 om,λc3 Q=> ?_⟩
  refine iT ?_
  conv=>whnf
  conv=>arg 2;tactic'=>exact fN (k:=d) (hi:=q) rfl rfl rfl rfl B (⟨B,out.ok.2.1,out.ok.2.2⟩)
  refine YY ?_
  conv=>whnf
  rw[show dk (out.blk jp 22).cs 0 (d*1)=_ from s3]
  refine⟨fZ jp _,om,λc4 k4=> ?_⟩
  refine A6 ?_
  conv=>whnf
  refine .inr ⟨3,10,11,⟨ff,rfl,rfl⟩,λA z=> ?_⟩
  obtain⟨-,-,-,z,-⟩:=z
  conv=>whnf
  have U:bu (bG jp (out.l.take d))=d*1:=fx jp f
  left
  conv=>whnf
  refine .inl ⟨rfl,mA U k4 om,λc5 k5=> ?_⟩
  refine iT ?_
  conv=>whnf
  conv=>arg 2;tactic'=>exact fO (k:=d) (hi:=q) rfl rfl rfl rfl f
  refine YY ?_
  conv=>whnf
  rw[show dk (out.blk jp 22).cs (gP 0 1 d out.cap) ((ln out.l-d)*1)=_ from s4]
  refine⟨fZ jp _,mA (by rw[cw,U];show d*1+1=_;omega) k5 om,λc6 N=> ?_⟩
  refine iT ?_
  conv=>whnf
  have J:d+1+(ln pts.l-d)=(pts.l.take d++p::pts.l.drop d).length:=by rw[aa,aS,aO,bN,cq y];omega
  have M:d+1+(ln out.l-d)=(out.l.take d++(⟨A,1,[(⟨((k:Nat):Int),i⟩:ZV)],1,rfl,Et⟩:PI)::out.l.drop d).length:=by rw[aa,aS,aO,bN,cq f];omega
  exact dD [0,8,13,3] ⟨k+1,OL.of (pts.l.take d++p::pts.l.drop d) Q J,OL.of (out.l.take d++(⟨A,1,[(⟨((k:Nat):Int),i⟩:ZV)],1,rfl,Et⟩:PI)::out.l.drop d) N M,F++[(⟨A,1,[(⟨((k:Nat):Int),i⟩:ZV)],1,rfl,Et⟩:PI)],GrI.miss u (aF d pts.l).symm (aF d out.l).symm D z rfl⟩ (h:=λW=>⟨cJ (cJ (ab fp _) ff) (ab fp _),cJ (cJ (ab jp _) ff) (ab jp _),(by(iterate 7 refine⟨fr,?_⟩);refine⟨λj=>OL.of_sl Q J 1 j,?_⟩;refine⟨λj=>OL.of_sl N M 2 j,?_⟩;refine⟨λj=>kM (dr (n:=n) D (Oz (ai n) T)) j,?_⟩;exact gm _),(by exact⟨⟨rfl,rfl,rfl,fr⟩,⟨rfl,rfl,OL.of_tl Q J fp _,λj=>congrArg (af j) (EL fp _ _ _).symm⟩,⟨rfl,rfl,OL.of_tl N M jp _,λj=>congrArg (af j) (EL jp (out.l.take d) (out.l.drop d) (⟨A,1,[(⟨((k:Nat):Int),i⟩:ZV)],1,rfl,Et⟩:PI)).symm⟩,⟨congrArg TyX.x (by rw[aV];rfl),rfl,rfl,fr⟩,trivial⟩)⟩)
  conv=>whnf
  have q:IR (d:Int):=aR pts.ok y
  have f:d<=ln out.l:=by rw[u.len];exact y
  have R:ln pts.l<=1000000000000:=by have:=u.le;have:=u.kn;omega
  have a7:ln out.l<=1000000000000:=by rw[u.len];exact R
  have E:d<=pts.cap:=aC y pts.ok.1
  have B:d<=out.cap:=aC f out.ok.1
  have s1:dk (bG fp pts.l) 0 (d*3)=some (bG fp (pts.l.take d)):=kN fp pts.l y
  have s2:dk (bG fp pts.l) (gP 0 3 d pts.cap) ((ln pts.l-d)*3)=some (bG fp (pts.l.drop d)):=by have h:=((mj.self fp pts.l).from y pts.ok.1).all;rw[bN] at h;exact h
  have s3:dk (bG jp out.l) 0 (d*1)=some (bG jp (out.l.take d)):=kN jp out.l f
  have s4:dk (bG jp out.l) (gP 0 1 d out.cap) ((ln out.l-d)*1)=some (bG jp (out.l.drop d)):=by have h:=((mj.self jp out.l).from f out.ok.1).all;rw[bN] at h;exact h
  conv=>whnf
  conv=>arg 2;tactic'=>exact fN (k:=d) (hi:=q) rfl rfl rfl rfl E (⟨E,pts.ok.2.1,pts.ok.2.2⟩)
  refine YY ?_
  conv=>whnf
  rw[show dk (pts.blk fp 33).cs 0 (d*3)=_ from s1]
  refine⟨fZ fp _,om,λc1 k1=> ?_⟩
  refine iT ?_
  conv=>whnf
  have V:bu (bG fp (pts.l.take d))=d*3:=fx fp y
  left
  refine A6 ?_
  conv=>whnf
  refine .inl ⟨rfl,mA V k1 om,λc2 k2=> ?_⟩
  refine iT ?_
  conv=>whnf
  conv=>arg 2;tactic'=>exact fO (k:=d) (hi:=q) rfl rfl rfl rfl y
  refine YY ?_
  conv=>whnf
  rw[show dk (pts.blk fp 33).cs (gP 0 3 d pts.cap) ((ln pts.l-d)*3)=_ from s2]
  refine⟨fZ fp _,mA (by rw[cw,V];show d*3+3=_;omega) k2 om,λc3 Q=> ?_⟩
  refine iT ?_
  conv=>whnf
  conv=>arg 2;tactic'=>exact fN (k:=d) (hi:=q) rfl rfl rfl rfl B (⟨B,out.ok.2.1,out.ok.2.2⟩)
  refine YY ?_
  conv=>whnf
  rw[show dk (out.blk jp 22).cs 0 (d*1)=_ from s3]
  refine⟨fZ jp _,om,λc4 k4=> ?_⟩
  refine A6 ?_
  conv=>whnf
  refine .inr ⟨3,10,11,⟨ff,rfl,rfl⟩,λA z=> ?_⟩
  obtain⟨-,-,-,z,-⟩:=z
  conv=>whnf
  have U:bu (bG jp (out.l.take d))=d*1:=fx jp f
  left
  conv=>whnf
  refine .inl ⟨rfl,mA U k4 om,λc5 k5=> ?_⟩
  refine iT ?_
  conv=>whnf
  conv=>arg 2;tactic'=>exact fO (k:=d) (hi:=q) rfl rfl rfl rfl f
  refine YY ?_
  conv=>whnf
  rw[show dk (out.blk jp 22).cs (gP 0 1 d out.cap) ((ln out.l-d)*1)=_ from s4]
  refine⟨fZ jp _,mA (by rw[cw,U];show d*1+1=_;omega) k5 om,λc6 N=> ?_⟩
  refine iT ?_
  conv=>whnf
  have J:d+1+(ln pts.l-d)=(pts.l.take d++p::pts.l.drop d).length:=by rw[aa,aS,aO,bN,cq y];omega
  have M:d+1+(ln out.l-d)=(out.l.take d++(⟨A,1,[(⟨((k:Nat):Int),i⟩:ZV)],1,rfl,Et⟩:PI)::out.l.drop d).length:=by rw[aa,aS,aO,bN,cq f];omega
  exact dD [0,8,13,3] ⟨k+1,OL.of (pts.l.take d++p::pts.l.drop d) Q J,OL.of (out.l.take d++(⟨A,1,[(⟨((k:Nat):Int),i⟩:ZV)],1,rfl,Et⟩:PI)::out.l.drop d) N M,F++[(⟨A,1,[(⟨((k:Nat):Int),i⟩:ZV)],1,rfl,Et⟩:PI)],GrI.miss u (aF d pts.l).symm (aF d out.l).symm D z rfl⟩ (h:=λW=>⟨cJ (cJ (ab fp _) ff) (ab fp _),cJ (cJ (ab jp _) ff) (ab jp _),(by(iterate 7 refine⟨fr,?_⟩);refine⟨λj=>OL.of_sl Q J 1 j,?_⟩;refine⟨λj=>OL.of_sl N M 2 j,?_⟩;refine⟨λj=>kM (dr (n:=n) D (Oz (ai n) T)) j,?_⟩;exact gm _),(by exact⟨⟨rfl,rfl,rfl,fr⟩,⟨rfl,rfl,OL.of_tl Q J fp _,λj=>congrArg (af j) (EL fp _ _ _).symm⟩,⟨rfl,rfl,OL.of_tl N M jp _,λj=>congrArg (af j) (EL jp (out.l.take d) (out.l.drop d) (⟨A,1,[(⟨((k:Nat):Int),i⟩:ZV)],1,rfl,Et⟩:PI)).symm⟩,⟨congrArg TyX.x (by rw[aV];rfl),rfl,rfl,fr⟩,trivial⟩)⟩)
 obtain rfl:k=n:=bo u.kn (gi a0);exact zO [0,2,3] [1] (hc out F u.perm u.num (by have:=u.len;have:=u.le;omega))
end
section
variable {p:PI} {A:List TR}
def fiX:List (FuncId×cP):=[(74,Di)]
def a1P:vB prog fiX:= .cons F0 .nil
def fiS:List (FuncId×cP):=[(110,IL)]
def a1O:iL prog fiS:= .cons Lt .nil
def ZA:ic:={vA 0 s9 with O:=XS (En qo (lR qo)) 1}
def Gl:iU prog ZA:=⟨(cm eR 0).T,(cm eR 0).D,Er (nH eD (gy eD)) 1,(cm eR 0).R,λ_ _ _ _ h=>(show False from h).elim⟩
def hD6:=Xc a2J (a18 OQ (LV fiX (hnew fiS (inl ZA Mh 0))))
def a13:ko prog hD6:=D0 Mt (LS yb Ms (qJ a1P (dX a1O (ck Gl bj bg 0))))
def Le:cP:=λd e K=> ∃f A cA hA0 tA b hb m hm,d=[.c (.sli f 0 0 (ln A) cA hA0),.c (.int b hb),.c (.int m hm)]/\e=[⟨.t tA,true,bG bU A,0⟩]/\ln A<=100000/\
 ∀(o:OL (LI TR)) fam,PV fam m A o.l->jH o.l=ln A->K (o.sl 1) [o.blk iX 53,⟨.x fam,true,[],2⟩]
structure a6G (A:List TR) where
 o:OL (LI TR)
 fam:List mq
 hk:ln o.l<=ln A
 tr: ∀x∈o.l,Fx fam x
def a2k {fam} t {r}:Fx (fam++[⟨(r,0),qd t, 58,0⟩]) ⟨⟨some ⟨r,0,none⟩,1,1⟩,[t],rfl⟩:=⟨.inr ⟨r,0,rfl,pg.right ⟨_,bq.2 rfl,rfl,rfl⟩⟩,ai _,Et⟩
def xh {d:Type} (a b:List (LI d)):jH (a++b)=jH a+jH b:=by unfold jH;simp
def JR {n l} (h:CX n l) (hp:p∈l) {z} (f:z∈p.l): ∃q:Nat,z.x=(q:Int)/\q<n:=by have e:z.x∈l.flatMap λp=>p.l.map ZV.x:=gU.2 ⟨p,hp,bD.2 ⟨z,f,rfl⟩⟩;obtain⟨q,g,d⟩:=bD.1 (h.mem_iff.1 e);exact⟨q,d.symm,jG.1 g⟩
def Mm {n l} (h:CX n l):(l.map PI.n).sum=n:=by have d:=h.length_eq;rw[bO,CR,List.length_flatMap] at d;rw[<-d];congr 1;exact iK λp _=>by rw[bO];exact p.hn
def Ml {n l} (h:CX n l) (hp:p∈l):p.n<=n:=by have d:=h.length_eq;rw[bO,CR] at d;obtain⟨s,t,rfl⟩:=pi hp;rw[dG,aL,aa,aa,bO] at d;have:=p.hn;omega
def UF {l k} (hk:k<ln l):((l.take (k+1)).map PI.n).sum=((l.take k).map PI.n).sum+l[k].n:=by rw[<-List.take_append_getElem hk,aV,PH];simp
def a3e {n l} (h:CX n l) k:((l.take k).map PI.n).sum<=n:=by have:=Mm h;rw[<-aF k l,aV,PH] at this;omega
def Z4 {o F:List PI} (h:o.Perm F) (hp:p∈o):pg (F.map PI.ent) (p.r,0) (bG bI p.l):=⟨p.ent,bD.2 ⟨p,h.mem_iff.1 hp,rfl⟩,rfl,rfl⟩
def Co l {k} (hk:k<ln l):jP false (bG bI l) (k*1) 1=some (.c (.int l[k].x l[k].hx)):=by unfold jP;have:=sf bI l hk;rw[aN] at this;rw[show k*1=k*bI.n from rfl,show(1:Nat)=bI.n from rfl,this];rfl
structure a6H (A:List TR) (m:Int) (og:List PI) where
 k:Nat
 o:OL (LI TR)
 fam:List mq
 hk:k<=ln og
 sp:PV fam m A o.l
 sum:jH o.l=((og.take k).map PI.n).sum
 cnt:ln o.l<=jH o.l
def E8 {fam m A}: ∀{l},PV fam m A l->ln l<=jH l
 |[],_=>ai _
 |x::l,h=>by have f:=(h x aP).1.2.1;have e:=E8 (l:=l) λy d=>h y (aD _ d);unfold jH at*;rw[aS,aI,KN];omega
def PV.app {f g m S a b} (h:PV f m A a) (k:PV g m S b) (hS: ∀t∈S,t∈A):PV (f++g) m A (a++b):=λx d=>by rcases aT.1 d with d|d;exact⟨(h x d).1.mono ⟨g,rfl⟩,(h x d).2⟩;obtain⟨⟨i,q⟩,z,u⟩:=k x d;refine⟨⟨?_,q⟩,z,λt j=> ?_⟩;rcases i with i|⟨r,o,e1,e2⟩;exact .inl i;exact .inr ⟨r,o,e1,e2.right⟩;obtain⟨s,y,e⟩:=u t j;exact⟨s,hS s y,e⟩
def RA:jv prog 78 Le:=cV Gl bj a13 ⟨func78,kr,kr⟩ λc1 c5 K hc=>by
 obtain⟨nA,A,cA,e,tA,b,hb,m,hm,rfl,rfl,W,hc⟩:=hc;have s:cC (bG bU A):=ab bU A;refine⟨zD,?_⟩;conv=>whnf
 refine fC (G:=a6G A×(Nat->Value)) (λg=>.c (.sli nA 0 0 (ln A) cA e):: .c (.int b hb):: .c (.int m hm)::tn g.2 3 4 (g.1.o.sl 1:: .c (.int (ln g.1.o.l:Nat) (aR e g.1.hk))::tn g.2 9 56 [])) (λg=>[⟨.t tA,true,bG bU A,0⟩,g.1.o.blk iX 53,⟨.x g.1.fam,true,[],2⟩]) (λg=>ln A-ln g.1.o.l) ?_ ?_;exact⟨[0,1000+ 53,1000000],[0,1,2,7,8],[0],λb3=>⟨s,_,_,(by(iterate 9 refine⟨fr,?_⟩);exact gm _),(by exact⟨⟨rfl,rfl,rfl,fr⟩,⟨rfl,rfl,rfl,fr⟩,⟨rfl,rfl,rfl,fr⟩,trivial⟩),(⟨OL.none,[],ah _,(λx O=>by cases O)⟩,b3),rfl,rfl⟩⟩;rintro⟨⟨o,fam,hk,a2⟩,c7⟩;dsimp only;refine zB ?_ ?_<;>intro a5;have N:ln o.l<ln A:=dL a5;have H:IR ((ln o.l:Nat):Int):=aR e hk;conv=>whnf
 conv=>arg 2;tactic'=>exact be (k:=ln o.l) (hi:=H) rfl rfl rfl rfl N
 conv=>whnf
 conv=>arg 2;tactic'=>exact ap rfl rfl rfl rfl ((mj.self bU A).get N) rfl
 conv=>whnf
 refine .inr ⟨2,3,4,⟨ff,rfl,rfl⟩,λr9 c4=> ?_⟩;refine A6 ?_;exact⟨rfl,o.app iX 53 (m:=1) (by show(ln o.l+1)*1<=5000000000000;omega),λB E=>⟨[0,5,2],[0,1,2,7,8],[0,1],λa8=>⟨s,cJ (ab iX _) ff,_,_,(by(iterate 7 refine⟨fr,?_⟩);refine⟨λI=>o.push_sl (n:=1) [(⟨⟨some ⟨r9,0,none⟩,1,1⟩,[A[ln o.l]],rfl⟩:LI TR)] rfl B E 1 I,?_⟩;refine⟨λI=>kM (by show IntKind.i64.wrap _=(((o.l++[_]).length:Nat):Int);rw[dr (n:=ln A) N e.ir,aa];rfl) I,?_⟩;exact gm _),(by exact⟨⟨rfl,rfl,rfl,fr⟩,o.push_blk iX 53 (n:=1) [(⟨⟨some ⟨r9,0,none⟩,1,1⟩,[A[ln o.l]],rfl⟩:LI TR)] rfl B E fr,⟨rfl,rfl,rfl,fr⟩,trivial⟩),(⟨(o.push [(⟨⟨some ⟨r9,0,none⟩,1,1⟩,[A[ln o.l]],rfl⟩:LI TR)] rfl B E),(fam++[⟨(r9,0),qd A[ln o.l], 58,0⟩]),(by show(o.l++[_]).length<=_;rw[aa];exact N),(λx O=>dH (p:=Fx _) (λx O=>(a2 x O).mono ⟨_,rfl⟩) (a2k _) O)⟩,a8),(by show (ln A)-(o.l++[_]).length<_;rw[aa];show (ln A)-(ln o.l+1)<_;omega),rfl,rfl⟩⟩⟩;have b8:ln A<=ln o.l:=gi a5;have b5:ln o.l=ln A:=bo hk b8;conv=>whnf
 refine .inr ⟨2,1,0,⟨rfl,rfl,ab iX _,λh=>OL.nil_cs h⟩,aj rfl,λr8 f8 b9 V=>⟨2,.inl rfl,trivial,jK o.nl ⟨r8,0,none⟩,ln o.l,o.cap,o.l,b,hb,false,f8,rfl,rfl,⟨rfl,OL.li_in V dc,om⟩,λx O=>(a2 x O).mono b9,λd Fg a6 i _=> ?_⟩⟩;refine iT ?_;conv=>whnf
 rw[b5] at i;refine fC (G:=a6H A m d.l×(Nat->Value)) (λg=>.c (.sli nA 0 0 (ln A) cA e):: .c (.int b hb):: .c (.int m hm)::tn g.2 3 6 (d.sl 1::g.1.o.sl 3:: .c (.int (g.1.k:Nat) (aR d.ok g.1.hk))::tn g.2 12 53 [])) (λg=>[⟨.t tA,true,bG bU A,0⟩,d.blk jp 22,⟨.x (Fg.map PI.ent),true,[],2⟩,g.1.o.blk iX 53,⟨.x g.1.fam,true,[],2⟩]) (λg=>ln d.l-g.1.k) ?_ ?_;exact⟨[0,3,4,1000+ 53,1000000],[0,1,2,9,10,11],[0,1],λc0=>⟨s,ab jp _,_,_,(by(iterate 12 refine⟨fr,?_⟩);exact gm _),(by exact⟨⟨rfl,rfl,rfl,fr⟩,⟨rfl,rfl,rfl,fr⟩,⟨rfl,rfl,rfl,fr⟩,⟨rfl,rfl,rfl,fr⟩,⟨rfl,rfl,rfl,fr⟩,trivial⟩),(⟨0,OL.none,[],ah _,(λx O=>by cases O),rfl,ai _⟩,c0),rfl,rfl⟩⟩;rintro⟨⟨k,o2,fo,Y,R,y,a0⟩,c3⟩;dsimp only;refine zB ?_ ?_<;>intro U;have f:k<ln d.l:=dL U;have H:IR (k:Int):=aR d.ok Y;have F:d.l[k]∈d.l:=ak f;have P:d.l[k].n<=ln A:=Ml i F;have Z:IR ((d.l[k].n:Nat):Int):=aR e P;conv=>whnf
 refine fC (G:={q:Nat×OL TR//q.1<=d.l[k].n/\ln q.2.l=q.1/\ ∀t∈q.2.l,t∈A}×(Nat->Value)) (λg=>.c (.sli nA 0 0 (ln A) cA e):: .c (.int b hb):: .c (.int m hm)::tn g.2 3 6 (d.sl 1::o2.sl 3:: .c (.int (k:Nat) H)::g.1.1.2.sl 5:: .c (.int (g.1.1.1:Nat) (aR e (aC g.1.2.1 P)))::tn g.2 14 51 [])) (λg=>[⟨.t tA,true,bG bU A,0⟩,d.blk jp 22,⟨.x (Fg.map PI.ent),true,[],2⟩,o2.blk iX 53,⟨.x fo,true,[],2⟩,g.1.1.2.blk bU 58]) (λg=>d.l[k].n-g.1.1.1) ?_ ?_;exact⟨[0,1,2,3,4,1000+ 58],[0,1,2,9,10,11,12,13],[0,1,3],λa7=>⟨s,ab jp _,ab iX _,_,_,(by(iterate 14 refine⟨fr,?_⟩);exact gm _),(by(iterate 6 refine⟨⟨rfl,rfl,rfl,fr⟩,?_⟩);exact trivial),(⟨(0,OL.none),ah _,rfl,(λt ht=>by cases ht)⟩,a7),rfl,rfl⟩⟩;rintro⟨⟨⟨j,z⟩,hj,J,D⟩,d1⟩;have hj:j<=d.l[k].n:=hj;have J:ln z.l=j:=J;have D: ∀t∈z.l,t∈A:=D;dsimp only;conv=>whnf
 conv=>arg 2;tactic'=>exact be (k:=k) (hi:=H) rfl rfl rfl rfl f
 conv=>whnf
 conv=>arg 2;tactic'=>exact ap rfl rfl rfl rfl ((mj.self jp d.l).get f) rfl
 conv=>whnf
 conv=>arg 2;tactic'=>exact eC rfl rfl rfl rfl rfl rfl Z
 refine zB ?_ ?_<;>intro T;have M:j<d.l[k].n:=dL T;have a1:j<d.l[k].l.length:=by rw[<-d.l[k].hn];exact M
 have c8:IR (j:Int):=aR e (aC hj P);obtain⟨q,hq,L⟩:=JR i F (ak a1);have b7:IR (q:Int):=aR e (bw L);conv=>whnf
 conv=>arg 2;tactic'=>exact be (k:=k) (hi:=H) rfl rfl rfl rfl f
 conv=>whnf
 conv=>arg 2;tactic'=>exact ap rfl rfl rfl rfl ((mj.self jp d.l).get f) rfl
 refine iT ?_;conv=>whnf
 refine .inr ⟨d.l[k].r,0,d.l[k].n,d.l[k].cap,j,rfl,rfl,M,?_⟩;refine iT ?_;conv=>whnf
 refine .inr ⟨d.l[k].r,0,j*1,2,bG bI d.l[k].l,.c (.int d.l[k].l[j].x d.l[k].l[j].hx),rfl,⟨_,_,_,rfl,rfl,Z4 a6 F⟩,⟨Co d.l[k].l a1,ff⟩,?_⟩;conv=>whnf
 conv=>arg 2;tactic'=>exact be (k:=q) (hi:=b7) rfl rfl rfl (eA hq) L
 conv=>whnf
 conv=>arg 2;tactic'=>exact ap rfl rfl rfl rfl ((mj.self bU A).get L) rfl
 refine zl3 ?_;exact⟨rfl,z.app bU 58 (m:=1) (by show(ln z.l+1)*9<=5000000000000;omega),λB E=>⟨[0,1,2,3,4,7],[0,1,2,9,10,11,12,13],[0,1,3,5],λb6=>⟨s,ab jp _,ab iX _,cJ (ab bU _) ff,_,_,(by(iterate 12 refine⟨fr,?_⟩);refine⟨λI=>z.push_sl (n:=1) [A[q]] rfl B E 5 I,?_⟩;refine⟨λI=>kM (dr (n:=d.l[k].n) M Z) I,?_⟩;exact gm _),(by(iterate 5 refine⟨⟨rfl,rfl,rfl,fr⟩,?_⟩);refine⟨z.push_blk bU 58 (n:=1) [A[q]] rfl B E fr,?_⟩;exact trivial),(⟨(j+1,z.push [A[q]] rfl B E),M,(by show(z.l++[_]).length=_;rw[aa,J];rfl),(λt ht=>dH (p:=λt=>t∈A) D (ak L) ht)⟩,b6),(by show d.l[k].n-(j+1)<d.l[k].n-j;omega),rfl,rfl⟩⟩⟩;have X:d.l[k].n<=j:=gi T;obtain rfl:j=d.l[k].n:=bo hj X;conv=>whnf
 refine .inl ⟨⟨ab bU _,trivial⟩,z.nl,z.l,z.cap,z.ok,_,m,hm,rfl,rfl,om,λu fs Q a9=> ?_⟩;conv=>whnf
 refine .inr ⟨4,7,?_⟩;conv=>whnf
 have d0:ln o2.l<=100000:=aC a0 (by rw[y];exact aC (a3e i k) W);have c6:ln u.l<=100000:=aC (E8 Q) om;left;refine A6 ?_;conv=>whnf
 rw[show dk (u.blk iX 53).cs 0 (ln u.l*1)=some (bG iX u.l) from gQ iX u.l];exact⟨fZ iX _,o2.app iX 53 (m:=ln u.l) (by show(ln o2.l+ln u.l)*1<=5000000000000;omega),λB E=>⟨[0,1,2,8,4],[0,1,2,9,10,11],[0,1,3],λb2=>⟨s,ab jp _,cJ (ab iX _) (ab iX _),_,_,(by(iterate 10 refine⟨fr,?_⟩);refine⟨λI=>o2.push_sl (n:=ln u.l) u.l rfl B E 3 I,?_⟩;refine⟨λI=>kM (dr (n:=ln d.l) f d.ok.ir) I,?_⟩;exact gm _),(by exact⟨⟨rfl,rfl,rfl,fr⟩,⟨rfl,rfl,rfl,fr⟩,⟨rfl,rfl,rfl,fr⟩,o2.push_blk iX 53 (n:=ln u.l) u.l rfl B E fr,⟨rfl,rfl,rfl,fr⟩,trivial⟩),(⟨k+1,o2.push u.l (n:=ln u.l) rfl B E,fo++fs,f,R.app Q D,(by show jH (o2.l++u.l)=_;rw[xh,UF f,y,a9,J]),E8 (R.app Q D)⟩,b2),(by show (ln d.l)-(k+1)<ln d.l-k;omega),rfl,rfl⟩⟩⟩;have a4:ln d.l<=k:=gi U;obtain rfl:k=ln d.l:=bo Y a4;rw[bP,Mm i] at y;exact⟨[0,3,4],[0,1],λc2=>⟨s,ab iX _,_,[o2.blk iX 53,⟨.x fo,true,[],2⟩],rfl,⟨⟨rfl,rfl,rfl,fr⟩,⟨rfl,rfl,rfl,fr⟩,⟨rfl,rfl,rfl,fr⟩,trivial⟩,⟨OL.new _ iX _,⟨⟨rfl,ff⟩,.inr rfl⟩,trivial⟩,o2.sl 1,fr,hc o2 fo R y⟩⟩
end
section
variable {x y z p:Nat} {bs:List Bool} {nx:List ZV}
def D6 (x y z:Int):ZV:=Vg (wr ix (wr ix (wr ix (z*5)+y)*5)+x)
def a3X:cP:=λd e K=> ∃(l:Int) (hl:_) (x:Int) (hx:_) (y:Int) (hy:_) (z:Int) (hz:_),d=[.c (.int l hl),.c (.int x hx),.c (.int y hy),.c (.int z hz)]/\e=[]/\l=2/\K (.c (.int (D6 x y z).x (D6 x y z).hx)) []
def a1i:jv prog 113 a3X:=cV (dK 0) bj (ck (dK 0) bj bg 0) ⟨func113,kr,kr⟩ λe g K d=>by obtain⟨l,h,x,i,y,j,z,k,rfl,rfl,rfl,d⟩:=d;refine⟨zD,?_⟩;exact⟨[],[],λf=>⟨_,[],rfl,trivial,trivial,.c (.int (D6 x y z).x (D6 x y z).hx),λm=>rfl,d⟩⟩
noncomputable def RR:Dr
 |[.c (.int l _),.c (.int x _),.c (.int y _),.c (.int z _)],_=>some (some (l=2),.c (.int (D6 x y z).x (D6 x y z).hx))
 |_,_=>none
def a24:CY prog 113 RR:=pS a1i λh q p v e=>by unfold RR at e;split at e;rename_i l f x j y g z k;cases e;refine⟨ff,λm=> ?_⟩;have d:=m _ rfl;refine⟨[.c (.int l f),.c (.int x j),.c (.int y g),.c (.int z k)],[],[],⟨l,f,x,j,y,g,z,k,rfl,rfl,d,fr⟩,trivial,trivial,fr,λi b o=> ?_⟩;simp[an] at o;cases e
noncomputable def a5r:List (FuncId×Dr):=[(113,RR)]
def X6:nN a5r:= .cons a24 .nil
noncomputable def Sj (un:Nat):ic:=p7 (yZ un) a5r
def ox (un:Nat):iU prog (Sj un):=jM (dK un) X6
def Xg (hx:x<5) (hy:y<5) (d:z<5):(D6 x y z).x=(((z*5+y)*5+x:Nat):Int):=by show wr ix (wr ix (wr ix (wr ix ((z:Int)*5)+y)*5)+x)=_;rw[cN (z:=(z:Int)*5) ui,cN (z:=(z:Int)*5+y) ui,cN (z:=((z:Int)*5+y)*5) ui,cN ui];omega
def qM (hx:x<5) (hy:y<5) (d:z<5):(z*5+y)*5+x<125:=om
def uP {a b c:Int} (d:a=(x:Int)) (hb:b=(y:Int)) (e:c=(z:Int)) (hx:x<5) (hy:y<5) (f:z<5):(D6 a b c).x=(((z*5+y)*5+x:Nat):Int):=by rw[d,hb,e];exact Xg hx hy f
def fj {a:Nat} (hx:x<4) (d:a<2):wr ix ((x:Int)+(a:Int))=((x+a:Nat):Int):=by rw[cN ui];omega
def lJ (hp:p<ln bs) b:ga (gZ bs nx) (p*1) [.val (.bool b)]=some (gZ (bs.set p b) nx):=by
 have e:=km bY hp;have s:bu (bG bY (bs.take p))=p*1:=by rw[fx bY (bw hp)];rfl
 have d:gZ bs nx=bG bY (bs.take p)++(bY.c bs[p]++(bG bY (bs.drop (p+1))++bG bI nx)):=by unfold gZ;rw[e,aJ,aJ]
 rw[d,<-s,jt _ (bY.c bs[p]) _ [.val (.bool b)] rfl];unfold gZ;rw[cZ,if_pos hp,en,aJ];rfl
def uq (hp:p<ln bs) b:ga (bG bY bs) (0+p*1) [.val (.bool b)]=some (bG bY (bs.set p b)):=by
 have e:=km bY hp;have s:bu (bG bY (bs.take p))=0+p*1:=by rw[fx bY (bw hp),aN];rfl
 rw[e,<-s,jt _ (bY.c bs[p]) _ [.val (.bool b)] rfl,cZ,if_pos hp,en];rfl
def Z0:ZV:=⟨0,dc⟩
def Tr:List ZV:=au 24 Z0
def a7J:PL Tr:=⟨rfl,λz d=>by rw[a6J d];decide⟩
def bs0:List Bool:=au 8 false
def a7R:List Bool:=au 24 false
def VZ {l:List Bool} (hp:p<ln l) (h:l[p]=false):(l.set p true).count false+1=l.count false:=by
 have e:l=l.take p++(l[p]::l.drop (p+1)):=by rw[<-bh hp,aF]
 rw[cZ,if_pos hp];conv=>rhs;rw[e,h]
 simp[List.count_append];omega
def sH {k:Nat} (h:k<=24):IR (k:Int):=ui
def mQ {k:Nat} (h:k<24):wr ix ((k:Int)+1)=((k+1:Nat):Int):=by rw[cN ui];omega
structure TrG where
 e:Nat
 o:OL TR
 sn:List Bool
 he:e<=24
 hs:ln sn=24
 hn:ln o.l<=24*e
 ho: ∀t∈o.l,mm 2621440 t
structure CyG where
 x:ZV
 o:OL PT
 sn:List Bool
 hx:0<=x.x/\x.x<24
 hs:ln sn=24
 hn:ln o.l+sn.count false<=24
 ho: ∀p∈o.l,xP 2621440 p
def Ts (h:PL nx) {q:Nat} (d:q<24):q<ln nx:=by rw[h.1];exact d
def Zr:cP:=λd e K=> ∃(f IN nI:_) (cI:Nat) (hI:_) (x y z:Nat) (hx hy hz h2:_),d=[.agg [.int 2 h2,.sli nI 0 0 (ln IN) cI hI],.agg [.int x hx,.int y hy,.int z hz]]/\e=[⟨.t f,true,bG bY IN,0⟩]/\(ln IN=125/\x<4/\y<4/\z<4)/\
 ∀o:OL TR,ln o.l<=576->(∀t∈o.l,mm 2621440 t)->K (o.sl 1) [o.blk bU 58]
noncomputable def hN5:=hat [135] (mix c8C (yZ 0) fx8 3)
def a17:ko prog hN5:=ze (qV a0M (dK 0) bj a1S 3)
def a1n:jv prog 112 Zr:=cV (ox 0) bj a17 ⟨func112,kr,kr⟩ λc1 c6 K hc=>by
 obtain⟨tI,i,nI,cI,L,x,y,z,hx,hy,hz,h2,rfl,rfl,⟨s,E,D,F⟩,hc⟩:=hc;have a6:cC (bG bY i):=ab bY i;refine⟨zD,?_⟩;conv=>whnf
 refine zK [0,1,2,3] [2,3,5,6] [0,3] (G:={q:Nat×List Bool//q.1<=8/\ln q.2=8}) (λg=>[(6,.c (.int (g.1.1:Nat) (sH (by have:=g.2.1;omega))))]) (λg=>[(3,⟨199,false,gZ g.1.2 Tr,0⟩)]) (λg=>8-g.1.1) ⟨(0,bs0),ah _,rfl⟩ trivial ?_;rintro ⟨⟨k,bs⟩,U,f⟩ vs2;have U:k<=8:=U;have f:ln bs=8:=f;dsimp only;have T:k=8\/k=0\/k=1\/k=2\/k=3\/k=4\/k=5\/k=6\/k=7:=om;rcases T with rfl|rfl|rfl|rfl|rfl|rfl|rfl|rfl|rfl;conv=>whnf
 refine zK [0,1,2,3] [2,3,5,7] [0,3] (G:={q:Nat×List ZV//q.1<=24/\PL q.2}) (λg=>[(7,.c (.int (g.1.1:Nat) (sH g.2.1)))]) (λg=>[(3,⟨199,false,gZ bs g.1.2,0⟩)]) (λg=>24-g.1.1) ⟨(0,Tr),ah _,a7J⟩ trivial ?_;rintro ⟨⟨k,nx⟩,U,u⟩ vs5;have U:k<=24:=U;have u:PL nx:=u;dsimp only;refine zB ?_ ?_<;>intro X;have a5:(k:Int)<24:=of_decide_eq_true X;have h:k<24:=om;have c0:k<ln nx:=Ts u h;conv=>whnf
 conv=>arg 2;tactic'=>exact gR (k:=k) (hi:=sH U) rfl rfl rfl rfl h
 conv=>whnf
 conv=>arg 2;tactic'=>exact bM (l:=[.int (-1) dc]) (cs:=gZ bs (nx.set k ⟨-1,dc⟩)) rfl rfl rfl rfl (⟨rfl,rfl⟩) rfl rfl (by exact kC f c0 ⟨-1,dc⟩)
 conv=>whnf
 rw[bV];exact nq [0,1,2,3] ⟨(k+1,nx.set k ⟨-1,dc⟩),h,u.set k ⟨dc,dc⟩⟩ (pc (mQ h));have a2: ¬(k:Int)<24:=of_decide_eq_false X;conv=>whnf
 refine zK [0,1,2,3] [2,3,5,8] [0,3] (G:={q:Nat×List ZV//q.1<=3/\PL q.2}) (λg=>[(8,.c (.int (g.1.1:Nat) (sH (by have:=g.2.1;omega))))]) (λg=>[(3,⟨199,false,gZ bs g.1.2,0⟩)]) (λg=>3-g.1.1) ⟨(0,nx),ah _,u⟩ trivial ?_;rintro ⟨⟨k,nx⟩,V,u⟩ vs8;have V:k<=3:=V;have u:PL nx:=u;dsimp only;refine zB ?_ ?_<;>intro W;have b3:(k:Int)<3:=of_decide_eq_true W;have I:k<3:=om;conv=>whnf
 refine .mk (LJ (ax:=k) (ps:=false) trivial I f u (λb5 Y ex=> ?_));refine .inr ⟨[0,1,2,3],[0],[0,3],λc4=>⟨a6,dw _ _,[.tup []],[⟨.t tI,true,bG bY i,0⟩,⟨128,false,[.int 2 h2,.sli nI 0 0 (ln i) cI L],0⟩,⟨168,false,[.int x hx,.int y hy,.int z hz],0⟩,⟨199,false,gZ bs b5,0⟩],⟨fr,trivial⟩,⟨⟨rfl,rfl,rfl,fr⟩,⟨rfl,rfl,rfl,fr⟩,⟨rfl,rfl,rfl,fr⟩,⟨rfl,rfl,rfl,fr⟩,trivial⟩,?_⟩⟩;conv=>whnf
 refine .mk (LJ (ax:=k) (ps:=true) trivial I f Y (λa1 a9 c5=> ?_));exact .inr ⟨[0,1,2,3],[0],[0,3],λc3=>⟨a6,dw _ _,[.tup []],[⟨.t tI,true,bG bY i,0⟩,⟨128,false,[.int 2 h2,.sli nI 0 0 (ln i) cI L],0⟩,⟨168,false,[.int x hx,.int y hy,.int z hz],0⟩,⟨199,false,gZ bs a1,0⟩],⟨fr,trivial⟩,⟨⟨rfl,rfl,rfl,fr⟩,⟨rfl,rfl,rfl,fr⟩,⟨rfl,rfl,rfl,fr⟩,⟨rfl,rfl,rfl,fr⟩,trivial⟩,nq [0,1,2,3] ⟨(k+1,a1),I,a9⟩ (pc (mQ (by omega:k<24)))⟩⟩;have b3: ¬(k:Int)<3:=of_decide_eq_false W;obtain rfl:k=3:=om;conv=>whnf
 refine zK [0,1,2,3,4,1000+ 58] [3,5,9,10,11,12] [0,3,4,5] (G:=TrG) (λg=>[(10,g.o.sl 5),(12,.c (.int (g.e:Nat) (sH g.he)))]) (λg=>[(4,⟨201,false,bG bY g.sn,0⟩),(5,g.o.blk bU 58)]) (λg=>24-g.e) ⟨0,OL.none,a7R,ah _,rfl,ah _,(λt M=>by cases M)⟩ trivial ?_;rintro ⟨k,o,sn,he,hs,hn,ho⟩ vw2;dsimp only;refine zB ?_ ?_<;>intro a8;have a5:(k:Int)<24:=of_decide_eq_true a8;have h:k<24:=om;conv=>whnf
 refine zK [0,1,2,3,4,5,1000+ 33] [3,5,9,10,11,12,13,14] [0,3,4,5,6] (G:=CyG) (λg=>[(13,g.o.sl 6),(14,.c (.int g.x.x g.x.hx))]) (λg=>[(4,⟨201,false,bG bY g.sn,0⟩),(6,g.o.blk fp 33)]) (λg=>g.sn.count false) ⟨⟨(k:Int),sH he⟩,OL.none,sn,⟨by show(0:Int)<=(k:Int);omega,by show(k:Int)<24;omega⟩,hs,(by show 0+sn.count false<=24;have:=List.count_le_length (a:=false) (l:=sn);omega),(λt M=>by cases M)⟩ trivial ?_;rintro ⟨x9,o2,A,a0,H,c7,Q⟩ vw4;dsimp only;obtain⟨q,hq,j⟩:=Js a0;have P:q<ln nx:=Ts u j;have Z:q<ln A:=by rw[H];exact j
 conv=>whnf
 conv=>arg 2;tactic'=>exact gR (k:=q) (hi:=sH (bw j)) rfl rfl rfl (eA hq) j
 conv=>whnf
 conv=>arg 2;tactic'=>exact ap rfl rfl rfl rfl ((Rh nx f).get P) rfl
 refine zB ?_ ?_<;>intro b9;conv=>whnf
 conv=>arg 2;tactic'=>exact gR (k:=q) (hi:=sH (bw j)) rfl rfl rfl (eA hq) j
 refine p6 ?_;refine zB ?_ ?_<;>intro a7;have b7:A[q]=false:=by cases h9:A[q] with|false=>rfl|true=>rw[h9] at a7;cases a7
 have b8:0<=nx[q].x:=of_decide_eq_true b9;have a4:nx[q].x<24:=(u.2 _ (ak P)).2;have c2:=VZ Z b7;conv=>whnf
 conv=>arg 2;tactic'=>exact gR (k:=q) (hi:=sH (bw j)) rfl rfl rfl (eA hq) j
 conv=>whnf
 conv=>arg 2;tactic'=>exact bM (l:=[.val (.bool true)]) (cs:=bG bY (A.set q true)) rfl rfl rfl rfl (⟨rfl,rfl⟩) rfl rfl (uq Z true)
 conv=>whnf
 rw[bV];refine⟨ff,trivial,_,_,_,_,_,_,_,_,_,rfl,rfl,⟨⟨om,om⟩,⟨om,om⟩,⟨om,om⟩,a0⟩,λp9 b2=> ?_⟩;conv=>whnf
 refine .inl ⟨rfl,o2.app fp 33 (m:=1) (by show(ln o2.l+1)*3<=17592186044416;omega),λc9 k9=> ?_⟩;conv=>whnf
 conv=>arg 2;tactic'=>exact gR (k:=q) (hi:=sH (bw j)) rfl rfl rfl (eA hq) j
 conv=>whnf
 conv=>arg 2;tactic'=>exact ap rfl rfl rfl rfl ((Rh nx f).get P) rfl
 exact dD [0,1,2,3,4,5,8] ⟨nx[q],o2.push [p9] rfl c9 k9,A.set q true,⟨b8,a4⟩,(by rw[aZ];exact H),(by show(o2.l++[_]).length+_<=24;rw[aa];show (ln o2.l)+1+_<=24;omega),(λt M=>dH (p:=xP 2621440) Q b2 M)⟩;conv=>whnf
 have N:ln o2.l<=24:=om;refine zB ?_ ?_<;>intro R;have J:1<=ln o2.l:=by have:(0:Int)<(ln o2.l:Nat):=of_decide_eq_true R;omega
 refine⟨⟨ab fp _,trivial⟩,o2.nl,o2.l,o2.cap,o2.ok,_,rfl,rfl,⟨J,N,Q⟩,λB b6 O=> ?_⟩;refine iT ?_;conv=>whnf
 rw[show dk (B.blk bU 58).cs 0 (ln B.l*9)=some (bG bU B.l) from gQ bU B.l];exact⟨fZ bU _,o.app bU 58 (m:=ln B.l) (by show(ln o.l+ln B.l)*9<=5000000000000;omega),λc9 k9=> nq [0,1,2,3,4,8] ⟨k+1,o.push B.l (n:=ln B.l) rfl c9 k9,A,h,H,(by show(o.l++B.l).length<=_;rw[aa];omega),(λt M=>(aT.1 M).elim (ho t) (O t))⟩ (pc (mQ h))⟩;exact nq [0,1,2,3,4,5] ⟨k+1,o,A,h,H,om,ho⟩ (pc (mQ h));conv=>whnf
 have N:ln o2.l<=24:=om;refine zB ?_ ?_<;>intro R;have J:1<=ln o2.l:=by have:(0:Int)<(ln o2.l:Nat):=of_decide_eq_true R;omega
 refine⟨⟨ab fp _,trivial⟩,o2.nl,o2.l,o2.cap,o2.ok,_,rfl,rfl,⟨J,N,Q⟩,λB b6 O=> ?_⟩;refine iT ?_;conv=>whnf
 rw[show dk (B.blk bU 58).cs 0 (ln B.l*9)=some (bG bU B.l) from gQ bU B.l];exact⟨fZ bU _,o.app bU 58 (m:=ln B.l) (by show(ln o.l+ln B.l)*9<=5000000000000;omega),λc9 k9=> nq [0,1,2,3,4,8] ⟨k+1,o.push B.l (n:=ln B.l) rfl c9 k9,A,h,H,(by show(o.l++B.l).length<=_;rw[aa];omega),(λt M=>(aT.1 M).elim (ho t) (O t))⟩ (pc (mQ h))⟩;exact nq [0,1,2,3,4,5] ⟨k+1,o,A,h,H,om,ho⟩ (pc (mQ h));have a2: ¬(k:Int)<24:=of_decide_eq_false a8;exact zO [0,5] [0,1] (hc o om ho);have d:((z+0)*5+(y+0))*5+(x+0)<ln i:=by rw[s];exact qM om om om
 have r:IR ((((z+0)*5+(y+0))*5+(x+0):Nat):Int):=aR L (bw d);refine⟨rfl,?_⟩;conv=>whnf
 conv=>arg 2;tactic'=>exact be (k:=(((z+0)*5+(y+0))*5+(x+0))) (hi:=r) rfl rfl rfl (by exact eA (uP (fj E (a:=0) dc) (fj D (a:=0) dc) (fj F (a:=0) dc) om om om)) d
 refine p6 ?_;conv=>arg 2;tactic'=>exact bM (l:=[.val (.bool i[((z+0)*5+(y+0))*5+(x+0)])]) (cs:=gZ (bs.set 0 i[((z+0)*5+(y+0))*5+(x+0)]) Tr) rfl rfl rfl rfl (⟨rfl,rfl⟩) rfl rfl (by exact lJ (by rw[f];decide) _)
 conv=>whnf
 rw[bV];exact dD [0,1,2,3] ⟨(1,bs.set 0 i[((z+0)*5+(y+0))*5+(x+0)]),(by show 1<=8;decide),(by rw[aZ];exact f)⟩;have d:((z+0)*5+(y+0))*5+(x+1)<ln i:=by rw[s];exact qM om om om
 have r:IR ((((z+0)*5+(y+0))*5+(x+1):Nat):Int):=aR L (bw d);refine⟨rfl,?_⟩;conv=>whnf
 conv=>arg 2;tactic'=>exact be (k:=(((z+0)*5+(y+0))*5+(x+1))) (hi:=r) rfl rfl rfl (by exact eA (uP (fj E (a:=1) dc) (fj D (a:=0) dc) (fj F (a:=0) dc) om om om)) d
 refine p6 ?_;conv=>arg 2;tactic'=>exact bM (l:=[.val (.bool i[((z+0)*5+(y+0))*5+(x+1)])]) (cs:=gZ (bs.set 1 i[((z+0)*5+(y+0))*5+(x+1)]) Tr) rfl rfl rfl rfl (⟨rfl,rfl⟩) rfl rfl (by exact lJ (by rw[f];decide) _)
 conv=>whnf
 rw[bV];exact dD [0,1,2,3] ⟨(2,bs.set 1 i[((z+0)*5+(y+0))*5+(x+1)]),(by show 2<=8;decide),(by rw[aZ];exact f)⟩;have d:((z+0)*5+(y+1))*5+(x+0)<ln i:=by rw[s];exact qM om om om
 have r:IR ((((z+0)*5+(y+1))*5+(x+0):Nat):Int):=aR L (bw d);refine⟨rfl,?_⟩;conv=>whnf
 conv=>arg 2;tactic'=>exact be (k:=(((z+0)*5+(y+1))*5+(x+0))) (hi:=r) rfl rfl rfl (by exact eA (uP (fj E (a:=0) dc) (fj D (a:=1) dc) (fj F (a:=0) dc) om om om)) d
 refine p6 ?_;conv=>arg 2;tactic'=>exact bM (l:=[.val (.bool i[((z+0)*5+(y+1))*5+(x+0)])]) (cs:=gZ (bs.set 2 i[((z+0)*5+(y+1))*5+(x+0)]) Tr) rfl rfl rfl rfl (⟨rfl,rfl⟩) rfl rfl (by exact lJ (by rw[f];decide) _)
 conv=>whnf
 rw[bV];exact dD [0,1,2,3] ⟨(3,bs.set 2 i[((z+0)*5+(y+1))*5+(x+0)]),(by show 3<=8;decide),(by rw[aZ];exact f)⟩;have d:((z+0)*5+(y+1))*5+(x+1)<ln i:=by rw[s];exact qM om om om
 have r:IR ((((z+0)*5+(y+1))*5+(x+1):Nat):Int):=aR L (bw d);refine⟨rfl,?_⟩;conv=>whnf
 conv=>arg 2;tactic'=>exact be (k:=(((z+0)*5+(y+1))*5+(x+1))) (hi:=r) rfl rfl rfl (by exact eA (uP (fj E (a:=1) dc) (fj D (a:=1) dc) (fj F (a:=0) dc) om om om)) d
 refine p6 ?_;conv=>arg 2;tactic'=>exact bM (l:=[.val (.bool i[((z+0)*5+(y+1))*5+(x+1)])]) (cs:=gZ (bs.set 3 i[((z+0)*5+(y+1))*5+(x+1)]) Tr) rfl rfl rfl rfl (⟨rfl,rfl⟩) rfl rfl (by exact lJ (by rw[f];decide) _)
 conv=>whnf
 rw[bV];exact dD [0,1,2,3] ⟨(4,bs.set 3 i[((z+0)*5+(y+1))*5+(x+1)]),(by show 4<=8;decide),(by rw[aZ];exact f)⟩;have d:((z+1)*5+(y+0))*5+(x+0)<ln i:=by rw[s];exact qM om om om
 have r:IR ((((z+1)*5+(y+0))*5+(x+0):Nat):Int):=aR L (bw d);refine⟨rfl,?_⟩;conv=>whnf
 conv=>arg 2;tactic'=>exact be (k:=(((z+1)*5+(y+0))*5+(x+0))) (hi:=r) rfl rfl rfl (by exact eA (uP (fj E (a:=0) dc) (fj D (a:=0) dc) (fj F (a:=1) dc) om om om)) d
 refine p6 ?_;conv=>arg 2;tactic'=>exact bM (l:=[.val (.bool i[((z+1)*5+(y+0))*5+(x+0)])]) (cs:=gZ (bs.set 4 i[((z+1)*5+(y+0))*5+(x+0)]) Tr) rfl rfl rfl rfl (⟨rfl,rfl⟩) rfl rfl (by exact lJ (by rw[f];decide) _)
 conv=>whnf
 rw[bV];exact dD [0,1,2,3] ⟨(5,bs.set 4 i[((z+1)*5+(y+0))*5+(x+0)]),(by show 5<=8;decide),(by rw[aZ];exact f)⟩;have d:((z+1)*5+(y+0))*5+(x+1)<ln i:=by rw[s];exact qM om om om
 have r:IR ((((z+1)*5+(y+0))*5+(x+1):Nat):Int):=aR L (bw d);refine⟨rfl,?_⟩;conv=>whnf
 conv=>arg 2;tactic'=>exact be (k:=(((z+1)*5+(y+0))*5+(x+1))) (hi:=r) rfl rfl rfl (by exact eA (uP (fj E (a:=1) dc) (fj D (a:=0) dc) (fj F (a:=1) dc) om om om)) d
 refine p6 ?_;conv=>arg 2;tactic'=>exact bM (l:=[.val (.bool i[((z+1)*5+(y+0))*5+(x+1)])]) (cs:=gZ (bs.set 5 i[((z+1)*5+(y+0))*5+(x+1)]) Tr) rfl rfl rfl rfl (⟨rfl,rfl⟩) rfl rfl (by exact lJ (by rw[f];decide) _)
 conv=>whnf
 rw[bV];exact dD [0,1,2,3] ⟨(6,bs.set 5 i[((z+1)*5+(y+0))*5+(x+1)]),(by show 6<=8;decide),(by rw[aZ];exact f)⟩;have d:((z+1)*5+(y+1))*5+(x+0)<ln i:=by rw[s];exact qM om om om
 have r:IR ((((z+1)*5+(y+1))*5+(x+0):Nat):Int):=aR L (bw d);refine⟨rfl,?_⟩;conv=>whnf
 conv=>arg 2;tactic'=>exact be (k:=(((z+1)*5+(y+1))*5+(x+0))) (hi:=r) rfl rfl rfl (by exact eA (uP (fj E (a:=0) dc) (fj D (a:=1) dc) (fj F (a:=1) dc) om om om)) d
 refine p6 ?_;conv=>arg 2;tactic'=>exact bM (l:=[.val (.bool i[((z+1)*5+(y+1))*5+(x+0)])]) (cs:=gZ (bs.set 6 i[((z+1)*5+(y+1))*5+(x+0)]) Tr) rfl rfl rfl rfl (⟨rfl,rfl⟩) rfl rfl (by exact lJ (by rw[f];decide) _)
 conv=>whnf
 rw[bV];exact dD [0,1,2,3] ⟨(7,bs.set 6 i[((z+1)*5+(y+1))*5+(x+0)]),(by show 7<=8;decide),(by rw[aZ];exact f)⟩;have d:((z+1)*5+(y+1))*5+(x+1)<ln i:=by rw[s];exact qM om om om
 have r:IR ((((z+1)*5+(y+1))*5+(x+1):Nat):Int):=aR L (bw d);refine⟨rfl,?_⟩;conv=>whnf
 conv=>arg 2;tactic'=>exact be (k:=(((z+1)*5+(y+1))*5+(x+1))) (hi:=r) rfl rfl rfl (by exact eA (uP (fj E (a:=1) dc) (fj D (a:=1) dc) (fj F (a:=1) dc) om om om)) d
 refine p6 ?_;conv=>arg 2;tactic'=>exact bM (l:=[.val (.bool i[((z+1)*5+(y+1))*5+(x+1)])]) (cs:=gZ (bs.set 7 i[((z+1)*5+(y+1))*5+(x+1)]) Tr) rfl rfl rfl rfl (⟨rfl,rfl⟩) rfl rfl (by exact lJ (by rw[f];decide) _)
 conv=>whnf
 rw[bV];exact dD [0,1,2,3] ⟨(8,bs.set 7 i[((z+1)*5+(y+1))*5+(x+1)]),(by show 8<=8;decide),(by rw[aZ];exact f)⟩
end
def Zs:cP:=λd e K=> ∃f IN nI cI hI h2,d=[.agg [.int 2 h2,.sli nI 0 0 (ln IN) cI hI]]/\e=[⟨.t f,true,bG bY IN,0⟩]/\ln IN=125/\ ∀b:Bool,K (.c (.val (.bool b))) []
def a1o:jv prog 111 Zs:=cV (dK 0) bj (ck (dK 0) bj bg 0) ⟨func111,kr,kr⟩ λm s K e=>by
 obtain⟨D,h,E,B,p,u,rfl,rfl,o,e⟩:=e;refine⟨zD,?_⟩;refine zB ?_ ?_<;>intro y;exact zO [0] [0] (e false);conv=>whnf
 refine zK [0,1] [1,3,4] [0] (G:={k:Nat//k<=ln h}) (λg=>[(4,.c (.int (g.1:Nat) (aR p g.2)))]) (λ_=>[]) (λg=>ln h-g.1) ⟨0,ah _⟩ trivial ?_;rintro ⟨k,j⟩ vs2;have j:k<=ln h:=j;dsimp only;refine zB ?_ ?_<;>intro i;have d:k<ln h:=dL i;refine zB ?_ ?_<;>intro x
 iterate 2
  try refine zB ?_ ?_<;>intro H
  refine eS ?_
  refine zB ?_ ?_<;>intro f
  exact zO [0] [0] (e false)
  exact dD [0,1] ⟨k+1,d⟩
 refine zB ?_ ?_<;>intro F
 iterate 2
  try refine zB ?_ ?_<;>intro A
  refine eS ?_
  refine zB ?_ ?_<;>intro f
  exact zO [0] [0] (e false)
  exact dD [0,1] ⟨k+1,d⟩
 refine zB ?_ ?_<;>intro z;refine eS ?_;refine zB ?_ ?_<;>intro f;exact zO [0] [0] (e false);exact dD [0,1] ⟨k+1,d⟩;refine eS ?_;refine zB ?_ ?_<;>intro f;refine zB ?_ ?_<;>intro r;exact zO [0] [0] (e false);exact dD [0,1] ⟨k+1,d⟩;exact dD [0,1] ⟨k+1,d⟩;exact zO [0] [0] (e true)
section
variable {x:Int}
def a3g {fam:List mq} {s:SW} {l:List ZV} (h:tP fam s l) {k:Nat} (hk:k<ln l): ∃r o,s.a=some ⟨r,o,none⟩/\pg fam (r,o) (qh l):=h.2.resolve_left λe=>by rw[e] at hk;exact absurd hk (gh _)
def a5j {n m q:Nat} (h:IR (n:Nat)) (e:n=m) (d:q<=m):IR (q:Nat):=by unfold IR at*;omega
noncomputable def a4g:ic:={Sj 0 with O:=En qo (Sj 0).O}
def Gp:iU prog a4g:=⟨(ox 0).T,(ox 0).D,nH eD (ox 0).O,(ox 0).R,(ox 0).X⟩
def QV:cP:=λd e K=> ∃(s:SW) (A:List ZV) (fam:List mq) (h2:IR 2),d=[.c (.int 2 h2),.c (.val (.slice s.a s.n s.c))]/\e=[⟨.x fam,true,[],3⟩]/\(tP fam s A/\IR (s.n:Nat))/\
 ∀(B:List Bool) (c:Nat) (h:bZ false (ln B) c),ln B=125->K (.agg [.int 2 h2,.sli false 1 0 (ln B) c h]) [⟨4,false,bG bY B,(c-ln B)*1⟩]
def w9 (z:Int):Int:=wr ix z
def qt (q:Int):Int:=w9 (q.tdiv 3)
def a3 (q:Int):Nat:=(q.tmod 3).toNat
def mo3 (q:Int):Bool:=decide (wr ix ((BitVec.ofInt 64 (qt (qt (qt q)))&&&BitVec.ofInt 64 8).toNat:Int)=0)
def Z7 {q:Int} (h:0<=q) (hi:IR q):0<=qt q/\IR (qt q):=by
 have d:0<=q.tdiv 3:=Int.tdiv_nonneg h dc;have e:q.tdiv 3<=q:=by rw[iq h];omega
 unfold qt w9;rw[cN (by unfold IR at*;omega)];exact⟨d,by unfold IR at*;omega⟩
def PX {q:Int} (h:0<=q):q.tmod 3=(a3 q:Int)/\a3 q<3:=by unfold a3;rw[kZ h];omega
def p1 {a:Nat} (e:x=(a:Int)) (h:a<3):wr ix (1+x)=((1+a:Nat):Int):=by rw[e,cN ui];omega
def p2 {a:Nat} (e:x=(a:Int)) (h:a<3):wr ix (1+(wr ix (x+1)).tmod 3)=((1+(a+1) % 3:Nat):Int):=by rw[e,cN (z:=(a:Int)+1) ui,kZ om,cN ui];omega
def XN (h:x<0) (hx:IR x):0<=wr ix (-1-x)/\IR (wr ix (-1-x)):=by rw[cN (by unfold IR at*;omega)];exact⟨om,by unfold IR at*;omega⟩
def ZY:bZ false 125 125:=⟨ai _,dc,λh=>by cases h⟩
def B0:List Bool:=au 125 false
def a0n:ln B0=125:=by unfold B0;rw[bb]
def Pu: ∀n,au n (C.val (.bool false))=bG bY (au n false)
 |0=>rfl
 |n+1=>by rw[dZ,dZ,Pu n];rfl
def Ea {k:Nat} (h:k<=125):IR (k:Int):=ui
def okB {B:List Bool} (h:ln B=125):bZ false (ln B) 125:=by rw[h];exact ZY
def LX {x y z : Nat} {a b c : Int} (d : a = (x : Int)) (hb : b = (y : Int)) (e : c = (z : Int)) (hx : x < 5) (hy : y < 5) (f : z < 5) : ∃n:Nat,n<125/\(D6 a b c).x=(n:Int):=⟨_,om,uP d hb e hx hy f⟩
def We:pd prog 77 QV:=iA Gp bj (ck Gp bj bg 0) ⟨func77,kr,kr⟩ λT a2 K R=>by
 obtain⟨s,A,fam,L,rfl,rfl,⟨F,D⟩,R⟩:=R;refine⟨λO Z _=>rfl,?_⟩;conv=>whnf
 have M:s.n=ln A:=F.1;refine zK [0,1,2,3] [0,1,4,5,6,7] [2] (G:={q:Nat×List Bool//q.1<=ln A/\ln q.2=125}) (λg=>[(0,.c (.int 2 L)),(1,.c (.val (.slice s.a s.n s.c))),(4,.c (.ptr 1 0)),(5,.c (.ptr 3 0)),(6,.c (.int 3 dc)),(7,.c (.int (g.1.1:Nat) (a5j D M g.2.1)))]) (λg=>[(0,⟨.x fam,true,[],3⟩),(1,⟨128,false,[.int 0 dc,.val (.slice none 0 0)],0⟩),(2,⟨4,false,bG bY g.1.2,0⟩),(3,⟨128,false,[.int 2 L,.sli false 2 0 125 125 ZY],0⟩)]) (λg=>ln A-g.1.1) ⟨(0,B0),ah _,a0n⟩ trivial ?_ (hent:=λ_ a1=>⟨(show cC (au 125 (C.val (.bool false))) by rw[Pu];exact ab bY _),gm _,(by exact⟨mL _,mL _,⟨rfl,rfl,rfl,λO=>congrArg (af O) (Pu 125)⟩,gz _⟩)⟩);rintro ⟨⟨k,B⟩,U,d⟩ vs2;have U:k<=ln A:=U;have d:ln B=125:=d;dsimp only;conv=>whnf
 conv=>arg 2;tactic'=>exact eC rfl rfl rfl rfl rfl rfl D
 refine zB ?_ ?_<;>intro J;have r:k<ln A:=by have:=dL J;omega
 obtain⟨W,V,ea,N⟩:=a3g F r;refine zB ?_ ?_<;>intro X;conv=>whnf
 refine .inr ⟨W,V,s.n,s.c,k,(by show SV.c (.val (.slice s.a s.n s.c))=_;rw[ea]),rfl,om,?_⟩;conv=>whnf
 refine .inr ⟨W,V,k*1,0,qh A,.c (.int A[k].x A[k].hx),rfl,⟨_,_,_,rfl,rfl,N⟩,⟨oO A r,ff⟩,?_⟩;refine zB ?_ ?_<;>intro p<;>(first|(obtain⟨u,E⟩:=XN (of_decide_eq_true p) A[k].hx;obtain⟨v,hv⟩: ∃v,mo3 (wr ix (-1-A[k].x))=v:=⟨_,rfl⟩)|((have u:0<=A[k].x:=by have:=of_decide_eq_false p;omega);have E:=A[k].hx;obtain⟨v,hv⟩: ∃v,mo3 A[k].x=v:=⟨_,rfl⟩))<;>(obtain⟨I,h⟩:=PX u;obtain⟨y,P⟩:=Z7 u E;obtain⟨H,m⟩:=PX y;obtain⟨Q,a0⟩:=Z7 y P;obtain⟨o,j⟩:=PX Q;(refine⟨rfl,?_⟩;(conv=>whnf);obtain⟨n,f,e⟩:=LX (p1 I h) (p1 H m) (p1 o j) om om om;(conv=>arg 2;tactic'=>exact be (k:=n) (hi:=Ea om) rfl rfl rfl (eA e) f);(conv=>whnf);(conv=>arg 2;tactic'=>exact bM (l:=[.val (.bool v)]) (cs:=bG bY (B.set n v)) rfl rfl rfl (by exact congrArg (λz=>some [C.val (.bool z)]) hv) ⟨rfl,rfl⟩ rfl rfl (uq (by rw[d];exact f) v));(conv=>whnf);rw[bV];have d:=(aZ (i:=n) (a:=v)).trans d;generalize B.set n v=B at d⊢))<;>(refine zB ?_ ?_<;>intro _<;>try (refine⟨rfl,?_⟩;(conv=>whnf);obtain⟨n,f,e⟩:=LX (p2 I h) (p1 H m) (p1 o j) om om om;(conv=>arg 2;tactic'=>exact be (k:=n) (hi:=Ea om) rfl rfl rfl (eA e) f);(conv=>whnf);(conv=>arg 2;tactic'=>exact bM (l:=[.val (.bool v)]) (cs:=bG bY (B.set n v)) rfl rfl rfl (by exact congrArg (λz=>some [C.val (.bool z)]) hv) ⟨rfl,rfl⟩ rfl rfl (uq (by rw[d];exact f) v));(conv=>whnf);rw[bV];have d:=(aZ (i:=n) (a:=v)).trans d;generalize B.set n v=B at d⊢))<;>(refine zB ?_ ?_<;>intro _<;>try (refine⟨rfl,?_⟩;(conv=>whnf);obtain⟨n,f,e⟩:=LX (p1 I h) (p2 H m) (p1 o j) om om om;(conv=>arg 2;tactic'=>exact be (k:=n) (hi:=Ea om) rfl rfl rfl (eA e) f);(conv=>whnf);(conv=>arg 2;tactic'=>exact bM (l:=[.val (.bool v)]) (cs:=bG bY (B.set n v)) rfl rfl rfl (by exact congrArg (λz=>some [C.val (.bool z)]) hv) ⟨rfl,rfl⟩ rfl rfl (uq (by rw[d];exact f) v));(conv=>whnf);rw[bV];have d:=(aZ (i:=n) (a:=v)).trans d;generalize B.set n v=B at d⊢))<;>(refine zB ?_ ?_<;>intro _<;>try (refine⟨rfl,?_⟩;(conv=>whnf);obtain⟨n,f,e⟩:=LX (p1 I h) (p1 H m) (p2 o j) om om om;(conv=>arg 2;tactic'=>exact be (k:=n) (hi:=Ea om) rfl rfl rfl (eA e) f);(conv=>whnf);(conv=>arg 2;tactic'=>exact bM (l:=[.val (.bool v)]) (cs:=bG bY (B.set n v)) rfl rfl rfl (by exact congrArg (λz=>some [C.val (.bool z)]) hv) ⟨rfl,rfl⟩ rfl rfl (uq (by rw[d];exact f) v));(conv=>whnf);rw[bV];have d:=(aZ (i:=n) (a:=v)).trans d;generalize B.set n v=B at d⊢))<;>exact dD [0,1,2,3] ⟨(k+1,B),r,d⟩;all_goals exact⟨[0,2],[1],λY=>⟨ab bY _,_,[⟨4,false,bG bY B,(125-ln B)*1⟩],rfl,⟨mL _,⟨rfl,rfl,(by show 0=(125-ln B)*1;rw[d]),fr⟩,trivial⟩,⟨⟨ab bY _,.inl rfl⟩,trivial⟩,.agg [.int 2 L,.sli false 1 0 (ln B) 125 (okB d)],λO=>(by simp only[SV.den,C.cells,cO,d]),R B 125 (okB d) d⟩⟩
end
def SJ (l:List (FuncId×cP)) (H:FuncId->List SV->List aY->(SV->List aY->Prop)->Prop) (f:FuncId) (args:List SV) (hp:List aY) (K:SV->List aY->Prop):Prop:=
 match ZL l f with
 |some c=> ∃h d,Y5 h args d/\roK hp h λg=>jB g/\c d g λv e=>pE hp λn=>Is hp e λi=>K (v.mv h n) i
 |none=>H f args hp K
def zf {P l} (hl:iL P l) {H} (hH:ko P H):ko P (SJ l H):=by
 intro f q m K h;unfold SJ at h;split at h;rename_i c T;have J:=hl _ (uX T);refine⟨J.1,λN w0 g w Y _=> ?_⟩;obtain⟨o,V,u,h⟩:=h;obtain⟨j,B,W,M,D⟩:=EG h;obtain⟨p,B⟩:=B;let ρ:fF:=λi=>g (o[i]?.getD 0);have y: ∀i b,o[i]? =some b->ρ i=g b:=λi b s=>by show g (o[i]?.getD 0)=g b;rw[s];rfl
 have z:q.map (SV.den g)=V.map (SV.den ρ):=u g ρ (λi b s=>y i b (by rw[cD] at s;exact s));rw[z];refine(J.2 V j _ B M p ρ w (λi d L=> ?_)).mono ?_;have s:i<ln j:=by rw[cD] at L;exact(aw.1 L).1
 obtain⟨b,hb⟩: ∃b,o[i]? =some b:=⟨_,ae om⟩;obtain⟨X,Z,I,U,h3⟩:=D i b hb;rw[L] at U;cases U;have:=(Y.holds g (gt.refl _ _) b X I).1;have O:af ρ d.cs=af g d.cs:=(jr p L) ρ g;rw[y i b hb,O,h3];exact this;rintro e w' ⟨v,news,σ,B,hn,T,hσ,he⟩;rw[gq,uj] at B;refine⟨_,_,_,B,Y.join T hn,λi s=> ?_,λE r=> ?_⟩;have F:i<ln m:=by obtain⟨x,A⟩:=aK.1 s;rw[cD] at A;exact(aw.1 A).1
 exact⟨by rw[cQ,if_pos F];exact s,if_pos F⟩;rw[Ek];refine he _ (λk Q=> ?_);have hkl:k<(j++news).length:=by obtain⟨x,A⟩:=aK.1 Q;rw[cD] at A;exact(aw.1 A).1
 show E (If o (ln m) k)=σ k;unfold If;by_cases hkr:k<ln j;have R:k<ln o:=om;obtain⟨b,hb⟩: ∃b,o[k]? =some b:=⟨_,ae R⟩;rw[cD,hb];obtain⟨X,Z,I,-⟩:=D k b hb;have G:b<ln m:=by rw[cD] at I;exact(aw.1 I).1
 rw[hσ k hkr,y k b hb];have:=r b (by rw[cQ,if_pos G,I];rfl);rw[this];exact if_pos G;rw[cD,bi om];have A:(an (m++news) (ln m+(k-ln o))).isSome=true:=by rw[cQ,if_neg om];rw[cQ,if_neg hkr] at Q;rw[show (ln m)+(k-ln o)-ln m=k-(ln j) by omega];exact Q
 have:=r _ A;show E (ln m+(k-ln o))=σ k;rw[this];show(if (ln m)+(k-ln o)<(ln m) then _ else σ (ln m+(k-ln o)-ln m+ln j))=σ k;rw[if_neg om];congr 1;omega;exact hH f q m K h
def cC8:List (FuncId×cP):=[(111,Zs),(112,Zr)]
def a0Q:iL prog cC8:= .cons a1o<| .cons a1n .nil
def cC9:List (FuncId×cP):=[(73,vO)]
def a0R:iL prog cC9:= .cons rL .nil
def Zh:cP:=λd e K=> ∃f IN nI cI hI h2,d=[.agg [.int 2 h2,.sli nI 0 0 (ln IN) cI hI]]/\e=[⟨.t f,true,bG bY IN,0⟩]/\ln IN=125/\
 ∀o:OL TR,ln o.l<=36864->(∀t∈o.l,mm 2621440 t)->K (o.sl 1) [o.blk bU 58]
structure a6D where
 x:Nat
 o:OL TR
 hx:x<=4
 hn:ln o.l<=(x*4*4)*576
 ho: ∀t∈o.l,mm 2621440 t
structure a6C (z:Nat) where
 x:Nat
 o:OL TR
 hx:x<=4
 hn:ln o.l<=((z*4+x)*4)*576
 ho: ∀t∈o.l,mm 2621440 t
structure CoG (z y:Nat) where
 x:Nat
 o:OL TR
 hx:x<=4
 hn:ln o.l<=((z*4+y)*4+x)*576
 ho: ∀t∈o.l,mm 2621440 t
def Eb {k:Nat} (h:k<=4):IR (k:Int):=ui
def AR {k:Nat} (h:k<4):IntKind.i64.wrap ((k:Int)+1)=((k+1:Nat):Int):=by rw[cN ui];omega
def a1d:jv prog 76 Zh:=cV (dK 0) bj (zf a0Q (dX a0R (ck (dK 0) bj bg 0))) ⟨func76,kr,kr⟩ λT Z K I=>by
 obtain⟨tI,h,B,A,r,s,rfl,rfl,i,I⟩:=I;have D:cC (bG bY h):=ab bY h;refine⟨zD,?_⟩
 refine⟨[0],[.agg [.int 2 s,.sli B 0 0 (ln h) A r]],(λO M e=>by
  show cg (SV.den O) [.agg [.int 2 s,.sli B 0 0 (ln h) A r]]=_
  have N:=e 0 0 rfl
  simp only[cg,SV.den,C.cells,N,aL,bF,af]),⟨D,trivial⟩,_,h,B,A,r,s,rfl,rfl,i,λb=> ?_⟩
 refine zB ?_ ?_<;>intro hv;exact zO [0,1000+ 58] [0] (v3:=OL.none.sl 1) (I OL.none (ah _) (λt j=>by cases j));conv=>whnf
 refine zK [0,1,1000+ 58] [1,4,5,6] [0,2] (G:=a6D) (λg=>[(5,g.o.sl 2),(6,.c (.int (g.x:Nat) (Eb g.hx)))]) (λg=>[(2,g.o.blk bU 58)]) (λg=>4-g.x) ⟨0,OL.none,ah _,ah _,(λt j=>by cases j)⟩ trivial ?_;rintro ⟨z,o,U,W,f⟩ va2;dsimp only;refine zB ?_ ?_<;>intro F;have a4:(z:Int)<4:=of_decide_eq_true F;have q:z<4:=om;conv=>whnf
 refine zK [0,1,2] [1,4,5,6,7] [0,2] (G:=a6C z) (λg=>[(5,g.o.sl 2),(7,.c (.int (g.x:Nat) (Eb g.hx)))]) (λg=>[(2,g.o.blk bU 58)]) (λg=>4-g.x) ⟨0,o,ah _,om,f⟩ trivial ?_;rintro ⟨y,o,P,W,f⟩ vb2;dsimp only;refine zB ?_ ?_<;>intro H;have Y:(y:Int)<4:=of_decide_eq_true H;have k:y<4:=om;conv=>whnf
 refine zK [0,1,2] [1,4,5,6,7,8] [0,2] (G:=CoG z y) (λg=>[(5,g.o.sl 2),(8,.c (.int (g.x:Nat) (Eb g.hx)))]) (λg=>[(2,g.o.blk bU 58)]) (λg=>4-g.x) ⟨0,o,ah _,om,f⟩ trivial ?_;rintro ⟨x,o,V,W,f⟩ vc2;dsimp only;refine zB ?_ ?_<;>intro E;have a2:(x:Int)<4:=of_decide_eq_true E;have p:x<4:=om
 refine⟨[0],[.agg [.int 2 s,.sli B 0 0 (ln h) A r],.agg [.int x (Eb V),.int y (Eb P),.int z (Eb U)]],(λO M e=>by
  show cg (SV.den O) [.agg [.int 2 s,.sli B 0 0 (ln h) A r],.agg [.int x (Eb V),.int y (Eb P),.int z (Eb U)]]=_
  have N:=e 0 0 rfl
  simp only[cg,SV.den,C.cells,N,aL,bF,af]),⟨D,trivial⟩,_,h,B,A,r,x,y,z,_,_,_,s,rfl,rfl,⟨i,p,k,q⟩,λd a1 J=> ?_⟩
 refine iT ?_;conv=>whnf
 rw[show dk (d.blk bU 58).cs 0 (ln d.l*9)=some (bG bU d.l) from gQ bU d.l];exact⟨fZ bU _,o.app bU 58 (m:=ln d.l) (by show(ln o.l+ln d.l)*9<=5000000000000;omega),λc9 k9=> nq [0,1,4] ⟨x+1,o.push d.l (n:=ln d.l) rfl c9 k9,p,(by show(o.l++d.l).length<=_;rw[aa];omega),(λt j=>(aT.1 j).elim (f t) (J t))⟩ (pc (AR p))⟩;have X: ¬(x:Int)<4:=of_decide_eq_false E;exact nq [0,1,2] ⟨y+1,o,k,om,f⟩ (pc (AR k));have R: ¬(y:Int)<4:=of_decide_eq_false H;exact nq [0,1,2] ⟨z+1,o,q,om,f⟩ (pc (AR q));have Q: ¬(z:Int)<4:=of_decide_eq_false F;exact⟨⟨ab bU _,trivial⟩,o.nl,0,o.l,o.cap,o.ok,_,bG bU o.l,rfl,rfl,⟨ab bU _,mj.self bU o.l⟩,om,λo4 a0 L=> zO [0,3] [0,1] (I o4 om (λt j=>by obtain⟨u,hu,e⟩:=L t j;rw[<-e];exact oU (S:=xP 2621440) (f u hu)))⟩
section
variable {k:Nat}
def ye {d:Type} (R:RW d) {l:List d} (hk:k<ln l) {A M B new} (e:R.c l[k]=A++(M++B)) (h:bu new=bu M) {x} (i:R.c x=A++(new++B)) {off} (ho:off=k*R.n+bu A):ga (bG R l) off new=some (bG R (l.set k x)):=by
 have f:=km R hk;have s:bu (bG R (l.take k)++A)=off:=by rw[cw,fx R (bw hk),ho]
 have g:bG R l=(bG R (l.take k)++A)++(M++(B++bG R (l.drop (k+1)))):=by rw[f,e];simp[aJ]
 rw[g,<-s,jt _ M _ new h,cZ,if_pos hk,en,bG,i];simp[aJ]
def JH {a} (h:IR a):IR (a.fdiv 8):=by rw[sS _ dc];unfold IR at*;omega
def EO (p:PT):PT:=⟨p.x.fdiv 8,p.y.fdiv 8,p.z.fdiv 8,JH p.hx,JH p.hy,JH p.hz⟩
def a2U {a:Int} (h:0<=a/\a<=2621440):0<=a.fdiv 8/\a.fdiv 8<=327680:=by rw[sS _ dc];omega
def Ct {p} (h:xP 2621440 p):xP 327680 (EO p):=⟨a2U h.1,a2U h.2.1,a2U h.2.2⟩
def xP.up {p} (h:xP 327680 p):xP 2621440 p:=⟨⟨h.1.1,by have:=h.1.2;omega⟩,⟨h.2.1.1,by have:=h.2.1.2;omega⟩,⟨h.2.2.1,by have:=h.2.2.2;omega⟩⟩
def Ka (t:TR) (p:PT):TR:=⟨p,t.b,t.c⟩
def Ao (t:TR) (p:PT):TR:=⟨t.a,p,t.c⟩
def Kc (t:TR) (p:PT):TR:=⟨t.a,t.b,p⟩
def YM {l:List TR} (hk:k<ln l) p:ga (bG bU l) (0+k*9+0*3) (pC p)=some (bG bU (l.set k (Ka l[k] p))):=ye bU hk (x:=Ka l[k] p) (new:=pC p) (A:=[]) (M:=pC l[k].a) (B:=pC l[k].b++pC l[k].c) rfl rfl rfl (by show 0+k*9+0*3=k*9+0;omega)
def YN {l:List TR} (hk:k<ln l) p:ga (bG bU l) (0+k*9+1*3) (pC p)=some (bG bU (l.set k (Ao l[k] p))):=ye bU hk (x:=Ao l[k] p) (new:=pC p) (A:=pC l[k].a) (M:=pC l[k].b) (B:=pC l[k].c) rfl rfl rfl (by show 0+k*9+1*3=k*9+3;omega)
def YO {l:List TR} (hk:k<ln l) p:ga (bG bU l) (0+k*9+2*3) (pC p)=some (bG bU (l.set k (Kc l[k] p))):=ye bU hk (x:=Kc l[k] p) (new:=pC p) (A:=pC l[k].a++pC l[k].b) (M:=pC l[k].c) (B:=[]) rfl rfl rfl (by show 0+k*9+2*3=k*9+6;omega)
def Ie (n k j:Nat) (l:List TR):Prop:=ln l=n/\(∀t∈l,mm 2621440 t)/\(∀i (h:i<ln l),i<k->mm 327680 l[i])/\ ∀h:k<ln l,(1<=j->xP 327680 l[k].a)/\(2<=j->xP 327680 l[k].b)/\(3<=j->xP 327680 l[k].c)
def Ie.start {n l} (d:ln l=n) (h: ∀t∈l,mm 2621440 t):Ie n 0 0 l:=⟨d,h,λi _ e=>absurd e (gh _),λ_=>⟨λh=>by omega,λh=>by omega,λh=>by omega⟩⟩
def Ie.next {n l} (h:Ie n k 3 l):Ie n (k+1) 0 l:=⟨h.1,h.2.1,λi d e=>by rcases cj i k with g|g;exact h.2.2.1 i d g;obtain rfl:i=k:=bo (Nat.le_of_lt_succ e) g;have:=h.2.2.2 d;exact⟨this.1 dc,this.2.1 dc,this.2.2 dc⟩,λ_=>⟨λh=>by omega,λh=>by omega,λh=>by omega⟩⟩
def Ie.fin {n l} (h:Ie n k 0 l) (hk:n<=k): ∀t∈l,mm 327680 t:=λt e=>by obtain⟨i,d,rfl⟩:=ns e;exact h.2.2.1 i d (dh (h.1▸d) hk)
def Ie.set {n j l} (h:Ie n k j l) {t} (h1:mm 2621440 t) (h2:(1<=j+1->xP 327680 t.a)/\(2<=j+1->xP 327680 t.b)/\(3<=j+1->xP 327680 t.c)):Ie n k (j+1) (l.set k t):=by refine⟨by rw[aZ];exact h.1,λs d=> ?_,λi f e=> ?_,λ_=> ?_⟩;rcases iW d with d|rfl;exact h.2.1 s d;exact h1;rw[List.getElem_set_ne om];exact h.2.2.1 i (by rw[aZ] at f;exact f) e;rw[List.getElem_set_self];exact h2
def Ie.s0 {n l} (h:Ie n k 0 l) (hk:k<ln l):Ie n k 1 (l.set k (Ka l[k] (EO l[k].a))):=by have d:=h.2.1 _ (ak hk);exact h.set ⟨(Ct d.1).up,d.2.1,d.2.2⟩ ⟨λ_=>Ct d.1,λh=>by omega,λh=>by omega⟩
def Ie.s1 {n l} (h:Ie n k 1 l) (hk:k<ln l):Ie n k 2 (l.set k (Ao l[k] (EO l[k].b))):=by have d:=h.2.1 _ (ak hk);have e:=h.2.2.2 hk;exact h.set ⟨d.1,(Ct d.2.1).up,d.2.2⟩ ⟨λ_=>e.1 dc,λ_=>Ct d.2.1,λh=>by omega⟩
def Ie.s2 {n l} (h:Ie n k 2 l) (hk:k<ln l):Ie n k 3 (l.set k (Kc l[k] (EO l[k].c))):=by have d:=h.2.1 _ (ak hk);have e:=h.2.2.2 hk;exact h.set ⟨d.1,d.2.1,(Ct d.2.2).up⟩ ⟨λ_=>e.1 dc,λ_=>e.2.1 dc,λ_=>Ct d.2.2⟩
def PcG (n:Nat):={q:Nat×OL TR//q.1<=n/\Ie n q.1 0 q.2.l}
def PcH (n k:Nat):={q:Nat×OL TR//q.1<=3/\Ie n k q.1 q.2.l}
def ClL (fam:List mq) (m:Int) (l:List (LI TR)):Prop:= ∀x∈l,Fx fam x/\(ln x.l:Int)<=maxI m 1/\ ∀t∈x.l,mm 327680 t
def a5g:List (FuncId×cP):=[(77,QV)]
def TD:vB prog a5g:= .cons We .nil
def a5e:List (FuncId×cP):=[(78,Le)]
def TB:iL prog a5e:= .cons RA .nil
def a5f:List (FuncId×cP):=[(76,Zh)]
def TC:iL prog a5f:= .cons a1d .nil
def Li:cP:=λd e K=> ∃(s:SW) (A fam0 b hb m hm:_),d=[.c (.val (.slice s.a s.n s.c)),.c (.int b hb),.c (.int m hm)]/\e=[⟨.x fam0,true,[],3⟩]/\(tP fam0 s A/\IR (s.n:Nat))/\
 ∀(o:OL (LI TR)) fam,ClL fam m o.l->jH o.l<=36864->K (o.sl 1) [o.blk iX 53,⟨.x fam,true,[],2⟩]
def RG:pd prog 47 Li:=iA (dK 0) bj (zf TC (qJ TD (dX TB (ck (dK 0) bj bg 0)))) ⟨func47,kr,kr⟩ λR a0 K Q=>by
 obtain⟨s,A,E,b,hb,m,hm,rfl,rfl,⟨I,J⟩,Q⟩:=Q;refine⟨λf P _=>rfl,0,.inr rfl,trivial,s,A,E,dc,rfl,rfl,⟨I,J⟩,λB N F V=> ?_⟩
 refine⟨[1],[.agg [.int 2 dc,.sli false 0 0 (ln B) N F]],(λf P e=>by
  show cg (SV.den f) [.agg [.int 2 dc,.sli false 1 0 (ln B) N F]]=_
  have e0:=e 0 1 rfl
  simp only[cg,SV.den,C.cells,e0,aL,bF,af]),⟨ab bY _,trivial⟩,_,B,false,N,F,dc,rfl,rfl,V,λo hn Y=> ?_⟩
 conv=>whnf
 refine zK [0,2] [1,2,7,8] [1] (G:=PcG (ln o.l)) (λg=>[(7,g.1.2.sl 1),(8,.c (.int (g.1.1:Nat) (aR o.ok g.2.1)))]) (λg=>[(1,g.1.2.blk bU 58)]) (λg=>ln o.l-g.1.1) ⟨(0,o),ah _,Ie.start rfl Y⟩ trivial ?_;rintro ⟨⟨k,p⟩,M,u⟩ va2;have M:k<=ln o.l:=M;have u:Ie (ln o.l) k 0 p.l:=u;have Z:ln p.l=ln o.l:=u.1;dsimp only;refine zB ?_ ?_<;>intro z;have a1:k<ln p.l:=dL z;have a2:IR (k:Int):=aR o.ok M;conv=>whnf
 refine zK [0,1] [1,2,7,8,9] [1] (G:=PcH (ln o.l) k) (λg=>[(7,g.1.2.sl 1),(9,.c (.int (g.1.1:Nat) (ir3 (by have:=g.2.1;omega))))]) (λg=>[(1,g.1.2.blk bU 58)]) (λg=>3-g.1.1) ⟨(0,p),ah _,u⟩ trivial ?_;rintro ⟨⟨j,q⟩,T,r⟩ vb2;have T:j<=3:=T;have r:Ie (ln o.l) k j q.l:=r;have a4:ln q.l=ln o.l:=r.1;have d:k<ln q.l:=om;dsimp only;have i:j=3\/j=0\/j=1\/j=2:=om;rcases i with rfl|rfl|rfl|rfl;exact dD [0,1] ⟨(k+1,q),(by show k+1<=ln o.l;omega),r.next⟩;refine zG3 ?_;conv=>arg 2;tactic'=>exact bM (l:=pC (EO q.l[k].a)) (cs:=bG bU (q.l.set k (Ka q.l[k] (EO q.l[k].a)))) rfl rfl rfl rfl (⟨rfl,rfl⟩) rfl (by exact q.ok.pos om) (YM d _)
 conv=>whnf
 rw[bV];exact dD [0,1] ⟨(1,(q.put k (Ka q.l[k] (EO q.l[k].a)))),(by show 1<=3;decide),r.s0 d⟩ (h:=λD=>⟨ab bU _,(by(iterate 7 refine⟨fr,?_⟩);refine⟨λf=>q.put_sl k (Ka q.l[k] (EO q.l[k].a)) 1 f,?_⟩;refine⟨fr,fr,?_⟩;exact gm _),(by exact⟨mL _,⟨rfl,rfl,q.put_tl k (Ka q.l[k] (EO q.l[k].a)) bU _,λf=>rfl⟩,trivial⟩)⟩);refine zG3 ?_;conv=>arg 2;tactic'=>exact bM (l:=pC (EO q.l[k].b)) (cs:=bG bU (q.l.set k (Ao q.l[k] (EO q.l[k].b)))) rfl rfl rfl rfl (⟨rfl,rfl⟩) rfl (by exact q.ok.pos om) (YN d _)
 conv=>whnf
 rw[bV];exact dD [0,1] ⟨(2,(q.put k (Ao q.l[k] (EO q.l[k].b)))),(by show 2<=3;decide),r.s1 d⟩ (h:=λD=>⟨ab bU _,(by(iterate 7 refine⟨fr,?_⟩);refine⟨λf=>q.put_sl k (Ao q.l[k] (EO q.l[k].b)) 1 f,?_⟩;refine⟨fr,fr,?_⟩;exact gm _),(by exact⟨mL _,⟨rfl,rfl,q.put_tl k (Ao q.l[k] (EO q.l[k].b)) bU _,λf=>rfl⟩,trivial⟩)⟩);refine zG3 ?_;conv=>arg 2;tactic'=>exact bM (l:=pC (EO q.l[k].c)) (cs:=bG bU (q.l.set k (Kc q.l[k] (EO q.l[k].c)))) rfl rfl rfl rfl (⟨rfl,rfl⟩) rfl (by exact q.ok.pos om) (YO d _)
 conv=>whnf
 rw[bV];exact dD [0,1] ⟨(3,(q.put k (Kc q.l[k] (EO q.l[k].c)))),(by show 3<=3;decide),r.s2 d⟩ (h:=λD=>⟨ab bU _,(by(iterate 7 refine⟨fr,?_⟩);refine⟨λf=>q.put_sl k (Kc q.l[k] (EO q.l[k].c)) 1 f,?_⟩;refine⟨fr,fr,?_⟩;exact gm _),(by exact⟨mL _,⟨rfl,rfl,q.put_tl k (Kc q.l[k] (EO q.l[k].c)) bU _,λf=>rfl⟩,trivial⟩)⟩);have X:ln p.l<=k:=gi z;have y:=u.fin om;exact⟨⟨ab bU _,trivial⟩,p.nl,p.l,p.cap,p.ok,_,b,hb,m,hm,rfl,rfl,om,λW fam H hl=> zO [0,2,3] [1] (Q W fam (λx O=>⟨(H x O).1,(H x O).2.1,λt U=>by obtain⟨s,L,e⟩:=(H x O).2.2 t U;rw[<-e];exact oU (S:=xP 327680) (y s L)⟩) om)⟩
end
section
variable {p:Nat×Nat} {ρ:fF}
def fzC (b:Nat) (p:Nat×Nat):C->C
 | .sli nl b' off len cap h=>(match Nat.beq b' b with
  |true=> .val (.slice (jK nl ⟨p.1,p.2+off,none⟩) len cap)
  |false=> .sli nl b' off len cap h)
 |x=>x
def W5 (b:Nat) (p:Nat×Nat):List C->List C
 |[]=>[]
 |x::l=>fzC b p x::W5 b p l
def fzV (b:Nat) (p:Nat×Nat):SV->SV
 | .c x=> .c (fzC b p x)
 | .agg l=> .agg (W5 b p l)
 |x=>x
def On {b} (h:ρ b=p) x:(fzC b p x).cells ρ=x.cells ρ:=by unfold fzC;split;split;rename_i e;have:=gH e;subst this;simp only[C.cells,h];rfl;rfl
def W4 {b} (h:ρ b=p) x:(fzC b p x).den ρ=x.den ρ:=by unfold fzC;split;split;rename_i e;have:=gH e;subst this;simp only[C.den,C.cells,h];rfl;rfl
def vZ {b p ρ} (h:ρ b=p): ∀l:List C,af ρ (W5 b p l)=af ρ l
 |[]=>rfl
 |x::l=>by rw[W5,cO,cO,On h,vZ h l]
def W6 {b} (h:ρ b=p) v:(fzV b p v).den ρ=v.den ρ:=by
 cases v with
 |c x=>exact W4 h x
 |agg l=>show Value.agg (af ρ (W5 b p l)).toArray=Value.agg (af ρ l).toArray;rw[vZ h]
 |tup l=>rfl
def fzB (b:Nat) (p:Nat×Nat):List Nat->List aY->(List aY->Prop)->Prop
 |[],d,K=>K d
 |x::l,d,K=>(match an d x with
  |some ⟨.t f,false,e,tl⟩=>kE (W5 b p e) λe=>fU d x ⟨.t f,false,e,tl⟩ λd=>fzB b p l d K
  |_=>False)
def fzT (b:Nat) (p:Nat×Nat):List Nat->List SV->(List SV->Prop)->Prop
 |[],d,K=>K d
 |t::l,d,K=>(fzV b p (ij uv d t)).force λv=>fU d t v λd=>fzT b p l d K
def St {b p}: ∀{l tm K},fzT b p l tm K-> ∃tm',K tm'/\ ∀ρ:fF,ρ b=p->tm.map (SV.den ρ)=tm'.map (SV.den ρ)
 |[],tm,K,h=>⟨tm,h,λ_ _=>rfl⟩
 |t::l,tm,K,h=>by unfold fzT at h;rw[SV.force_eq,dR] at h;obtain⟨tm',hK,hd⟩:=St h;refine⟨tm',hK,λρ hρ=> ?_⟩;rw[<-hd ρ hρ];refine(uY _ _ _ _ λy hy=> ?_).symm;rw[W6 hρ,iE,hy];rfl
def Ss {b p N w0 ρ0 w} (e:ρ0 b=p): ∀{l hp K},fzB b p l hp K->dv N w0 (an hp) ρ0 w->(an hp b).isSome=true->
  ∃hp',K hp'/\dv N w0 (an hp') ρ0 w/\ ∀i,(an hp i).isSome=true->(an hp' i).isSome=true
 |[],hp,K,h,hh,hb=>⟨hp,h,hh,λ_ h=>h⟩
 |x::l,hp,K,h,hh,hb=>by unfold fzB at h;split at h;rename_i m g o r;rw[bV,dR] at h;have z:=hh.turn (d:=⟨.t m,false,W5 b p g,o⟩) r rfl ⟨rfl,rfl,rfl⟩ (λρ k=>vZ ((k b hb).trans e) g);have s:=dt hp x ⟨.t m,false,W5 b p g,o⟩ _ r;(have f: ∀i,(an hp i).isSome=true->(an (hp.set x ⟨.t m,false,W5 b p g,o⟩) i).isSome=true:=λi q=>by rw[s];unfold df;split;rfl;exact q);obtain⟨hp',y,j,u⟩:=Ss e h (by rw[s];exact z) (f b hb);exact⟨hp',y,j,λi q=>u i (f i q)⟩;exact h.elim
def XV (e:List SV) (hp:List aY) (K:List SV->List aY->Prop):Prop:=
 ∃f b xs ts,match an hp f,an hp b with
 |some ⟨.x l,true,[],2⟩,some ⟨.t _,ro,cs,_⟩=>(cC cs/\(ro=true->cs=[]))/\ ∀p d,m3 l d->(cs=[]\/pg d p cs)->
  fU hp f ⟨.x d,true,[],2⟩ λhp=>fU hp b ⟨.t 0,true,[],0⟩ λhp=>fzB b p xs hp λhp=>fzT b p ts e λe=>K e hp
 |_,_=>False
def Ex:wO XV:=λtm g K h N w0 d w E=>by
 obtain⟨k,f,xs,ts,h⟩:=h;split at h;rename_i l B ro o D m u;obtain⟨⟨r,H⟩,h⟩:=h;have q:k≠f:=λe=>by subst e;rw[m] at u;cases u
 have key: ∃z,m3 l z/\(o=[]\/pg z (d f) o)/\dv N w0 (an ((g.set k ⟨.x z,true,[],2⟩).set f ⟨.t 0,true,[],0⟩)) d w:=by
  cases ro with
  |true=>have R:=H rfl;subst R;(have y:an (g.set k ⟨.x l,true,[],2⟩)=an g:=by rw[dt _ _ _ _ m];funext i;unfold df;split;rename_i e;rw[e];exact m.symm;rfl);(have e2:an ((g.set k ⟨.x l,true,[],2⟩).set f ⟨.t 0,true,[],0⟩)=df (an g) f ⟨.t 0,true,[],0⟩:=by rw[dt _ _ _ _ (by rw[y];exact u),y]);exact⟨l,m3.refl l,.inl rfl,by rw[e2];exact E.kill rfl (hW rfl) (iB rfl)⟩
  |false=>
   obtain⟨J,t0,Q,s⟩:=(E.holds d (gt.refl _ _) f _ u).2 rfl
   have a0:=E.old f _ u rfl
   have y:iV N w true ⟨((d f).1,0),o,B,D⟩:=by have Z:af (λ_=>(0,0)) o=af d o:=r _ _;refine⟨r,⟨_,s,rfl⟩,λ_=>⟨E.own f _ u rfl,rfl,t0,Q,by rw[Z];exact s⟩,?_,λh=>(by cases h)⟩;have X:=(E.holds d (gt.refl _ _) f _ u).1;show w.rangeAt (d f).1 0 (af (λ_=>(0,0)) o);rw[Z];rw[J] at X;exact X
   have k1:=E.kill (b:=f) (v:=⟨.t 0,true,[],0⟩) rfl (hW rfl) (iB rfl)
   have k2:=k1.ghost (fb:=k) (l:=l++[⟨((d f).1,0),o,B,D⟩]) (λe G=>by
    have own: ∀j c,df (an g) f ⟨.t 0,true,[],0⟩ j=some c->c.ro=false->j≠f/\an g j=some c:=λj c A F=>by unfold df at A;split at A;cases A;cases F;rename_i e;exact⟨e,A⟩
    rcases aT.1 G with G|G
    have:=E.fam k _ true l e m rfl G
    exact⟨this.1,λj c _ A F=>this.2 j c (own j c A F).2 F⟩
    rw[bq.1 G]
    exact⟨y,λj c _ A F=>E.apart f j _ c u rfl (own j c A F).2 (fH F) (own j c A F).1|>λh=>h⟩)
   have s1:an (g.set k ⟨.x (l++[⟨((d f).1,0),o,B,D⟩]),true,[],2⟩)=df (an g) k ⟨.x (l++[⟨((d f).1,0),o,B,D⟩]),true,[],2⟩:=dt _ _ _ _ m
   have s2:=dt (g.set k ⟨.x (l++[⟨((d f).1,0),o,B,D⟩]),true,[],2⟩) f ⟨.t 0,true,[],0⟩ _ (by rw[s1];unfold df;rw[if_neg (Ne.symm q)];exact u)
   have L:df (df (an g) k ⟨.x (l++[⟨((d f).1,0),o,B,D⟩]),true,[],2⟩) f ⟨.t 0,true,[],0⟩=df (df (an g) f ⟨.t 0,true,[],0⟩) k ⟨.x (l++[⟨((d f).1,0),o,B,D⟩]),true,[],2⟩:=by funext i;unfold df;by_cases y:i=f;rw[if_pos y,if_neg (λe=>q (e.symm.trans y)),if_pos y];rw[if_neg y];split<;>rfl
   have e3:d f=((d f).1,0):=Prod.ext rfl J
   exact⟨l++[⟨((d f).1,0),o,B,D⟩],⟨_,rfl⟩,.inr (by rw[e3];exact pg.last),by rw[s2,s1,L];exact k2⟩
 obtain⟨z,hx,W,U⟩:=key;have h:=h _ z hx W;simp only[dR] at h;have s1:an (g.set k ⟨.x z,true,[],2⟩)=df (an g) k ⟨.x z,true,[],2⟩:=dt _ _ _ _ m;have s2:=dt (g.set k ⟨.x z,true,[],2⟩) f ⟨.t 0,true,[],0⟩ _ (by rw[s1];unfold df;rw[if_neg (Ne.symm q)];exact u);have I:(an ((g.set k ⟨.x z,true,[],2⟩).set f ⟨.t 0,true,[],0⟩) f).isSome=true:=by rw[s2];unfold df;rw[if_pos rfl];rfl
 obtain⟨V,M,O,Y⟩:=Ss rfl h U I;obtain⟨T,M,hd⟩:=St M;refine⟨T,V,M,O,λi hi=>Y i ?_,λρ P=>hd ρ (P f (Y f I))⟩;rw[s2,s1];unfold df;split;rfl;split;rfl;exact hi;exact h.elim
def XR (e:Pst) (O:Oper->List SV->List aY->(List SV->List aY->Prop)->Prop) (o:Oper) (d:List SV) (hp:List aY) (K:List SV->List aY->Prop):Prop:=O o d hp K\/e d hp λd hp=>O o d hp K
def Eo {P r} (m:wO r) {O} (x:yl P O):yl P (XR r O):=λo B D K h N G a w next Q u s=>by rcases h with h|h;exact x o B D K h u s;obtain⟨f,E,y,A⟩:=u;obtain⟨q,j,g,k,z,e⟩:=m _ _ _ h E;exact x o q j K g ⟨f,k,λρ d=>by rw[<-e ρ d];exact y ρ λi F=>d i (z i F),A⟩ s
end
section
variable {CL:List CU}
def ju:RW CU:=⟨cuC,3,fr,λ_ _ _=>rfl,fr⟩
def ki:RW GU:=⟨guC,8,fr,λ_ _ _=>rfl,fr⟩
def Dv: ∀l:List CU,eM l=bG ju l
 |[]=>rfl
 |c::l=>by rw[eM,Dv l];rfl
def DX: ∀l:List GU,eO l=bG ki l
 |[]=>rfl
 |c::l=>by rw[eO,DX l];rfl
def KK: ∀l:List ZV,qh l=bG bI l
 |[]=>rfl
 |c::l=>by rw[qh,KK l];rfl
structure Fn (fam:List mq) (c:CU):Prop where
 n:c.s.n=ln c.tl
 pos:1<=ln c.tl
 ok:bZ false c.s.n c.s.c
 at_: ∃r o,c.s.a=some ⟨r,o,none⟩/\pg fam (r,o) (bG bU c.tl)
 cor: ∀t∈c.tl,mm 327680 t
 le:ln c.tl<=100000
def Fn.mono {a b} (h:m3 a b) {c} (k:Fn a c):Fn b c:=by obtain⟨r,o,e,i⟩:=k.at_;exact⟨k.n,k.pos,k.ok,⟨r,o,e,h.inF i⟩,k.cor,k.le⟩
def l8 (CL:List CU) (z:ZV):List TR:=match pm CL z with|some c=>c.tl|none=>[]
def gF (CL:List CU) (l:List ZV):List TR:=l.flatMap (l8 CL)
def xA (n:Nat) (l:List ZV):Prop:= ∀z∈l,0<=z.x/\z.x<(n:Int)
def LY {n l} (h:xA n l) {k} (hk:k<ln l): ∃q:Nat,l[k].x=(q:Int)/\q<n:=by have:=h _ (ak hk);exact⟨l[k].x.toNat,om,om⟩
def AH {z} {q:Nat} (e:z.x=(q:Int)) (d:q<ln CL):l8 CL z=CL[q].tl:=by unfold l8 pm;rw[e,bW,ae d]
def CB {l k} (hk:k<ln l) {q:Nat} (e:l[k].x=(q:Int)) (d:q<ln CL):gF CL (l.take (k+1))=gF CL (l.take k)++CL[q].tl:=by unfold gF;rw[bE hk,dG];simp only[aL,bF,bk];rw[AH e d]
def YP {l} k:(gF CL (l.take k)).length<=(gF CL l).length:=by
 conv=>rhs;rw[<-aF k l]
 unfold gF;rw[dG,aa];omega
def D7 {hp fb fam b o a cs} (h:pg fam a cs) (h1:an hp fb=some b) (h2:b.famOf=some (o,fam)):cs=[]\/Jv hp fb a cs:= .inr ⟨_,_,_,h1,h2,h⟩
def Rc:cP:=λd e K=> ∃f CL c1 h1 n2 L c2 h2 n3 l c3 h3 fam tc td tl,d=[.agg [.sli f 0 0 (ln CL) c1 h1,.sli n2 1 0 (ln L) c2 h2],.c (.sli n3 2 0 (ln l) c3 h3)]/\e=[⟨.t tc,true,bG ju CL,0⟩,⟨.t td,true,bG ki L,0⟩,⟨.t tl,true,bG bI l,0⟩,⟨.x fam,true,[],3⟩]/\((∀c∈CL,Fn fam c)/\xA (ln CL) l/\(gF CL l).length<=100000)/\
 ∀o:OL TR,o.l=gF CL l->K (o.sl 4) [o.blk bU 58]
def y7:ic:={vA 0 s9 with O:=lR qo}
def qG:iU prog y7:=⟨(cm eR 0).T,(cm eR 0).D,gy eD,(cm eR 0).R,λ_ _ _ _ h=>(show False from h).elim⟩
def hP0:=inl y7 Mh 0
def DZ:ko prog hP0:=ck qG bj bg 0
def a4p:ic:={y7 with O:=Tt y7 hP0 y7.O 1}
def Gw:iU prog a4p:=⟨qG.T,qG.D,Es qG DZ qG.O 1,qG.R,λ_ _ _ _ h=>(show False from h).elim⟩
def Wx:pd prog 104 Rc:=iA Gw bj (ck Gw bj bg 0) ⟨func104,kr,kr⟩ λD M K z=>by
 obtain⟨U,CL,c1,N,V,L,c2,T,n3,l,Y,F,fam,W,td,X,rfl,rfl,⟨u,y,E⟩,z⟩:=z;refine⟨zD,?_⟩;conv=>whnf
 refine zK [0,1,2,3,4,1000+ 58] [1,2,5,6] [0,1,2,5] (G:={q:Nat×OL TR//q.1<=ln l/\q.2.l=gF CL (l.take q.1)}) (λg=>[(5,g.1.2.sl 5),(6,.c (.int (g.1.1:Nat) (aR F g.2.1)))]) (λg=>[(5,g.1.2.blk bU 58)]) (λg=>ln l-g.1.1) ⟨(0,OL.none),ah _,rfl⟩ trivial ?_;rintro ⟨⟨k,o⟩,p,h⟩ vs2;have p:k<=ln l:=p;have h:o.l=gF CL (l.take k):=h;dsimp only;refine zB ?_ ?_<;>intro i;have f:k<ln l:=dL i;obtain⟨q,H,e⟩:=LY y f;have d:=u _ (ak e);obtain⟨Q,I,A,x⟩:=d.at_;have j:bZ false CL[q].tl.length CL[q].s.c:=d.n▸d.ok;have B:=YP (CL:=CL) (l:=l) (k+1);rw[CB f H e,<-h,aa] at B;refine wM ?_;refine .inr ⟨22,false,Q,I,CL[q].tl.length,CL[q].s.c,j, 58,bG bU CL[q].tl,3,(by show Value.slice CL[q].s.a CL[q].s.n _=_;rw[A,d.n];rfl),D7 x rfl rfl,?_⟩;refine iT ?_;conv=>whnf
 rw[show dk (bG bU CL[q].tl) 0 (CL[q].tl.length*9)=some (bG bU CL[q].tl) from gQ bU CL[q].tl];exact⟨fZ bU _,o.app bU 58 (m:=CL[q].tl.length) (by show(ln o.l+CL[q].tl.length)*9<=5000000000000;omega),λP R=> dD [0,1,2,3,4,7] ⟨(k+1,o.push CL[q].tl rfl P R),f,(by show o.l++CL[q].tl=_;rw[CB f H e,h])⟩⟩;have r:ln l<=k:=gi i;obtain rfl:k=ln l:=bo p r;rw[bP] at h;exact zO [0,1,2,3,5] [0,1,2,4] (z o h)
end
section
variable {L V W g r A Q:Nat} {vs lw lu lq:List Nat}
structure a8K (V L:Nat) (vs:List Nat):Prop where
 hL:2<=L
 len:ln vs=L
 dl:Dl WB vs
 hv:val WB vs=V
 top:2147483648<=vs[L-1]?.getD 0
structure a8J (U V L Q:Nat) (lu lq:List Nat) (k:Nat):Prop where
 ul:ln lu=Q+L
 du:Dl WB lu
 ql:ln lq=Q
 dq:Dl WB lq
 hk:k<=Q
 lt:val WB lu<V*WB^k
 eq:val WB (lq.drop k)*WB^k*V+val WB lu=U
structure a8L (V L:Nat) (lw:List Nat) (W:Nat):Prop where
 len:ln lw=L+1
 dl:Dl WB lw
 hv:val WB lw=W
 lt:W<V*WB
def two (lw:List Nat) (L:Nat):Nat:=lw[L]?.getD 0*WB+lw[L-1]?.getD 0
structure GuI (V L W:Nat) (lw vs:List Nat) (g r:Nat):Prop where
 eq:g*vs[L-1]?.getD 0+r=two lw L
 lt:W<(g+1)*V
end
def v5 {k:Nat} (hk:k<=1000000000):IR (k:Int):=ui
def GT {n0:Nat} {b:List SV->List aY->(SE->List SV->List aY->Prop)->Prop} {f:List SV} {hp:List aY} {Q:SE->List SV->List aY->Prop} {G X:Type} (i:G->List SV) (hs:G->List aY) (k:G->Nat) (id:Nat) (m:X->(Nat->SV)->List SV) (hx:X->List aY)
 (hent:lK n0 f hp λtm2 hp2=> ∃g,tm2=i g/\hp2=hs g)
 (d: ∀Q':SE->List SV->List aY->Prop,(∀x j,Q' (.exit id) (m x j) (hx x))-> ∀g,b (i g) (hs g) λe tm' hp'=>(match e with
  | .normal=>lK n0 tm' hp' λtm2 hp2=> ∃g',k g'<k g/\tm2=i g'/\hp2=hs g'
  | .exit id=>Q' (.exit id) tm' hp'
  | .ret=>Q' .ret tm' hp'))
 (h: ∀x j,Q (.exit id) (m x j) (hx x)):
 (∃n,tV b Q n f hp)\/ ∃(I:Nat->List SV->List aY->Prop),lK n0 f hp (λf hp=> ∃n,I n f hp)/\
  ∀n tm' hp',I n tm' hp'->b tm' hp' λe tm' hp'=>(match e with
   | .normal=>lK n0 tm' hp' λf hp=> ∃n',n'<n/\I n' f hp
   | .exit id=>Q (.exit id) tm' hp'
   | .ret=>Q .ret tm' hp'):=fC i hs k hent (d Q h)
def UO {a b d b' ρ} (h1:a.den ρ=d.den ρ) (h2:b.den ρ=b'.den ρ):(SV.tup [a,b]).den ρ=(SV.tup [d,b']).den ρ:=by show Value.tuple #[a.den ρ,b.den ρ]=Value.tuple #[d.den ρ,b'.den ρ];rw[h1,h2]
def wvC (neg:Bool) (n:Nat):List C:=[.val (.bool (neg&&decide (n≠0))),.val (.string ⟨(kv n).toArray⟩)]
def Nn neg n ρ:(SV.agg (wvC neg n)).den ρ=wv (neg&&decide (n≠0)) n:=rfl
section
variable {H:FuncId->List SV->List aY->(SV->List aY->Prop)->Prop} {f:FuncId} {fn:Func} {k:Nat} {s:ByteArray} {z:Int}
def TK {P:Program} {E:ic} (m:iU P E) (hm:P.follows .mixedOrders=true) (r:ko P H) (p:iM P f fn) {args:List SV} {v:SV} (d: ∀ρ ρ',v.den ρ=v.den ρ') (g: ∀ρ ρ',args.map (SV.den ρ)=args.map (SV.den ρ')) (h:A5 E H fn args [] λu _=> ∀ρ,u.den ρ=v.den ρ) (ρ:fF) (w:World): Calls P f (args.map (SV.den ρ)).toArray w λe w'=>e= .returned (v.den ρ)/\Below w.heap.size w w':=by have q:dv w.heap.size ⟨w,λ_=>False,ρ,0⟩ (an []) ρ w:=⟨λi b h=>by simp[an] at h,λi b h=>by simp[an] at h,λi j b c h=>by simp[an] at h,λρ _ i b h=>by simp[an] at h,sR.refl _ _,ai _,λi h=>h.elim,λi b e h=>by simp[an] at h,λi j b c h=>by simp[an] at h,λi b o l e h=>by simp[an] at h⟩;refine(sG m hm r p h w.heap.size _ ρ w q (λρ' _=>g ρ' ρ)).mono ?_;rintro e w' ⟨u,hp',ρ1,hu,hh',-,he⟩;have:=he ρ1 (gt.refl _ _);exact⟨by rw[this,hu ρ1,d ρ1 ρ],hh'.bel.below⟩
def a7k (un:Nat) (l:List (FuncId×Dn)) (r:List (FuncId×Dr)) (ord:Nat->Bool):ic where
 T:=qo
 un:=un
 D:=λf args hf=>match ZM l f args with|some x=>some x|none=>ZN r f args hf
 O:=JS qo
 ord:=ord
def rS {l} (hl:dU l) {r} (e:nN r) un d:iU prog (a7k un l r d):=⟨eD,(DP hl e un).D,u4 eD,(cm hl un).R,λ_ _ _ _ h=>(show False from h).elim⟩
def a7O (b:Bool) (s:ByteArray):SV:= .agg [.val (.bool b),.val (.string s)]
def Az (d:iM prog f fn) {E} (e:iU prog E) (i:ko prog H) {g} {cap:Nat} (hp: ∀X ρ ρ',(g X).den ρ=(g X).den ρ')
  (h: ∀X:NA,X.k<=cap-> ∀b s,ku (X.k+7) b s X.z->A5 E H fn [a7O b s] [] λu _=> ∀ρ,u.den ρ=(g X).den ρ):dW prog f (Cn cap g):=
 yh d.callable hp λX j b s m ρ w=>TK e bj i d (hp X) ff (h X j b s m) ρ w
def a3N (b:Bool) (z:Int):Prop:=(b=true/\z<=0)\/(b=false/\0<=z)
def ku.sgn {b} (h:ku k b s z):a3N b z:=pD h
def a3j h {neg n} (g:n=z.natAbs) (hs:n≠0->(neg=true↔z<0)) ρ:(T1.agg (wvC neg n)).den ρ=(T1.agg [.wid k z h]).den ρ:=by obtain⟨d,e⟩:=Re neg n z g hs;show Value.agg #[.bool (neg&&decide (n≠0)),.string ⟨(kv n).toArray⟩]=Value.agg #[.bool (decide (z<0)),.string ⟨(kv z.natAbs).toArray⟩];rw[d,e]
def YV {j y} h h' (e:z=y) ρ:(T1.agg [.wid k z h]).den ρ=(T1.agg [.wid j y h']).den ρ:=by subst e;rfl
def ku.sz {b} (h:ku (k+7) b s z) (hk:k<=80000000):s.size<=300000000:=by have:=h.2;omega
end

def pZ {a b d b' ρ} (h1:a.den ρ=d.den ρ) (h2:b.den ρ=b'.den ρ):(SV.tup [a,b]).den ρ=(SV.tup [d,b']).den ρ:=UO h1 h2
def zj {a b d hb} (e:a=b) ρ:(T1.c (.int a d)).den ρ=(T1.c (.int b hb)).den ρ:=by subst e;rfl
def ur {a b} (e:a=b) ρ:(T1.c (.val (.bool a))).den ρ=(T1.c (.val (.bool b))).den ρ:=by subst e;rfl

structure FA where
 k:Nat
 j:Nat
 n:Int
 d:Int
 hn:Sm k n
 hd:Sm j d
def cB (p b:Bool):Bool:=cond p b false
def cS (p:Bool) (s e:ByteArray):ByteArray:=cond p s e
def b0:ByteArray:=⟨#[]⟩
def b1:ByteArray:=⟨(kv 1).toArray⟩

section
variable {cs:List C} {off k cap:Nat} {lo:List Nat}
def a7t n:IR ((n % 65536:Nat):Int):=ui
def iC (n:Nat):C:= .int ((n % 65536:Nat):Int) (a7t n)
def a3Z {a b d hb} (e:a=b):C.int a d=C.int b hb:=by subst e;rfl
def zg {n:Nat} (h:n<65536) {z:Int} {d:IR z} (e:z=n):C.int z d=iC n:=a3Z (by rw[e,ji h])
def tC {n:Nat} (h:n<65536):IR (n:Int):=ui
def jJ:List Nat->List C
 |[]=>[]
 |n::l=>iC n::jJ l
def oB: ∀l:List Nat,bu (jJ l)=ln l
 |[]=>rfl
 |_::l=>by rw[jJ,aS,<-oB l];show 1+_=_;omega
def jo: ∀a b:List Nat,jJ (a++b)=jJ a++jJ b
 |[],_=>rfl
 |_::l,b=>by rw[cK,jJ,jo l b];rfl
def dP: ∀l:List Nat,cC (jJ l)
 |[]=>λ_ _=>rfl
 |n::l=>λe d=>by have h:=dP l e d;rw[jJ,aL,aL,h];rfl
def uT: ∀l:List Nat,gJ (jJ l)=true
 |[]=>rfl
 |_::l=>by show(true&&gJ (jJ l))=true;rw[uT l];rfl
def xY: ∀n,tU n (iC 0)=jJ (au n 0)
 |0=>rfl
 |n+1=>by show iC 0::tU n (iC 0)=iC 0::jJ (au n 0);rw[xY n]
def xN (cs:List C) (off:Nat) (l:List Nat):Prop:=cC cs/\ ∃A B,cs=A++(jJ l++B)/\bu A=off
def xN.get {l} (h:xN cs off l) (hk:k<ln l):dk cs (off+k*1) 1=some [iC l[k]]:=by
 obtain⟨_,A,B,rfl,rfl⟩:=h;have e:jJ l=jJ (l.take k)++([iC l[k]]++jJ (l.drop (k+1))):=by (have h:l=l.take k++(l[k]::l.drop (k+1)):=by rw[<-bh hk,aF]);rw[show jJ l=jJ (l.take k++(l[k]::l.drop (k+1))) by rw[<-h],jo];rfl
 have d:A++(jJ l++B)=(A++jJ (l.take k))++([iC l[k]]++(jJ (l.drop (k+1))++B)):=by rw[e];simp only[aJ]
 have s:bu (A++jJ (l.take k))=bu A+k*1:=by rw[cw,oB,aO];omega
 rw[d,<-s];exact eY _ [iC l[k]] _
def xN.self l r:xN (jJ (l++r)) 0 l:=⟨dP _,[],jJ r,by rw[jo];rfl,rfl⟩
structure OI where
 l:List Nat
 r:List Nat
 nl:Bool
 cap:Nat
 ok:bZ nl (ln l) cap
 hr:(l++r).length<=cap
def OI.sl (o:OI) (b:Nat):SV:= .c (.sli o.nl b 0 (ln o.l) o.cap o.ok)
def OI.blk (o:OI):aY:=⟨3,o.nl,jJ (o.l++o.r),o.cap-(o.l++o.r).length⟩
def OI.new (o:OI):CW o.blk:=by
 refine⟨dP _,?_⟩
 cases h:o.nl with
 |false=>exact .inl h
 |true=>right;have f:=o.ok.1;have e:=o.ok.2.2 h;have d:=o.hr;have:o.l++o.r=[]:=aU om;unfold OI.blk aY.void;rw[h,this];rfl
def OI.ofTrim lo cap (h:bZ false (fT lo) cap) (d:ln lo<=cap):OI:=⟨lo.take (fT lo),lo.drop (fT lo),false,cap,by rw[aO,cq (iI lo)];exact h,by rw[aF];exact d⟩
def OI.ofTrim_l {h} {d:ln lo<=cap} (e:Dl RB lo):(OI.ofTrim lo cap h d).l=fK RB (val RB lo):=jE cT e
def OI.ofTrim_blk {h} {d:ln lo<=cap}:(OI.ofTrim lo cap h d).blk=⟨3,false,jJ lo,cap-ln lo⟩:=by simp only[OI.blk,OI.ofTrim,aF]
def OI.ofTrim_sl {h} {d:ln lo<=cap} b ρ:(SV.c (.sli false b 0 (fT lo) cap h)).den ρ=((OI.ofTrim lo cap h d).sl b).den ρ:=by simp only[OI.sl,OI.ofTrim,SV.den,C.den,C.cells,aO,cq (iI lo)]
def Cu (hk:k<ln lo) v:ga (jJ lo) (0+k*1) [iC v]=some (jJ (lo.set k v)):=by
 have e:jJ lo=jJ (lo.take k)++([iC lo[k]]++jJ (lo.drop (k+1))):=by (have h:lo=lo.take k++(lo[k]::lo.drop (k+1)):=by rw[<-bh hk,aF]);rw[show jJ lo=jJ (lo.take k++(lo[k]::lo.drop (k+1))) by rw[<-h],jo];rfl
 have s:bu (jJ (lo.take k))=0+k*1:=by rw[oB,aO];omega
 rw[e,<-s,jt (jJ (lo.take k)) [iC lo[k]] (jJ (lo.drop (k+1))) [iC v] rfl,cZ,if_pos hk,jo];rfl
def xN.all {l} (h:xN cs off l) {n} (d:n=ln l):dk cs off (n*1)=some (jJ l):=by obtain⟨_,A,B,rfl,rfl⟩:=h;rw[gE,d,<-oB l];exact eY A (jJ l) B
def xN.ow (o:OI):xN (jJ (o.l++o.r)) 0 o.l:=xN.self o.l o.r
def ww {l} (h:Dl RB l):(fK RB (val RB l)).length=fT l:=by rw[<-jE cT h,aO,cq (iI l)]
def xN.mk' l:xN (jJ l) 0 l:=⟨dP l,[],[],by rw[bk];rfl,rfl⟩
def OI.nil:OI:=⟨[],[],true,0,⟨ai _,dc,fr⟩,ai _⟩
def J7 {o:OI} {n:Nat} (h:o.l=fK RB n):Dl RB o.l:=by rw[h];exact eT cT n
def Ce ρ: ∀{l},Dl RB l->af ρ (jJ l)=l.map λd:Nat=>Value.int .i64 (d:Int)
 |[],_=>rfl
 |d::l,hd=>by (have h:d<65536:=by have:=hd.head;rwa[dS] at this);rw[jJ,cO,aI,<-Ce ρ hd.tail];show [Value.int .i64 ((d % 65536:Nat):Int)]++_=_;rw[ji h];rfl
def xN.int {l} (h:xN cs off l) (d:Dl RB l) (hk:k<ln l):dk cs (off+k*1) 1=some [.int (l[k]:Int) (tC (d.get k hk))]:=(h.get hk).trans (congrArg (λz=>some [z]) (zg (d.get k hk) rfl).symm)
def JD {ρ w b l nl} (g:w.rangeAt (ρ b).1 (ρ b).2 (af ρ cs)) (j:xN cs off l) (i:Dl RB l) (hs:bZ nl (ln l) cap):Wd .i64 w w.heap.size (jK nl ⟨(ρ b).1,(ρ b).2+off,none⟩) l:=λh=>by
 obtain⟨_,A,B,rfl,rfl⟩:=j;rw[bp,bp,Ce ρ i] at g;have e:=oQ g;rw[<-cU] at e;have f:nl=false:=hs.pos h;subst f;have d: ∀k,k<ln l->w.cell? ((Addr.mk (ρ b).1 ((ρ b).2+bu A) none).add k)=some (.int .i64 ((l[k]?.getD 0:Nat):Int)):=λk m=>by rw[Addr.add_mid];exact e k _ (by rw[gA,ae m];rfl)
 exact⟨_,rfl,block_lt_of_cell (e 0 _ (ae (by rw[bO];exact h))),d⟩
def unI:List C->List Nat
 | .int n _::l=>n.toNat::unI l
 |_=>[]
def UQ: ∀{l},Dl RB l->unI (jJ l)=l
 |[],_=>rfl
 |d::l,hd=>by (have h:d<65536:=by have:=hd.head;rwa[dS] at this);show((d % 65536:Nat):Int).toNat::unI (jJ l)=_;rw[UQ hd.tail,ji h];simp
def Ec (cs:List C) (off len:Nat):List Nat:=match dk cs off (len*1) with|some m=>unI m|none=>[]
def uU {l} (h:xN cs off l) (d:Dl RB l):Ec cs off (ln l)=l:=by unfold Ec;rw[h.all rfl];exact UQ d
def Xo (o:OI) (d:Dl RB o.l):Ec o.blk.cs 0 (ln o.l)=o.l:=uU (xN.ow o) d
def DD:Dr
 |[.c (.val (.bool neg)),.c (.sli _ b off len _ _)],hf=>(match hf b with
  |some blk=>some (some (∃l,xN blk.cs off l/\ln l=len/\Dl RB l/\len<=1000000000),.agg (wvC neg (val RB (Ec blk.cs off len))))
  |none=>none)
 |[.c (.val (.bool _)),.c (.val (.slice none 0 0))],_=>some (none,.agg (wvC false 0))
 |_,_=>none
def Uu:CY prog 63 DD:=by
 refine⟨⟨_, func63,kr,kr⟩,λo y p v d=> ?_⟩;unfold DD at d;split at d;rename_i neg u b off len cap g;split at d;rename_i blk s;cases d;refine⟨ff,λr i w q=> ?_⟩;obtain⟨l,m,f,h,j⟩:=r _ rfl;subst f;have x:=(q b blk s).1;rw[Nn,uU m h];exact mP l (jK u ⟨(i b).1,(i b).2+off,none⟩) (ln l) cap neg w h (JD x m h g) rfl j g.1 g.2.1;cases d;rename_i neg;cases d;refine⟨ff,λ_ i w _=> ?_⟩;have:=mP [] none 0 0 neg w (Dl.nil _) (Wd.nil _ _ _ _) rfl dc dc dc;have e:wv (neg&&decide (val RB []≠0)) (val RB [])=wv (false&&decide (0≠0)) 0:=by simp[val]
 rw[Nn];rw[e] at this;exact this;cases d
end
def Rd:cP:=λe g K=> ∃j d len f h m i l,e=[.c (.sli j 0 d len f h)]/\g=[⟨m,true,i,0⟩]/\ln l=len/\xN i d l/\Dl RB l/\ ∀k,K (.c (.sli j 0 d (fT l) f k)) []
def eq0 {k:Nat} (h:decide ((k:Int)=0)=true):k=0:=by have:=of_decide_eq_true h;omega
def ne0 {k:Nat} (h:decide ((k:Int)=0)=false):k≠0:=by have:=of_decide_eq_false h;omega
def RK:jv prog 92 Rd:=cV (rR 0) bj (qV .nil (rR 0) bj bg 0) ⟨func92,kr,kr⟩ λF M K y=>by
 obtain⟨A,p,_,o,i,L,N,l,rfl,rfl,rfl,D,H,y⟩:=y;refine⟨zD,?_⟩;conv=>whnf
 refine fC (G:={g:Nat×(Nat->Value)//g.1<=ln l/\ ∀j,g.1<=j->l.getD j 0=0}) (λg=>.c (.sli A 0 p g.1.1 o (gL i g.2.1))::tn g.1.2 1 20 []) (λg=>[⟨L,true,N,0⟩]) (λg=>g.1.1) ?_ ?_;exact zY [0] [0] [0] λE=>⟨(ln l,E),ai _,λj I=>by rw[ao,bi I];rfl⟩;rintro⟨⟨k,E⟩,f,q⟩;have f:k<=ln l:=f;have q: ∀j,k<=j->l.getD j 0=0:=q;refine zB ?_ ?_<;>intro r;have d:0<k:=a5d r;have hkl:k-1<ln l:=om;have h:IR ((k-1:Nat):Int):=ltI i om;conv=>whnf
 conv=>arg 2;tactic'=>exact be (hi:=h) rfl rfl rfl (FX (CJ d (gL i f).ir) h) (Nat.sub_lt d Nat.one_pos)
 conv=>whnf
 conv=>arg 2;tactic'=>exact ap (m:=[.int (l[k-1]:Int) (tC (H.get (k-1) hkl))]) rfl rfl rfl rfl (D.int H hkl) rfl
 refine zB ?_ ?_<;>intro B;have x:l[k-1]=0:=eq0 B;conv=>whnf
 conv=>arg 2;tactic'=>exact fN (hi:=h) rfl rfl rfl (FX (CJ d (gL i f).ir) h) (aC (Nat.sub_le k 1) (aC f i.1)) (gL i (aC (Nat.sub_le k 1) f))
 conv=>whnf
 refine (zR [0] [0] [0] λs=>⟨(k-1,s),aC (Nat.sub_le k 1) f,λj I=> ?_⟩);by_cases e:j=k-1;rw[e,ao,ae hkl];exact x;exact q j om;have x:l[k-1]≠0:=ne0 B;conv=>whnf
 have u:fT l=k:=pU f q (.inr (by rw[ao,ae hkl];exact x))
 iterate 2
  try
   have z:k=0:=GQ r
   conv=>whnf
   have u:fT l=k:=pU f q (.inl z)
  have J:bZ A (fT l) o:=by rw[u];exact gL i f
  refine⟨[0],[0],λs=>⟨D.1,_,[],rfl,gz _,trivial,.c (.sli A 0 p (fT l) o J),λO=> ?_,y _⟩⟩
  simp only[SV.den,C.den,C.cells,u]
section
variable {x i:Nat} {la lb lo:List Nat}
def a5A {y u c} (hx:x<65536) (hy:y<65536) (d:u<65536) (e:c<65536):x*y<=4294836225/\u+x*y+c<4294967296:=by have h:x*y<=65535*65535:=gd om om;omega
def O1 {y u c:Nat} (h1:x*y<=4294836225) (h2:u+x*y+c<4294967296):IntKind.i64.wrap (IntKind.i64.wrap ((u:Int)+IntKind.i64.wrap ((x:Int)*(y:Int)))+(c:Int))=((u+x*y+c:Nat):Int):=by rw[<-Int.natCast_mul,cN (z:=((x*y:Nat):Int)) ui,cN (z:=(u:Int)+((x*y:Nat):Int)) ui,cN ui];omega
def X9 {z:Int} {d:Nat} (e:z=d):z.tmod 65536=((d % 65536:Nat):Int):=by subst e;rw[kZ om];omega
def XY {z:Int} {d:Nat} (e:z=d) (h:d<9223372036854775808):IntKind.i64.wrap (z.tdiv 65536)=((d/65536:Nat):Int):=by subst e;rw[iq om,cN ui];omega
def v6 n:cC (tU n (iC 0)):=by rw[xY];exact dP _
def Vt (la lb lo:List Nat) (i:Nat):Prop:=ln lo=ln la+ln lb/\Dl RB lo/\val RB lo=val RB (la.take i)*val RB lb/\ ∀j,i+ln lb<=j->lo[j]?.getD 0=0
def Nt (la lb lo:List Nat) (i x k c:Nat):Prop:=ln lo=ln la+ln lb/\Dl RB lo/\c<65536/\val RB lo+RB^(i+k)*c=val RB (la.take i)*val RB lb+x*val RB (lb.take k)*RB^i/\ ∀j,i+ln lb<=j->lo[j]?.getD 0=0
def Nt.start (h:Vt la lb lo i):Nt la lb lo i x 0 0:=⟨h.1,h.2.1,om,by have:=h.2.2.1;simp[val,this],h.2.2.2⟩
def Nt.step {k c} (h:Nt la lb lo i x k c) (hk:k<ln lb) (hx:x<65536) (hb:Dl RB lb) {hj:i+k<ln lo}: Nt la lb (lo.set (i+k) ((lo[i+k]+x*lb[k]+c) % 65536)) i x (k+1) ((lo[i+k]+x*lb[k]+c)/65536)/\x*lb[k]<=4294836225/\lo[i+k]+x*lb[k]+c<4294967296:=by obtain⟨q,e,p,m,o⟩:=h;have f:=a5A hx (hb.get k hk) (e.get (i+k) hj) p;have g:=zy hj m;rw[oy hj,oy hk] at g;exact⟨⟨by rw[aZ];exact q,e.set _ (fg _ fv),by have:=f.2;omega,g,λj d=>by rw[eF om];exact o j d⟩,f⟩
def Nt.last {c} (hi:i<ln la) (h:Nt la lb lo i la[i] (ln lb) c):Vt la lb (lo.set (i+ln lb) c) (i+1):=by obtain⟨k,f,g,e,d⟩:=h;refine⟨by rw[aZ];exact k,f.set _ (by rw[dS];exact g),Ei (a:=la) om (d _ (ai _)) (by rw[oy hi];exact e),λj m=> ?_⟩;rw[eF om];exact d j om
def a3V (ok:List Nat->List Nat->Prop) (f:Nat->Nat->Nat):cP:=λm z K=> ∃r g d q A y j la u h e p B s k lb,m=[.c (.sli r 0 g d q A),.c (.sli u 1 h e p B)]/\z=[⟨y,true,j,0⟩,⟨s,true,k,0⟩]/\
 ln la=d/\ln lb=e/\xN j g la/\xN k h lb/\Dl RB la/\Dl RB lb/\d<=200000000/\e<=200000000/\ok la lb/\ ∀o:OI,o.nl=false->o.l=fK RB (f (val RB la) (val RB lb))->K (o.sl 2) [o.blk]
def Rb:cP:=a3V (λ_ _=>True) (· * ·)
def a5Y:List (FuncId×cP):=[(92,Rd)]
def H0:iL prog a5Y:= .cons RK .nil
def Wv:jv prog 89 Rb:=cV (rR 0) bj (qV H0 (rR 0) bj bg 0) ⟨func89,kr,kr⟩ λa4 a5 K hc=>by
 obtain⟨W,A,_,F,V,T,N,la,Q,I,_,E,Y,O,U,lb,rfl,rfl,rfl,rfl,r,q,da,db,sa,sb,-,hc⟩:=hc
 refine⟨λρ a6 e=> ?_,?_⟩
 ·have Z:=e 0 (show 0<2 by decide)
  have e1:=e 1 (show 1<2 by decide)
  simp only[cg,SV.den,C.den,C.cells,Z,e1]
 conv=>whnf
 have s:(ln la+ln lb)<=1000000000:=by omega
 have D:IntKind.i64.wrap ((ln la:Int)+(ln lb:Int))=(((ln la+ln lb):Nat):Int):=AQ (ai _) s
 refine⟨rfl,(ln la+ln lb),(ln la+ln lb),D,D,ai _,om,λh2=> ?_⟩
 conv=>whnf
 refine fC (G:={g:Nat×List Nat×(Nat->Value)//g.1<=ln la/\Vt la lb g.2.1 g.1}) (λg=>(.c (.sli W 0 A (ln la) F V):: .c (.sli Q 1 I (ln lb) E Y):: .c (.val (g.1.2.2 2)):: .c (.val (g.1.2.2 3)):: .c (.val (g.1.2.2 4)):: .c (.sli false 2 0 (ln la+ln lb) (ln la+ln lb) h2):: .c (.int (g.1.1:Nat) (ltI V g.2.1)):: .c (.val (g.1.2.2 7)):: .c (.val (g.1.2.2 8)):: .c (.val (g.1.2.2 9)):: .c (.val (g.1.2.2 10)):: .c (.val (g.1.2.2 11)):: .c (.val (g.1.2.2 12)):: .c (.val (g.1.2.2 13)):: .c (.val (g.1.2.2 14)):: .c (.val (g.1.2.2 15)):: .c (.val (g.1.2.2 16)):: .c (.val (g.1.2.2 17)):: .c (.val (g.1.2.2 18)):: .c (.val (g.1.2.2 19)):: .c (.val (g.1.2.2 20)):: .c (.val (g.1.2.2 21)):: .c (.val (g.1.2.2 22)):: .c (.val (g.1.2.2 23)):: .c (.val (g.1.2.2 24)):: .c (.val (g.1.2.2 25)):: .c (.val (g.1.2.2 26)):: .c (.val (g.1.2.2 27)):: .c (.val (g.1.2.2 28)):: .c (.val (g.1.2.2 29)):: .c (.val (g.1.2.2 30)):: .c (.val (g.1.2.2 31)):: .c (.val (g.1.2.2 32)):: .c (.val (g.1.2.2 33)):: .c (.val (g.1.2.2 34)):: .c (.val (g.1.2.2 35)):: .c (.val (g.1.2.2 36)):: .c (.val (g.1.2.2 37)):: .c (.val (g.1.2.2 38)):: .c (.val (g.1.2.2 39)):: .c (.val (g.1.2.2 40)):: .c (.val (g.1.2.2 41)):: .c (.val (g.1.2.2 42)):: .c (.val (g.1.2.2 43)):: .c (.val (g.1.2.2 44)):: .c (.val (g.1.2.2 45)):: .c (.val (g.1.2.2 46)):: .c (.val (g.1.2.2 47)):: .c (.val (g.1.2.2 48)):: .c (.val (g.1.2.2 49)):: .c (.val (g.1.2.2 50)):: .c (.val (g.1.2.2 51)):: .c (.val (g.1.2.2 52)):: .c (.val (g.1.2.2 53)):: .c (.val (g.1.2.2 54)):: .c (.val (g.1.2.2 55)):: .c (.val (g.1.2.2 56)):: .c (.val (g.1.2.2 57)):: .c (.val (g.1.2.2 58)):: .c (.val (g.1.2.2 59)):: .c (.val (g.1.2.2 60)):: .c (.val (g.1.2.2 61)):: .c (.val (g.1.2.2 62)):: .c (.val (g.1.2.2 63))::[])) (λg=>[⟨T,true,N,0⟩,⟨O,true,U,0⟩,⟨3,false,jJ g.1.2.1,0⟩]) (λg=>ln la-g.1.1) ?_ ?_
 ·refine⟨[0,1,2],[0,1,5,6],[0,1,2],λvs=> ?_⟩
  refine⟨r.1,q.1,v6 _,?_⟩
  refine⟨_,_,?_,?_,⟨(0,au (ln la+ln lb) 0,vs),ah _,bb,Dl.replicate fv _,by simp[val,jS],λj _=>by rw[gT];split<;>rfl⟩,rfl,rfl⟩
  ·exact⟨fr,fr,fr,fr,fr,fr,fr,fr,fr,fr,fr,fr,gm _⟩
  ·exact⟨⟨rfl,rfl,rfl,fr⟩,⟨rfl,rfl,rfl,fr⟩,⟨rfl,rfl,kz _,λρ=>by rw[<-xY];rfl⟩,trivial⟩
 ·rintro⟨⟨i,lo,vs⟩,hi,y⟩
  have hi:i<=ln la:=hi
  have y:Vt la lb lo i:=y
  refine zB ?_ ?_<;>intro d
  ·have d:i<ln la:=dL d
   have P:(la[i]'d)<65536:=da.get i d
   conv=>whnf
   refine fC (G:={g:Nat×Nat×List Nat×(Nat->Value)//g.1<=ln lb/\Nt la lb g.2.2.1 i (la[i]'d) g.1 g.2.1}) (λg=>(.c (.sli W 0 A (ln la) F V):: .c (.sli Q 1 I (ln lb) E Y):: .c (.val (g.1.2.2.2 2)):: .c (.val (g.1.2.2.2 3)):: .c (.val (g.1.2.2.2 4)):: .c (.sli false 2 0 (ln la+ln lb) (ln la+ln lb) h2):: .c (.int (i:Nat) (ltI V hi)):: .c (.int (g.1.2.1:Nat) (tC g.2.2.2.2.1)):: .c (.int (g.1.1:Nat) (ltI Y g.2.1)):: .c (.val (g.1.2.2.2 9)):: .c (.val (g.1.2.2.2 10)):: .c (.val (g.1.2.2.2 11)):: .c (.val (g.1.2.2.2 12)):: .c (.val (g.1.2.2.2 13)):: .c (.val (g.1.2.2.2 14)):: .c (.val (g.1.2.2.2 15)):: .c (.val (g.1.2.2.2 16)):: .c (.val (g.1.2.2.2 17)):: .c (.val (g.1.2.2.2 18)):: .c (.val (g.1.2.2.2 19)):: .c (.val (g.1.2.2.2 20)):: .c (.val (g.1.2.2.2 21)):: .c (.val (g.1.2.2.2 22)):: .c (.val (g.1.2.2.2 23)):: .c (.val (g.1.2.2.2 24)):: .c (.val (g.1.2.2.2 25)):: .c (.val (g.1.2.2.2 26)):: .c (.val (g.1.2.2.2 27)):: .c (.val (g.1.2.2.2 28)):: .c (.val (g.1.2.2.2 29)):: .c (.val (g.1.2.2.2 30)):: .c (.val (g.1.2.2.2 31)):: .c (.val (g.1.2.2.2 32)):: .c (.val (g.1.2.2.2 33)):: .c (.val (g.1.2.2.2 34)):: .c (.val (g.1.2.2.2 35)):: .c (.val (g.1.2.2.2 36)):: .c (.val (g.1.2.2.2 37)):: .c (.val (g.1.2.2.2 38)):: .c (.val (g.1.2.2.2 39)):: .c (.val (g.1.2.2.2 40)):: .c (.val (g.1.2.2.2 41)):: .c (.val (g.1.2.2.2 42)):: .c (.val (g.1.2.2.2 43)):: .c (.val (g.1.2.2.2 44)):: .c (.val (g.1.2.2.2 45)):: .c (.val (g.1.2.2.2 46)):: .c (.val (g.1.2.2.2 47)):: .c (.val (g.1.2.2.2 48)):: .c (.val (g.1.2.2.2 49)):: .c (.val (g.1.2.2.2 50)):: .c (.val (g.1.2.2.2 51)):: .c (.val (g.1.2.2.2 52)):: .c (.val (g.1.2.2.2 53)):: .c (.val (g.1.2.2.2 54)):: .c (.val (g.1.2.2.2 55)):: .c (.val (g.1.2.2.2 56)):: .c (.val (g.1.2.2.2 57)):: .c (.val (g.1.2.2.2 58)):: .c (.val (g.1.2.2.2 59)):: .c (.val (g.1.2.2.2 60)):: .c (.val (g.1.2.2.2 61)):: .c (.val (g.1.2.2.2 62)):: .c (.val (g.1.2.2.2 63))::[])) (λg=>[⟨T,true,N,0⟩,⟨O,true,U,0⟩,⟨3,false,jJ g.1.2.2.1,0⟩]) (λg=>ln lb-g.1.1) ?_ ?_
   ·refine⟨[0,1,2],[0,1,5,6,7,8],[0,1,2],λM=> ?_⟩
    refine⟨r.1,q.1,dP _,?_⟩
    refine⟨_,_,?_,?_,⟨(0,0,lo,M),ah _,Nt.start y⟩,rfl,rfl⟩
    ·exact⟨fr,fr,fr,fr,fr,fr,fr,fr,fr,fr,fr,fr,gm _⟩
    ·exact⟨⟨rfl,rfl,rfl,fr⟩,⟨rfl,rfl,rfl,fr⟩,⟨rfl,rfl,rfl,fr⟩,trivial⟩
   ·rintro⟨⟨k,c,o,M⟩,hk,B⟩
    have hk:k<=ln lb:=hk
    have B:Nt la lb o i (la[i]'d) k c:=B
    refine zB ?_ ?_<;>intro f
    ·have f:k<ln lb:=dL f
     have u:i+k<ln o:=by have:=B.1;omega
     have p:i+k<(ln la+ln lb):=by omega
     obtain⟨a0,a1,a2⟩:=B.step f P db (hj:=u)
     have Z:=O1 a1 a2
     have X:=AQ (bw p) s
     have h:IR ((i+k:Nat):Int):=SR om
     have H:=B.2.1
     conv=>whnf
     conv=>
      arg 2
      tactic'=>
       apply be (hi:=h) (ho:= ?how1) (hT:= ?hTw1) (hx:= ?hxw1) (hk:= ?hkw1) (hlt:= ?hltw1)
       case how1=>rfl
       case hTw1=>rfl
       case hxw1=>rfl
       case hkw1=>exact FX X h
       case hltw1=>exact p
     conv=>whnf
     conv=>
      arg 2
      tactic'=>
       apply ap (m:=[.int (((o[i+k]'u):Nat):Int) (tC (H.get _ u))]) (ho:= ?how2) (hT:= ?hTw2) (hx:= ?hxw2) (hb:= ?hbw2) (hm:= ?hmw2) (hv:= ?hvw2)
       case how2=>rfl
       case hTw2=>rfl
       case hxw2=>rfl
       case hbw2=>rfl
       case hmw2=>exact(xN.mk' o).int H u
       case hvw2=>rfl
     conv=>whnf
     conv=>
      arg 2
      tactic'=>
       apply be (ho:= ?how3) (hT:= ?hTw3) (hx:= ?hxw3) (hk:= ?hkw3) (hlt:= ?hltw3)
       case how3=>rfl
       case hTw3=>rfl
       case hxw3=>rfl
       case hkw3=>rfl
       case hltw3=>exact d
     conv=>whnf
     conv=>
      arg 2
      tactic'=>
       apply ap (m:=[.int (((la[i]'d):Nat):Int) (tC (da.get _ d))]) (ho:= ?how4) (hT:= ?hTw4) (hx:= ?hxw4) (hb:= ?hbw4) (hm:= ?hmw4) (hv:= ?hvw4)
       case how4=>rfl
       case hTw4=>rfl
       case hxw4=>rfl
       case hbw4=>rfl
       case hmw4=>exact r.int da d
       case hvw4=>rfl
     conv=>whnf
     conv=>
      arg 2
      tactic'=>
       apply be (ho:= ?how5) (hT:= ?hTw5) (hx:= ?hxw5) (hk:= ?hkw5) (hlt:= ?hltw5)
       case how5=>rfl
       case hTw5=>rfl
       case hxw5=>rfl
       case hkw5=>rfl
       case hltw5=>exact f
     conv=>whnf
     conv=>
      arg 2
      tactic'=>
       apply ap (m:=[.int (((lb[k]'f):Nat):Int) (tC (db.get _ f))]) (ho:= ?how6) (hT:= ?hTw6) (hx:= ?hxw6) (hb:= ?hbw6) (hm:= ?hmw6) (hv:= ?hvw6)
       case how6=>rfl
       case hTw6=>rfl
       case hxw6=>rfl
       case hbw6=>rfl
       case hmw6=>exact q.int db f
       case hvw6=>rfl
     conv=>whnf
     conv=>
      arg 2
      tactic'=>
       apply be (hi:=h) (ho:= ?how7) (hT:= ?hTw7) (hx:= ?hxw7) (hk:= ?hkw7) (hlt:= ?hltw7)
       case how7=>rfl
       case hTw7=>rfl
       case hxw7=>rfl
       case hkw7=>exact FX X h
       case hltw7=>exact p
     conv=>whnf
     conv=>
      arg 2
      tactic'=>
       apply bM (l:=[iC (((o[i+k]'u)+(la[i]'d)*(lb[k]'f)+c) % 65536)]) (cs:=jJ (o.set (i+k) (((o[i+k]'u)+(la[i]'d)*(lb[k]'f)+c) % 65536))) (ho:= ?how8) (hT:= ?hTw8) (hx:= ?hxw8) (hy:= ?hyw8) (hl:= ?hlw8) (hb:= ?hbw8) (hro:= ?hrow8) (hs:= ?hsw8)
       case how8=>rfl
       case hTw8=>rfl
       case hxw8=>rfl
       case hyw8=>exact congrArg (λz=>some [z]) (zg (fg _ dc) (X9 Z))
       case hlw8=>exact⟨rfl,rfl⟩
       case hbw8=>rfl
       case hrow8=>rfl
       case hsw8=>exact Cu u _
     conv=>whnf
     rw[bV]
     refine⟨[0,1,2],[0,1,5,6,7,8],[0,1,2],λJ=> ?_⟩
     refine⟨r.1,q.1,dP _,?_⟩
     refine⟨_,_,?_,?_,⟨(k+1,((o[i+k]'u)+(la[i]'d)*(lb[k]'f)+c)/65536,o.set (i+k) (((o[i+k]'u)+(la[i]'d)*(lb[k]'f)+c) % 65536),J),f,a0⟩,(by omega:ln lb-(k+1)<ln lb-k),rfl,rfl⟩
     ·exact⟨fr,fr,fr,fr,fr,fr,fr,iY (XY Z om) _ _,iY (dr f Y.ir) _ _,fr,fr,fr,gm _⟩
     ·exact⟨⟨rfl,rfl,rfl,fr⟩,⟨rfl,rfl,rfl,fr⟩,⟨rfl,rfl,rfl,fr⟩,trivial⟩
    ·have L:k=ln lb:=bo hk (gi f)
     subst L
     have u:i+ln lb<ln o:=by have:=B.1;omega
     have p:i+ln lb<(ln la+ln lb):=by omega
     have X:=AQ (bw p) s
     have h:IR ((i+ln lb:Nat):Int):=SR om
     have R:c<65536:=B.2.2.1
     conv=>whnf
     conv=>
      arg 2
      tactic'=>
       apply be (hi:=h) (ho:= ?how9) (hT:= ?hTw9) (hx:= ?hxw9) (hk:= ?hkw9) (hlt:= ?hltw9)
       case how9=>rfl
       case hTw9=>rfl
       case hxw9=>rfl
       case hkw9=>exact FX X h
       case hltw9=>exact p
     conv=>whnf
     conv=>
      arg 2
      tactic'=>
       apply bM (l:=[iC (c)]) (cs:=jJ (o.set (i+ln lb) c)) (ho:= ?how10) (hT:= ?hTw10) (hx:= ?hxw10) (hy:= ?hyw10) (hl:= ?hlw10) (hb:= ?hbw10) (hro:= ?hrow10) (hs:= ?hsw10)
       case how10=>rfl
       case hTw10=>rfl
       case hxw10=>rfl
       case hyw10=>exact congrArg (λz=>some [z]) (zg R rfl)
       case hlw10=>exact⟨rfl,rfl⟩
       case hbw10=>rfl
       case hrow10=>rfl
       case hsw10=>exact Cu u _
     conv=>whnf
     rw[bV]
     refine⟨[0,1,2],[0,1,5,6],[0,1,2],λJ=> ?_⟩
     refine⟨r.1,q.1,dP _,?_⟩
     refine⟨_,_,?_,?_,⟨(i+1,o.set (i+ln lb) c,J),d,B.last d⟩,(by omega:ln la-(i+1)<ln la-i),rfl,rfl⟩
     ·exact⟨fr,fr,fr,fr,fr,fr,iY (dr d V.ir) _ _,fr,fr,fr,fr,fr,gm _⟩
     ·exact⟨⟨rfl,rfl,rfl,fr⟩,⟨rfl,rfl,rfl,fr⟩,⟨rfl,rfl,rfl,fr⟩,trivial⟩
  ·have L:i=ln la:=bo hi (gi d)
   subst L
   refine⟨⟨dP (lo),trivial⟩,⟨_,_,_,_,_,_,_,lo,rfl,rfl,y.1,⟨dP (lo),[],[],by rw[bk];rfl,rfl⟩,y.2.1,λh3=> ?_⟩⟩
   refine⟨[0,1,2],[0,1,2],λM=> ?_⟩
   refine⟨r.1,q.1,dP _,?_⟩
   refine⟨_,[(OI.ofTrim lo (ln la+ln lb) h3 (CS y.1)).blk],rfl,⟨⟨rfl,rfl,rfl,fr⟩,⟨rfl,rfl,rfl,fr⟩,⟨rfl,rfl,?_,λρ=> ?_⟩,trivial⟩,⟨OI.new _,trivial⟩,_,λρ=>OI.ofTrim_sl 2 ρ,hc _ rfl ?_⟩
   ·rw[OI.ofTrim_blk];have:=y.1;show 0=(ln la+ln lb)-ln lo;omega
   ·rw[OI.ofTrim_blk]
   ·rw[OI.ofTrim_l y.2.1,y.2.2.1,bP]
end
section
variable {o:OI} {d cap2:Nat}
def OI.out (l:List Nat) (nl:Bool) (cap:Nat) (ok:bZ nl (ln l) cap):OI:=⟨l,[],nl,cap,ok,by rw[bk];exact ok.1⟩
def OI.snoc (l:List Nat) (d cap:Nat) (h:bZ false (ln l+1) cap):OI:=OI.out (l++[d]) false cap (by rw[aa];exact h)
def OI.size (e:o.r=[]):bu (jJ (o.l++o.r))=ln o.l*1:=by rw[e,bk,oB,gE]
def OI.room (e:o.r=[]):bu (jJ (o.l++o.r))+(o.cap-(o.l++o.r).length)=o.cap*1:=by have:=o.ok.1;rw[oB,e,bk];omega
def Ue {nl n c} (h:bZ (nl&&decide (1=0)) n c):bZ false n c:=⟨h.1,h.2.1,λe=>by cases e⟩
def a0A nl:(nl&&decide (1=0))=false:=by cases nl<;>rfl
def Av (g:o.r=[]) {z f} (e:C.int z f=iC d) ρ:af ρ (jJ (o.l++o.r)++[.int z f])=af ρ (jJ ((o.l++[d])++[])):=by rw[g,bk,bk,jo,e];rfl
def MO :(cap2-(ln o.l+1))*1=cap2-((o.l++[d])++[]).length:=by rw[bk,aa,gE];rfl
def HF {l nl b i} {h:bZ (i&&decide (1=0)) (ln l+1) cap2} h' (e:nl=b) ρ f (g:ρ nl=f b):(SV.c (.sli (i&&decide (1=0)) nl 0 (ln l+1) cap2 h)).den ρ=((OI.snoc l d cap2 h').sl b).den f:=by subst e;show Value.slice (jK (i&&decide (1=0)) _) _ _=Value.slice (jK false _) (l++[d]).length _;rw[a0A,g,aa];rfl
structure a82 (la lb:List Nat) (k c:Nat) (o:OI):Prop where
 r:o.r=[]
 len:ln o.l=k
 dl:Dl RB o.l
 hc:c<=1
 hk:k<=max (ln la) (ln lb)+1
 hk2:c=1->k<=max (ln la) (ln lb)
 hv:val RB o.l+RB^k*c=val RB (la.take k)+val RB (lb.take k)
end
section
variable {o:OI} {la lb:List Nat}
def OI.cut (o:OI) (h:bZ o.nl (fT o.l) o.cap):OI:=⟨o.l.take (fT o.l),o.l.drop (fT o.l)++o.r,o.nl,o.cap,by rw[aO,cq (iI o.l)];exact h,by rw[<-aJ,aF];exact o.hr⟩
def OI.cut_l {h} (d:Dl RB o.l):(o.cut h).l=fK RB (val RB o.l):=jE cT d
def OI.cut_blk {h}:(o.cut h).blk=o.blk:=by simp only[OI.blk,OI.cut,<-aJ,aF]
def OI.cut_sl {h} b ρ:(SV.c (.sli o.nl b 0 (fT o.l) o.cap h)).den ρ=((o.cut h).sl b).den ρ:=by simp only[OI.sl,OI.cut,SV.den,C.den,C.cells,aO,cq (iI o.l)]
structure a8V (la lb:List Nat) (k c:Nat) (o:OI):Prop where
 r:o.r=[]
 len:ln o.l=k
 dl:Dl RB o.l
 hc:c<=1
 hk:k<=ln la
 hv:val RB o.l+val RB (lb.take k)=val RB (la.take k)+RB^k*c
end
section
variable {s:ByteArray} {j cap:Nat}
structure Ii (s:ByteArray) (j:Nat) (o:OI):Prop where
 r:o.r=[]
 len:ln o.l=j
 dl:Dl RB o.l
 hj:2*j<=s.size+1
 hv:val RB o.l=fB (s.data.toList.drop (s.size-2*j))
def Ii.start s:Ii s 0 OI.nil:=⟨rfl,rfl,Dl.nil _,om,by rw[ft (by rw[dg];exact ai _)];simp[val,OI.nil,fB]⟩
def EM {i} (h:i<s.size):s.data.toList[i]? =some (s.data[i]?.getD 0):=a2S h
def Ii.two {o} (h:Ii s j o) (hj:2*j+2<=s.size) {hs}:Ii s (j+1) (OI.snoc o.l ((s.data[s.size-2*j-1]?.getD 0).toNat+256*(s.data[s.size-2*j-2]?.getD 0).toNat) cap hs):=by refine⟨rfl,?_,h.dl.append (Dl.one (Kz _ _)),om,?_⟩;show(o.l++[_]).length=_;rw[aa,h.len];rfl;have d:=h.hv;rw[dS] at d⊢;exact yS (by rw[dg];rfl) h.len hj (EM om) (EM om) d
def Ii.one {o} (h:Ii s j o) (hj:2*j+1=s.size) {hs}:Ii s (j+1) (OI.snoc o.l (s.data[s.size-2*j-1]?.getD 0).toNat cap hs):=by refine⟨rfl,?_,h.dl.append (Dl.one (JY _)),om,?_⟩;show(o.l++[_]).length=_;rw[aa,h.len];rfl;have d:=h.hv;rw[dS] at d⊢;exact yR (by rw[dg];rfl) h.len hj (by rw[<-EM (s:=s) (i:=s.size-2*j-1) om];congr 1;omega) d
def a38 {n:Nat} (d:n<=300000000) (hj:2*j<=n+1):IR ((n:Int)-2*(j:Int)):=ui
def a1G {n:Nat}:(n:Int)=(n:Int)-2*((0:Nat):Int):=om
def a1E {n:Nat} (d:n<=300000000) (hj:2*j<n):wr ix ((n:Int)-2*(j:Int)-1)=((n-2*j-1:Nat):Int):=by rw[cN ui];omega
def a1F {n:Nat} (d:n<=300000000) (hj:2*j+2<=n):wr ix ((n:Int)-2*(j:Int)-2)=((n-2*j-2:Nat):Int):=by rw[cN ui];omega
def R2 {n:Nat} (d:n<=300000000) (hj:2*j<n):wr ix ((n:Int)-2*(j:Int)-2)=(n:Int)-2*((j+1:Nat):Int):=by rw[cN ui];omega
def Eu (x:UInt8):wr ix (x.toNat:Int)=((x.toNat:Nat):Int):=by have:=UInt8.toNat_lt x;exact cN ui
def YQ (x y:UInt8):wr ix (wr ix (x.toNat:Int)+wr ix (256*wr ix (y.toNat:Int)))=((x.toNat+256*y.toNat:Nat):Int):=by have:=UInt8.toNat_lt x;have:=UInt8.toNat_lt y;rw[Eu,Eu,cN (z:=256*(y.toNat:Int)) ui,cN ui];omega
def gt0 {n:Nat} (h:decide ((0:Int)<(n:Int)-2*(j:Int))=true):2*j<n:=by have:=of_decide_eq_true h;omega
def a7G {n:Nat} (h:decide ((0:Int)<(n:Int)-2*(j:Int))=false):n<=2*j:=by have:=of_decide_eq_false h;omega
def gt1 {n:Nat} (h:decide ((1:Int)<(n:Int)-2*(j:Int))=true):2*j+2<=n:=by have:=of_decide_eq_true h;omega
def a7H {n:Nat} (h:decide ((1:Int)<(n:Int)-2*(j:Int))=false):n<=2*j+1:=by have:=of_decide_eq_false h;omega
def Lb:cP:=λd e K=> ∃x b s,d=[.agg x]/\e=[]/\Fr x b s/\s.size<=300000000/\ ∀o:OI,o.l=fK RB (fB s.data.toList)->K (o.sl 0) [o.blk]
def Rx:jv prog 62 Lb:=Wz (rR 0) bj (qV H0 (rR 0) bj bg 0) ⟨func62,kr,kr⟩ λJ N K H=>by
 obtain⟨x,b,s,rfl,rfl,P,k,H⟩:=H;have F:IR (s.size:Int):=ui;refine⟨[.agg [.val (.bool b),.val (.string s)]],λi=>by show [(SV.agg x).den i]=_;rw[P.den i];rfl,λ_ _ _=>rfl,?_⟩;conv=>whnf
 conv=>arg 2;tactic'=>exact Gf rfl rfl rfl rfl rfl rfl F
 conv=>whnf
 refine fC (G:={g:Nat×OI×(Nat->Value)//Ii s g.1 g.2.1}) (λg=>.c (.val (g.1.2.2 0)):: .c (.ptr 0 0):: .c (.val (g.1.2.2 2))::(g.1.2.1.sl 1):: .c (.val (g.1.2.2 4)):: .c (.int ((s.size:Int)-2*(g.1.1:Int)) (a38 k g.2.hj))::tn g.1.2.2 6 32 []) (λg=>[⟨61,false,[.val (.bool b),.val (.string s)],0⟩,g.1.2.1.blk]) (λg=>s.size+1-2*g.1.1) ?_ ?_;exact zYx [0,1000+ 3] [1,3,5] [0,1] (λE=>⟨(0,OI.nil,E),Ii.start s⟩) (λE=>⟨ff,(by exact⟨fr,fr,fr,fr,fr,iY a1G _ _,fr,fr,fr,fr,fr,fr,gm _⟩),(by exact⟨⟨rfl,rfl,rfl,fr⟩,⟨rfl,rfl,rfl,fr⟩,trivial⟩)⟩);rintro⟨⟨j,o,E⟩,e⟩;have e:Ii s j o:=e;have M:=e.hj;have R:=e.len;have m:(ln o.l+1)*1<=5000000000000:=om;refine zB ?_ ?_<;>intro y;have y:2*j<s.size:=gt0 y;have q:IR ((s.size-2*j-1:Nat):Int):=v5 om;have B:s.size-2*j-1<s.size:=om;conv=>whnf
 conv=>arg 2;tactic'=>exact sF (hi:=q) rfl rfl rfl (FX (a1E k y) q) B
 refine zB ?_ ?_<;>intro A;have A:2*j+2<=s.size:=gt1 A;have p:IR ((s.size-2*j-2:Nat):Int):=v5 om;have I:s.size-2*j-2<s.size:=om;conv=>whnf
 conv=>arg 2;tactic'=>exact sF (hi:=p) rfl rfl rfl (FX (a1F k A) p) I
 conv=>whnf
 refine .inl ⟨rfl,⟨rfl,rfl,OI.size e.r,λ_=>OI.room e.r,m⟩,λd f=> ?_⟩;have u:=Ue f;have z:=e.two (cap:=d) (hs:=u) A;exact qg [0,3] [1,3,5] [0,1] (λh=>⟨(j+1,OI.snoc o.l ((s.data[s.size-2*j-1]?.getD 0).toNat+256*(s.data[s.size-2*j-2]?.getD 0).toNat) d u,h),z⟩) (λh=>zL) (λh=>⟨ff,cL (dP _) ff,(by exact⟨fr,fr,fr,λi=>HF u rfl i i rfl,fr,iY (R2 k y) _ _,fr,fr,fr,fr,fr,fr,gm _⟩),(by exact⟨⟨rfl,rfl,rfl,fr⟩,⟨rfl,a0A _,MO,λi=>Av e.r (zg (Kz _ _) (YQ _ _)) i⟩,trivial⟩)⟩);have A:s.size<=2*j+1:=a7H A;have L:2*j+1=s.size:=om;conv=>whnf
 refine .inl ⟨rfl,⟨rfl,rfl,OI.size e.r,λ_=>OI.room e.r,m⟩,λd f=> ?_⟩;have u:=Ue f;have z:=e.one (cap:=d) (hs:=u) L;exact qg [0,3] [1,3,5] [0,1] (λh=>⟨(j+1,OI.snoc o.l ((s.data[s.size-2*j-1]?.getD 0).toNat) d u,h),z⟩) (λh=>zL) (λh=>⟨ff,cL (dP _) ff,(by exact⟨fr,fr,fr,λi=>HF u rfl i i rfl,fr,iY (R2 k y) _ _,fr,fr,fr,fr,fr,fr,gm _⟩),(by exact⟨⟨rfl,rfl,rfl,fr⟩,⟨rfl,a0A _,MO,λi=>Av e.r (zg (JY _) (Eu _)) i⟩,trivial⟩)⟩);have y:s.size<=2*j:=a7G y;have D:val RB o.l=fB s.data.toList:=by have:=e.hv;rwa[show s.size-2*j=0 by omega,it] at this
 exact⟨⟨dP _,trivial⟩,⟨_,_,_,_,_,_,_,o.l,rfl,rfl,rfl,xN.ow o,e.dl,λO=>⟨[1],[0],λQ=>⟨dP _,_,[(o.cut O).blk],rfl,⟨by rw[OI.cut_blk];exact⟨rfl,rfl,rfl,fr⟩,trivial⟩,⟨OI.new _,trivial⟩,_,λi=>OI.cut_sl 0 i,H _ (by rw[OI.cut_l e.dl,D])⟩⟩⟩⟩
end
def RO:Dr
 |[.c (.sli _ b1 off1 len1 _ _),.c (.sli _ b2 off2 len2 _ _)],hf=>(match hf b1,hf b2 with
  |some f,some k2=>some (some (∃e d,(xN f.cs off1 e/\ln e=len1/\e=fK RB (val RB e)/\len1<=1000000000)/\xN k2.cs off2 d/\ln d=len2/\d=fK RB (val RB d)/\len2<=1000000000),.c (.int (Ba (val RB (Ec f.cs off1 len1)) (val RB (Ec k2.cs off2 len2))) (VY _ _)))
  |_,_=>none)
 |_,_=>none
def a08 m n:uA m n=Ba m n:=by unfold uA Ba;rfl
def a21:CY prog 65 RO:=by
 refine⟨⟨_, func65,kr,kr⟩,λG R p v d=> ?_⟩;unfold RO at d;split at d;rename_i O b1 j len1 k y J N q len2 f u;split at d;rename_i H E A z;cases d;refine⟨ff,λP T w I=> ?_⟩;obtain⟨i,g,⟨D,L,x,s1⟩,F,M,B,s2⟩:=P _ rfl;subst L;subst M;have m:Dl RB i:=by rw[x];exact eT cT _
 have o:Dl RB g:=by rw[B];exact eT cT _
 have r:=JD (I b1 H A).1 D m y;have s:=JD (I N E z).1 F o u;rw[x] at r;rw[B] at s;have:=qA (val RB i) (val RB g) _ _ (ln i) (ln g) k f w r s (congrArg ln x).symm (congrArg ln B).symm s1 s2;rw[a08] at this;refine this.mono λe Q h=>⟨?_,h.2⟩;rw[h.1];show Ending.returned (Value.int .i64 (Ba (val RB i) (val RB g)))=Ending.returned (Value.int .i64 (Ba (val RB (Ec H.cs j (ln i))) (val RB (Ec E.cs q (ln g)))));rw[uU D m,uU F o];cases d;cases d
section
variable {la lq:List Nat} {T m:Nat}
structure OvI (la:List Nat) (n k:Nat) (lq:List Nat) (r:OI):Prop where
 hk:k<=ln la
 ql:ln lq=ln la
 dq:Dl RB lq
 hr:r.l=fK RB (val RB r.l)
 lt:val RB r.l<n
 hv:val RB (la.drop k)=n*val RB (lq.drop k)+val RB r.l
structure a8F (T n low high:Nat):Prop where
 lo:low*n<=T
 hi:T<high*n
 lt:low<high
 le:high<=65536
def a0F {low high:Nat} (hlt:low<high) (h2:high<=65536) (h:decide ((1:Int)<IntKind.i64.wrap ((high:Int)-(low:Int)))=true):1<high-low:=by have:=of_decide_eq_true h;rw[cN ui] at this;omega
def VM {low high:Nat} (hlt:low<high) (h2:high<=65536) (h:decide ((1:Int)<IntKind.i64.wrap ((high:Int)-(low:Int)))=false):high-low<=1:=by have:=of_decide_eq_false h;rw[cN ui] at this;omega
def VL {low high:Nat} (h1:low<=65536) (h2:high<=65536):IntKind.i64.wrap ((IntKind.i64.wrap ((low:Int)+(high:Int))).tdiv 2)=(((low+high)/2:Nat):Int):=by rw[cN (z:=(low:Int)+(high:Int)) ui,iq om,cN ui];omega
def a6i {n} :decide (Ba m n<=0)=decide (m<=n):=by unfold Ba;split;rename_i h;rw[decide_eq_true (by omega:m<=n)];rfl;rename_i h;split;rename_i d;rw[decide_eq_false (by omega: ¬m<=n)];rfl;rename_i d;rw[decide_eq_true (by omega:m<=n)];rfl
def qK {x:Nat} {z:Int} {d:IR z} {l:List Nat} (hx:x<65536) (e:z=x):xN ([C.int z d]++jJ l) 0 (x::l):=by rw[show [C.int z d]++jJ l=jJ (x::l) from by rw[zg hx e];rfl];exact xN.mk' _
def rdC:List (FuncId×Dr):=[(65,RO),(63,DD)]
def wl:nN rdC:= .cons a21<| .cons Uu .nil
end
section
variable {cs:List C} {off m:Nat}
def xN.cut {l} (h:xN cs off l) k:xN cs off (l.take k):=by
 obtain⟨d,A,B,rfl,rfl⟩:=h;refine⟨d,A,jJ (l.drop k)++B,?_,rfl⟩;conv=>lhs;rw[<-aF k l]
 rw[jo,aJ]
def pB {l} (h:xN cs off l) (d:Dl RB l):xN cs off (fK RB (val RB l)):=by rw[<-jE cT d];exact h.cut _
def lU {len} (h:xN cs off (fK RB m)) (hl:(fK RB m).length=len):val RB (Ec cs off len)=m:=by rw[<-hl,uU h (eT cT m),dm cT]
def DL {a b n v} (d:a=m) (e:b=n) (h:decide (Ba a b<=0)=v):decide (m<=n)=v:=by subst d e;exact a6i.symm.trans h
def V7 {d x:Nat} {l:List Nat}:(d-(1+ln l))*1=d-(x::l).length:=by rw[aS,gE,fu]
def IT {x:Nat} {z:Int} {d:IR z} {l:List Nat} (hx:x<65536) (e:z=x) (ρ:fF):af ρ ([C.int z d]++jJ l)=af ρ (jJ (x::l)):=by rw[show [C.int z d]++jJ l=jJ (x::l) from by rw[zg hx e];rfl]
def EW {n c} (h:bZ (false&&decide (m=0)) n c):bZ false n c:=⟨h.1,h.2.1,λe=>by cases e⟩
end
def ku.len16 {k b s z} (h:ku (k+7) b s z) (hk:k<=80000000):(fK RB z.natAbs).length<=50000000:=lS h.sm om
def Z8:List (FuncId×cP):=[(62,Lb)]
def Aj:iL prog Z8:= .cons Rx<| .nil
section
variable {x:Nat}
def xF:Nat->Nat
 |0=>0
 |n+1=>if(xF n+1)*(xF n+1)<=n+1 then xF n+1 else xF n
def uV: ∀n,xF n*xF n<=n/\n<(xF n+1)*(xF n+1)
 |0=>⟨ai _,dc⟩
 |n+1=>by obtain⟨f,e⟩:=uV n;unfold xF;split;rename_i h;refine⟨h,?_⟩;(have d:(xF n+1+1)*(xF n+1+1)=(xF n+1)*(xF n+1)+2*(xF n+1)+1:=by grind);omega;rename_i h;exact⟨om,om⟩
def a2g n:xF n<=n:=by have h:=(uV n).1;rcases cX (xF n) with d|d;omega;exact aC (Nat.le_mul_of_pos_left _ d) h
def a2f {n r} (h1:r*r<=n) (h2:n<(r+1)*(r+1)):xF n=r:=by obtain⟨d,e⟩:=uV n;rcases iu (xF n) r with h|h|h;have:(xF n+1)*(xF n+1)<=r*r:=gd h h;omega;exact h;have:(r+1)*(r+1)<=xF n*xF n:=gd h h;omega
def oT (z:Int):Int:=if z<0 then 0 else(xF z.natAbs:Nat)
def Yl {k z} (h:Sm k z):Sm k (oT z):=by unfold oT;split;exact AW dc;exact h.of_le (by rw[Int.natAbs_natCast];exact a2g _)
def a5x (X:NA):SV:= .tup [.agg [.wid X.k (oT X.z) (Yl X.h)],.c (.val (.bool (decide (0<=X.z))))]
def RV:Dn:=Tm a5x
def Ou {n:Nat} (h:n<=80000000):IntKind.i64.wrap ((IntKind.i64.wrap ((n:Int)+1)).tdiv 2)=(((n+1)/2:Nat):Int):=by rw[cN (z:=(n:Int)+1) ui,iq om,cN ui];omega
end
section
variable {m:Nat}
def uS (z:Int):Int:=if IR z then z else 0
def xX z:IR (uS z):=by unfold uS;split;assumption;decide
def a7s (X:NA):SV:= .tup [.c (.int (uS X.z) (xX _)),.c (.val (.bool (decide (IR X.z))))]
def RS:Dn:=Tm a7s
def JG {z} (h: ¬IR z):(0:Int)=uS z/\false=decide (IR z):=⟨by unfold uS;rw[if_neg h],(decide_eq_false h).symm⟩
def L6 {z y} (h:IR z) (e:y=z):y=uS z/\true=decide (IR z):=⟨by unfold uS;rw[if_pos h];exact e,(decide_eq_true h).symm⟩
def Th (h:m<=9223372036854775808):IntKind.i64.wrap (IntKind.u64.wrap (0-(m:Int)))= -(m:Int):=by unfold IntKind.wrap;simp[IntKind.bits,IntKind.signed];split<;>omega
def TF (h:m<9223372036854775808):IntKind.i64.wrap (m:Int)=(m:Int):=cN ui
def a4S (h:decide ((m:Int)<=9223372036854775808)=true):m<=9223372036854775808:=by have:=of_decide_eq_true h;omega
def a2w (h:decide ((m:Int)<=9223372036854775808)=false):9223372036854775808<m:=by have:=of_decide_eq_false h;omega
def a4E (h:decide ((9223372036854775808:Int)<=(m:Int))=true):9223372036854775808<=m:=by have:=of_decide_eq_true h;omega
def Tj (h:decide ((9223372036854775808:Int)<=(m:Int))=false):m<9223372036854775808:=by have:=of_decide_eq_false h;omega
end
section
variable {m:Nat}
structure Bz (l:List Nat) (i m:Nat):Prop where
 hi:i<=ln l
 hv:m=val RB (l.drop i)
 hm:m<RB^(ln l-i)
def Bz.start l:Bz l (ln l) 0:=⟨ai _,by rw[ft (ai _)];rfl,AW fv⟩
def Bz.big {l i} (h:Bz l i m) (hl:ln l<=4) (h0:0<i):m<281474976710656:=by
 have f:=h.hm;have e:RB^(ln l-i)<=RB^3:=dJ fv om;have d:RB^3=281474976710656:=by rw[dS]
 omega
def Bz.step {l i} (h:Bz l i m) (h0:0<i) {hj:i-1<ln l} (d:Dl RB l):Bz l (i-1) (m*65536+l[i-1]):=by
 have f:l[i-1]<65536:=by have:=d.get _ hj;rwa[dS] at this
 refine⟨by have:=h.hi;omega,?_,?_⟩;rw[bh hj,fV,show i-1+1=i by omega,<-h.hv,dS];omega;have e:RB^(ln l-(i-1))=RB^(ln l-i)*65536:=by rw[show (ln l)-(i-1)=ln l-i+1 by have:=h.hi;omega,Nat.pow_succ,dS]
 rw[e];have:=h.hm;have g:(m+1)*65536<=RB^(ln l-i)*65536:=gV _ this;omega
def Xn {d:Nat} (h1:m<281474976710656) (h2:d<65536):IntKind.u64.wrap (IntKind.u64.wrap ((m:Int)*65536)+IntKind.u64.wrap (d:Int))=((m*65536+d:Nat):Int):=by
 have e:IntKind.u64.wrap ((m:Int)*65536)=((m*65536:Nat):Int):=by unfold IntKind.wrap;simp[IntKind.bits,IntKind.signed];omega
 have f:IntKind.u64.wrap (d:Int)=(d:Int):=by unfold IntKind.wrap;simp[IntKind.bits,IntKind.signed];omega
 rw[e,f];unfold IntKind.wrap;simp[IntKind.bits,IntKind.signed];omega
def Xa {k:Nat} (h:decide ((4:Int)<(k:Int))=true):4<k:=by have:=of_decide_eq_true h;omega
def Tk {k:Nat} (h:decide ((4:Int)<(k:Int))=false):k<=4:=by have:=of_decide_eq_false h;omega
def MR:dW prog 132 RS:=Az ⟨func132,kr,kr⟩ (rS .nil wl 0 λ_=>false) (qV Aj (rS .nil wl 0 λ_=>false) bj bg 0) (λ_ _ _=>rfl) λX W b s H=>by
 refine⟨ff,trivial,⟨_,b,s,rfl,rfl,Fr.raw,(H.sz W),λd k=> ?_⟩⟩;rw[H.natAbs] at k;have L:val RB d.l=X.z.natAbs:=by rw[k,dm cT]
 have r:=J7 k;refine zB ?_ ?_<;>intro E;have E:4<ln d.l:=Xa E
 obtain⟨u,p⟩:=JG (z:=X.z) (by
  have Z:0<X.z.natAbs:=by rcases cX X.z.natAbs with J|J;rw[k,J,hQ] at E;exact absurd E dc;exact J
  have U:=oD cT Z
  rw[<-k] at U
  have h6:RB^4<=RB^(ln d.l-1):=dJ fv om
  have h7:RB^4=18446744073709551616:=by rw[dS]
  unfold IR;omega)
 conv=>whnf
 exact λf=>pZ (zj u f) (ur p f);have M:ln d.l<=4:=Tk E;conv=>whnf
 refine GT (G:={g:Nat×Nat×(Nat->Value)//Bz d.l g.1 g.2.1}) (X:={m:Nat//m=X.z.natAbs}) (λg=>.c (.val (g.1.2.2 0)):: .c (.ptr 0 0):: .c (.val (g.1.2.2 2)):: .c (.val (g.1.2.2 3))::(d.sl 1):: .c (.val (.int .u64 ((g.1.2.1:Nat):Int))):: .c (.int ((g.1.1:Nat)-1:Int) (irp d.ok g.2.hi))::tn g.1.2.2 7 33 []) (λg=>[⟨61,false,[.val (.bool b),.val (.string s)],0⟩,d.blk]) (λg=>g.1.1) 0 (λx j=>(j 0:: .c (.ptr 0 0)::j 2::j 3::j 4:: .c (.val (.int .u64 ((x.1:Nat):Int)))::j 6::j 7::j 8::j 9::j 10::j 11::j 12::j 13::j 14::j 15::j 16::j 17::j 18::j 19::j 20::j 21::j 22::j 23::j 24::j 25::j 26::j 27::j 28::j 29::j 30::j 31::j 32::j 33::j 34::j 35::j 36::j 37::j 38::j 39::[])) (λx=>[⟨61,false,[.val (.bool b),.val (.string s)],0⟩,d.blk]) ?_ ?_ ?_;exact zYh [0,1] [1,4,5,6] [0,1] (λQ=>⟨(ln d.l,0,Q),Bz.start _⟩) (pc (cN (irp d.ok (ai _))));intro Qx N;rintro⟨⟨i,m,Q⟩,B⟩;have B:Bz d.l i m:=B;refine zB ?_ ?_<;>intro q;have q:0<i:=a4I q;have Y:=B.hi;have y:i-1<ln d.l:=om;have A:IR ((i-1:Nat):Int):=ltI d.ok (bw y);have P:=B.step q (hj:=y) r;have I:=B.big M q;have F:(d.l[i-1]'y)<65536:=by have:=r.get _ y;rwa[dS] at this
 have V:=Xn I F;conv=>whnf
 conv=>arg 2;tactic'=>exact be (hi:=A) rfl rfl rfl (FX (TG q) A) y
 conv=>whnf
 conv=>arg 2;tactic'=>exact ap (m:=[.int (((d.l[i-1]'y):Nat):Int) (tC (r.get _ y))]) rfl rfl rfl rfl ((xN.ow d).int r y) rfl
 exact qg [0,1] [1,4,5,6] [0,1] (λD=>⟨(i-1,m*65536+(d.l[i-1]'y),D),P⟩) (λD=>zL) (λD=>⟨ff,dP _,(by exact⟨fr,fr,fr,fr,fr,λ_=>congrArg (Value.int .u64) V,iY (Lq q (ltI d.ok B.hi)) _ _,fr,fr,fr,fr,fr,fr,fr,fr,fr,fr,fr,fr,fr,fr,fr,fr,fr,fr,fr,fr,fr,fr,fr,fr,fr,fr,fr,fr,fr,fr,fr,fr,fr,trivial⟩),(by exact⟨⟨rfl,rfl,rfl,fr⟩,⟨rfl,rfl,rfl,fr⟩,trivial⟩)⟩);have q:i=0:=a4J q;have R:m=X.z.natAbs:=by rw[B.hv,q,it,L]
 conv=>whnf
 exact N ⟨m,R⟩ (λi=>ij uv (_::uv::_::_::_::uv::_::_::_::_::_::_::_::_::_::_::_::_::_::_::_::_::_::_::_::_::_::_::_::_::_::_::_::_::_::_::_::_::_::_::[]) i);rintro⟨m,R⟩ jj;refine zB ?_ ?_<;>intro T;have O:X.z= -(m:Int):=by rcases H.sgn with⟨_,h⟩|⟨h,_⟩;omega;rw[T] at h;cases h
 refine zB ?_ ?_<;>intro o;have o:m<=9223372036854775808:=a4S o;obtain⟨u,p⟩:=L6 (z:=X.z) ui ((Th o).trans O.symm);conv=>whnf
 exact λf=>pZ (zj u f) (ur p f);have o:9223372036854775808<m:=a2w o;obtain⟨u,p⟩:=JG (z:=X.z) ui;refine zB ?_ ?_<;>intro e;conv=>whnf
 exact λf=>pZ (zj u f) (ur p f);have e:m<9223372036854775808:=Tj e;omega;have O:X.z=(m:Int):=by rcases H.sgn with⟨h,_⟩|⟨_,h⟩;rw[T] at h;cases h;omega
 refine zB ?_ ?_<;>intro e;have e:9223372036854775808<=m:=a4E e;obtain⟨u,p⟩:=JG (z:=X.z) ui;conv=>whnf
 exact λf=>pZ (zj u f) (ur p f);have e:m<9223372036854775808:=Tj e;obtain⟨u,p⟩:=L6 (z:=X.z) ui ((TF e).trans O.symm);conv=>whnf
 exact λf=>pZ (zj u f) (ur p f)
end
end Go.Proofs.YtlgcobafjbajdaaGreatDoor
