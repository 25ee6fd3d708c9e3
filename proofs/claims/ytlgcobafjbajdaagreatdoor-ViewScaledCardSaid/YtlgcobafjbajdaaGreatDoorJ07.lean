/- w -/
import Derived.Test.YtlgcobafjbajdaaGreatDoorJ01
import Derived.Test.YtlgcobafjbajdaaGreatDoorJ06
import Derived.Test.YtlgcobafjbajdaaGreatDoorJ04
import Derived.KernelRfl
import Derived.Maps.Keyed
import Derived.Test.YtlgcobafjbajdaaGreatDoorJ05
import Derived.Shelf.Lay
import Derived.Shelf.Strconv.Itoa0
namespace Go.Proofs.YtlgcobafjbajdaaGreatDoor
open Tryz
open Go.RowKit
open Bool renaming not_eq_true'→dE
open Int renaming sign_eq_neg_one_of_neg→sV,sign_eq_one_of_pos→CP,sign_eq_zero_iff_zero→a3H
open IntKind renaming i64→ix,wrap→wr
open List renaming append_assoc→aJ,drop_eq_getElem_cons→bh,length→ln,map→cg,map_append→aV,take_append_drop→aF
open Option renaming some→bL
set_option linter.all false
set_option maxRecDepth 100000
set_option maxHeartbeats 16000000
def zN (k:Nat):ZV:=if h:IR (k:Int) then⟨k,h⟩ else⟨0,dc⟩
def AT {k:Nat} (h:IR (k:Int)):(zN k).x=(k:Int):=by unfold zN;rw[dif_pos h]
def vv {k:Nat} h:zN k=⟨k,h⟩:=dif_pos h
def dI (f:GU->List ZV):Nat->List GU->List (ZV×ZV)
 |_,[]=>[]
 |k,g::l=>(f g).map (λz=>(z,zN k))++dI f (k+1) l
def rO f: ∀a b k,dI f k (a++b)=dI f k a++dI f (k+ln a) b
 |[],_,_=>rfl
 |g::a,b,k=>by rw[cK,dI,dI,rO f a b (k+1),aJ,aS,Nat.add_assoc,fu 1]
def Jt f {L j} (hj:j<ln L):dI f 0 (L.take (j+1))=dI f 0 (L.take j)++(f L[j]).map (λz=>(z,zN j)):=by rw[eG,ae hj,eL,rO,aN,aO,cq (bw hj)];show _++(_++[])=_;rw[bk]
def rP f: ∀l k e,e∈dI f k l↔ ∃j,∃h:j<ln l,e.1∈f l[j]/\e.2=zN (k+j)
 |[],_,e=>⟨λh=>(by cases h),λ⟨j,h,_⟩=>absurd h (gh _)⟩
 |g::l,k,e=>by
  rw[dI,aT,bD,rP f l (k+1) e];constructor;rintro(⟨z,hz,rfl⟩|⟨j,h,i,d⟩);exact⟨0,Nat.zero_lt_succ _,hz,rfl⟩;exact⟨j+1,Nat.succ_lt_succ h,i,by rw[d];congr 1;omega⟩;rintro⟨j,h,i,d⟩
  cases j with
  |zero=>exact .inl ⟨e.1,i,by rw[fM] at d;rw[<-d]⟩
  |succ j=>exact .inr ⟨j,Nat.lt_of_succ_lt_succ h,i,by rw[d];congr 1;omega⟩
def tJ:List (ZV×ZV)->List (BV×BV)
 |[]=>[]
 |(a,b)::l=>(.c (.int a.x a.hx),.c (.int b.x b.hx))::tJ l
def Mb: ∀a b:List (ZV×ZV),tJ (a++b)=tJ a++tJ b
 |[],_=>rfl
 |(x,y)::a,b=>by rw[cK,tJ,Mb a b];rfl
def pF: ∀{l e},e∈tJ l-> ∃p∈l,e=(.c (.int p.1.x p.1.hx),.c (.int p.2.x p.2.hx))
 |[],e,h=>by cases h
 |(a,b)::l,e,h=>by rcases br.1 h with rfl|h;exact⟨_,aP,rfl⟩;obtain⟨p,f,d⟩:=pF h;exact⟨p,aD _ f,d⟩
def S5: ∀{l p},p∈l->(BV.c (.int p.1.x p.1.hx),BV.c (.int p.2.x p.2.hx))∈tJ l
 |[],p,h=>by cases h
 |(a,b)::l,p,h=>by rcases br.1 h with rfl|h;exact aP;exact aD _ (S5 h)
def wN (l:List (ZV×ZV)):Prop:=(l.map λe=>e.1.x).Nodup
def Y2 (CL:List CU) (l:List (ZV×ZV)):Prop:= ∀e∈l,∀c,pm CL e.1=some c->c.made<e.2.x
def wN.snoc {l z k} (h:wN l) (i: ∀e∈l,e.1.x≠z.x):wN (l++[(z,k)]):=by unfold wN at*;rw[aV,gB];refine⟨h,sp,?_⟩;intro a d b f;rw[bD] at d;obtain⟨e,g,rfl⟩:=d;simp only[aI,dj,bq] at f;subst f;exact i e g
def wN.uniq: ∀{l},wN l-> ∀{a b},a∈l->b∈l->a.1.x=b.1.x->a=b
 |[],_,a,_,h,_,_=>by cases h
 |x::l,h,a,b,ha,hb,e=>by have h:(x.1.x::l.map λe=>e.1.x).Nodup:=h;obtain⟨g,i⟩:=xO.1 h;rcases br.1 ha with d|d<;>rcases br.1 hb with f|f;rw[d,f];exact absurd (bD.2 ⟨b,f,by rw[<-d];exact e.symm⟩) g;exact absurd (bD.2 ⟨a,d,by rw[<-f];exact e⟩) g;exact wN.uniq (l:=l) i d f e
def wN.no {l m e z k} (d:e∈l) (f:e.1.x=z.x): ¬wN (l++((z,k)::m)):=λh=>by unfold wN at h;rw[aV,gB] at h;exact h.2.2 _ (bD.2 ⟨e,d,rfl⟩) _ (bD.2 ⟨(z,k),aP,rfl⟩) f
def Bn (E:List (ZV×ZV)) (i:Nat) (w:Int):Prop:=(0<=w/\ ∃e∈E,e.1.x=(i:Int)/\e.2.x=w)\/(w<0/\ ∀e∈E,e.1.x≠(i:Int))
def MkP (CL:List CU) (L:List GU):Prop:=(wN (dI GU.il 0 L)/\Y2 CL (dI GU.il 0 L)/\wN (dI GU.ol 0 L))/\ ∀i (h:i<ln CL),Bn (dI GU.il 0 L) i CL[i].used/\Bn (dI GU.ol 0 L) i CL[i].made
def ClP (CL:List CU) (L:List GU) (CT:List Bool):Prop:= ∀k (h:k<ln L),CT[k]? =some true-> ∀z∈L[k].il,∀c,pm CL z=some c->0<=c.made->CT[c.made.toNat]? =some true
def vC (CL:List CU) (L:List GU):Prop:=sk CL L=true/\MkP CL L
def iZ (CL:List CU) (L:List GU) (CT:List Bool):Prop:=vC CL L/\ln CT=ln L/\ClP CL L CT
section
variable {q:Nat} {L:List GU} {CL:List CU}
def kp:List Bool->List C
 |[]=>[]
 |b::l=> .val (.bool b)::kp l
def cz: ∀l:List Bool,cC (kp l)
 |[]=>λ_ _=>rfl
 |b::l=>λe d=>by have h:=cz l e d;rw[kp,aL,aL,h];rfl
def a1J (un:Nat):ic:={vA un base with O:=En qo (XP prog qo),R:=a2m}
def nw un:iU prog (a1J un):=⟨(cm kB un).T,(cm kB un).D,nH eD (Mo eD),Ma,λ_ _ _ _ h=>(show False from h).elim⟩
noncomputable def a2l:FuncId->Option Func:=lk [(48, f48),(49, f49),(79, f79),(50, f50),(81, f81),(80, f80),(115, f115)]
def Xv: ∀f fn,a2l f=some fn->iM prog f fn:=nV λx d=>by simp only[br,cd,or_false] at d;rcases d with rfl|rfl|rfl|rfl|rfl|rfl|rfl;exact⟨func48,kr,kr⟩;exact⟨func49,kr,kr⟩;exact⟨func79,kr,kr⟩;exact⟨func50,kr,kr⟩;exact⟨func81,kr,kr⟩;exact⟨func80,kr,kr⟩;exact⟨func115,kr,kr⟩
def Hg {n m:Nat} (h:IR (n:Nat)) (e:n=m) (d:q<=m):IR (q:Nat):=by unfold IR at*;omega
def GM {l} {n:Nat} (e:q<ln l) (h:(l.take q).all (A4 n)=true) (h1:decide (l[q].x<0)=false) (h2:decide ((n:Int)<=l[q].x)=false):(l.take (q+1)).all (A4 n)=true:=by
 rw[eG,ae e,eL,a8o,h];have d:l[q].x<(n:Int):=by have:=of_decide_eq_false h2;omega
 simp only[KM,List.all_nil,A4,h1,decide_eq_true d];rfl
def Oy {n j} (hj:j<ln L) (h:(L.take j).all (w8 n)=true) (h1:L[j].il.all (A4 n)=true) (h2:L[j].ol.all (A4 n)=true):(L.take (j+1)).all (w8 n)=true:=by rw[eG,ae hj,eL,a8o,h];simp only[KM,List.all_nil,w8,h1,h2];rfl
def SK {m k:Nat} (hk:k<ln CL) (h:(CL.take k).all (qL m)=true) (h1:decide (minI CL[k].made CL[k].used< -1)=false) (h2:decide ((m:Int)<=maxI CL[k].made CL[k].used)=false):(CL.take (k+1)).all (qL m)=true:=by rw[eG,ae hk,eL,a8o,h];simp only[KM,List.all_nil,qL,h1,h2];rfl
def ZT {k} (hk:k<ln CL) (h:qL (ln L) CL[k]=false):sk CL L=false:=by unfold sk;rw[a7p];left;rw[a6b];exact⟨_,ak hk,by rw[h];decide⟩
def Mi {j} (hj:j<ln L) (h:L[j].il.all (A4 (ln CL))=false\/L[j].ol.all (A4 (ln CL))=false):sk CL L=false:=by unfold sk;rw[a7p];right;rw[a6b];refine⟨_,ak hj,?_⟩;unfold w8;rcases h with h|h;rw[h,CO];decide;rw[h,CM];decide
def SL {z} {n:Nat} (h:decide ((n:Int)<=z.x)=true):A4 n z=false:=by
 have d: ¬(z.x<(n:Int)):=by have:=of_decide_eq_true h;omega
 unfold A4;rw[decide_eq_false d,CM]
def El {l n} (d:q<ln l) (h:A4 n l[q]=false):l.all (A4 n)=false:=by rw[a6b];exact⟨_,ak d,by rw[h];decide⟩
def JF {D I h1 E H h2 N CT M T fam P W V} (hL: ∀g∈L,g.Ok fam) {K} (J:sk CL L=false-> ∀ex,K (.c (.val (.bool false))) (⟨.t P,true,eM CL,0⟩::⟨.t W,true,eO L,0⟩::⟨.t V,true,kp CT,0⟩::⟨.x fam,true,[],3⟩::⟨30,false,[.sli D 0 0 (ln CL) I h1,.sli E 1 0 (ln L) H h2],0⟩::⟨39,false,[.sli N 2 0 (ln CT) M T],0⟩::⟨4,false,[.val (.bool false)],0⟩::ex)) (hT:sk CL L=true-> ∀ex,K (.c (.val (.bool true))) (⟨.t P,true,eM CL,0⟩::⟨.t W,true,eO L,0⟩::⟨.t V,true,kp CT,0⟩::⟨.x fam,true,[],3⟩::⟨30,false,[.sli D 0 0 (ln CL) I h1,.sli E 1 0 (ln L) H h2],0⟩::⟨39,false,[.sli N 2 0 (ln CT) M T],0⟩::⟨4,false,[.val (.bool false)],0⟩::ex)): inl (a1J 0) a2l 6 48 [.c (.ptr 4 0)] [⟨.t P,true,eM CL,0⟩,⟨.t W,true,eO L,0⟩,⟨.t V,true,kp CT,0⟩,⟨.x fam,true,[],3⟩,⟨30,false,[.sli D 0 0 (ln CL) I h1,.sli E 1 0 (ln L) H h2],0⟩,⟨39,false,[.sli N 2 0 (ln CT) M T],0⟩,⟨4,false,[.val (.bool false)],0⟩] K:=by
 conv=>whnf
 refine zK [0,1,2,3,4,5,6,7,8] [1,2,12,13,14] [0,1,2] (G:={k:Nat//k<=ln CL/\(CL.take k).all (qL (ln L))=true}) (λg=>[(14,.c (.int (g.1:Nat) (aR h1 g.2.1)))]) (λ_=>[]) (λg=>ln CL-g.1) ⟨0,ah _,rfl⟩ trivial ?_;rintro ⟨k,hk,p⟩ vs;have hk:k<=ln CL:=hk;have p:(CL.take k).all (qL (ln L))=true:=p;dsimp only;refine zB ?_ ?_<;>intro s;have s:k<ln CL:=dL s;refine eS ?_;generalize U:decide (minI CL[k].made CL[k].used< -1)=ba;cases ba;refine zB ?_ ?_<;>intro u;have u:decide ((ln L:Int)<=maxI CL[k].made CL[k].used)=true:=u;conv=>whnf
 exact J (ZT s (by unfold qL;rw[u,a6B,CM])) _;have u:decide ((ln L:Int)<=maxI CL[k].made CL[k].used)=false:=u;exact dD [0,1,2,3,4,5,6,7,8] ⟨k+1,s,SK s p U u⟩;conv=>whnf
 exact J (ZT s (by unfold qL;rw[U];rfl)) _;have y:ln CL<=k:=gi s;obtain rfl:k=ln CL:=bo hk y;rw[bP] at p;conv=>whnf
 refine .inl ⟨rfl,9,4,1,0,_,_,_,_,_,_,_,_,_,_,_,_,D,_,I,h1,E,L,H,h2,CL,rfl,rfl,rfl,rfl,rfl,ci rfl rfl fr (ci rfl rfl fr (ci rfl rfl fr (ci rfl rfl fr trivial))),?_⟩;refine pN (G:=Unit) (λj _=>(L.take j).all (w8 (ln CL))=true) (λ_ _=>[⟨.t P,true,eM CL,0⟩,⟨.t W,true,eO L,0⟩,⟨.t V,true,kp CT,0⟩,⟨.x fam,true,[],3⟩,⟨30,false,[.sli D 0 0 (ln CL) I h1,.sli E 1 0 (ln L) H h2],0⟩,⟨39,false,[.sli N 2 0 (ln CT) M T],0⟩,⟨4,false,[.val (.bool false)],0⟩,⟨80,false,[.ptr 4 0],0⟩,⟨4,false,[.val (.bool false)],0⟩,⟨80,false,[.ptr 4 0],0⟩]) ?_ ?_ () rfl;rintro j hj _ X R hR;have m:j<ln L:=by rw[iD] at hj;exact hj
 have a2:IR (j:Nat):=aR h2 (bw m);rw[zp hj m a2];conv=>whnf
 obtain⟨⟨A,Y⟩,⟨B,a1⟩,O,Q⟩:=hL L[j] (ak m);refine .inl ⟨3,?_⟩;conv=>whnf
 conv=>arg 2;tactic'=>exact eC rfl rfl rfl rfl rfl rfl O
 conv=>whnf
 refine zK [0,1,2,3,4,5,6,7,8,9,10] [0,1,7,8] [0,1,2] (G:={q:Nat//q<=L[j].il.length/\(L[j].il.take q).all (A4 (ln CL))=true}) (λg=>[(8,.c (.int (g.1:Nat) (Hg O A g.2.1)))]) (λ_=>[]) (λg=>L[j].il.length-g.1) ⟨0,ah _,rfl⟩ trivial ?_;rintro ⟨q,F,h⟩ vs3;have F:q<=L[j].il.length:=F;have h:(L[j].il.take q).all (A4 (ln CL))=true:=h;dsimp only;refine zB ?_ ?_<;>intro d;have d:q<L[j].il.length:=by rw[<-A];exact dL d
 obtain⟨r,w,ha,hfm⟩: ∃r w,L[j].i.a=some ⟨r,w,none⟩/\pg fam (r,w) (qh L[j].il):=Y.resolve_left λe=>by rw[e] at d;cases d
 conv=>whnf
 refine .inr ⟨r,w,L[j].i.n,L[j].i.c,q,by show SV.c (.val (.slice L[j].i.a _ _))=_;rw[ha],rfl,by rw[A];exact d,?_⟩;conv=>whnf
 refine .inr ⟨r,w,q*1,3,qh L[j].il,.c (.int L[j].il[q].x L[j].il[q].hx),rfl,⟨_,_,_,rfl,rfl,hfm⟩,⟨oO L[j].il d,ff⟩,?_⟩;conv=>whnf
 generalize z:decide (L[j].il[q].x<0)=na;cases na;refine zB ?_ ?_<;>intro f;have f:decide ((ln CL:Int)<=L[j].il[q].x)=true:=f;conv=>whnf
 exact J (Mi m (.inl (El d (SL f)))) _;have f:decide ((ln CL:Int)<=L[j].il[q].x)=false:=f;exact dD [0,1,2,3,4,5,6,7,8,9,10] ⟨q+1,d,GM d h z f⟩;conv=>whnf
 exact J (Mi m (.inl (El d (by unfold A4;rw[z];rfl)))) _;have y:L[j].il.length<=q:=by rw[<-A];exact gi d
 obtain rfl:q=L[j].il.length:=bo F y;rw[bP] at h;have a0:=h;conv=>whnf
 conv=>arg 2;tactic'=>exact eC rfl rfl rfl rfl rfl rfl Q
 conv=>whnf
 refine zK [0,1,2,3,4,5,6,7,8,9,10] [0,1,7,8] [0,1,2] (G:={q:Nat//q<=L[j].ol.length/\(L[j].ol.take q).all (A4 (ln CL))=true}) (λg=>[(8,.c (.int (g.1:Nat) (Hg Q B g.2.1)))]) (λ_=>[]) (λg=>L[j].ol.length-g.1) ⟨0,ah _,rfl⟩ trivial ?_;rintro ⟨q,F,h⟩ vs3;have F:q<=L[j].ol.length:=F;have h:(L[j].ol.take q).all (A4 (ln CL))=true:=h;dsimp only;refine zB ?_ ?_<;>intro d;have d:q<L[j].ol.length:=by rw[<-B];exact dL d
 obtain⟨r,w,ha,hfm⟩: ∃r w,L[j].o.a=some ⟨r,w,none⟩/\pg fam (r,w) (qh L[j].ol):=a1.resolve_left λe=>by rw[e] at d;cases d
 conv=>whnf
 refine .inr ⟨r,w,L[j].o.n,L[j].o.c,q,by show SV.c (.val (.slice L[j].o.a _ _))=_;rw[ha],rfl,by rw[B];exact d,?_⟩;conv=>whnf
 refine .inr ⟨r,w,q*1,3,qh L[j].ol,.c (.int L[j].ol[q].x L[j].ol[q].hx),rfl,⟨_,_,_,rfl,rfl,hfm⟩,⟨oO L[j].ol d,ff⟩,?_⟩;conv=>whnf
 generalize z:decide (L[j].ol[q].x<0)=na;cases na;refine zB ?_ ?_<;>intro f;have f:decide ((ln CL:Int)<=L[j].ol[q].x)=true:=f;conv=>whnf
 exact J (Mi m (.inr (El d (SL f)))) _;have f:decide ((ln CL:Int)<=L[j].ol[q].x)=false:=f;exact dD [0,1,2,3,4,5,6,7,8,9,10] ⟨q+1,d,GM d h z f⟩;conv=>whnf
 exact J (Mi m (.inr (El d (by unfold A4;rw[z];rfl)))) _;have y:L[j].ol.length<=q:=by rw[<-B];exact gi d
 obtain rfl:q=L[j].ol.length:=bo F y;rw[bP] at h;have Z:=h;conv=>whnf
 exact .inr ⟨[0,1,2,3,4,5,6,7,8,9],[],[0,1,2],λa4=>⟨bR CL,bT L,cz CT,[],[⟨.t P,true,eM CL,0⟩,⟨.t W,true,eO L,0⟩,⟨.t V,true,kp CT,0⟩,⟨.x fam,true,[],3⟩,⟨30,false,[.sli D 0 0 (ln CL) I h1,.sli E 1 0 (ln L) H h2],0⟩,⟨39,false,[.sli N 2 0 (ln CT) M T],0⟩,⟨4,false,[.val (.bool false)],0⟩,⟨80,false,[.ptr 4 0],0⟩,⟨4,false,[.val (.bool false)],0⟩,⟨80,false,[.ptr 4 0],0⟩],trivial,gz _,ci rfl rfl fr (ci rfl rfl fr (ci rfl rfl fr (ci rfl rfl fr trivial))),hR () (Oy m X a0 Z)⟩⟩;rintro _ X;conv=>whnf
 rw[iD,bP] at X;exact hT (by unfold sk;rw[p,X];rfl) _
end
section
variable {L:List GU}
def JI: prog.underlying 3 =some (.int .i64):=kr
def tD:Maps.Keyed prog 3 :=Maps.int_keyed JI
def tG: prog.underlying 138 =some (.map 3 3):=kr
def uW w:(zeroValue 3).run prog w= .ok (BV.den (.c (.int 0 dc))) w:=by
 have h:(prog.info? 3).bind (λi=>i.zero)=some (.int .i64 0):=kr
 cases hi: prog.info? 3 with
 |none=>rw[hi] at h;cases h
 |some i=>rw[hi] at h;have h:i.zero=some (.int .i64 0):=h;simp[zeroValue,typeInfo,hi,h,BV.den,B1.cells]
def GO {n} h:By prog 3 (.c (.int n h)):=by
 have d:(Lit.int .i64 n).wf=true:=by unfold IR at h;simp[Lit.wf,IntKind.min,IntKind.max,IntKind.bits,IntKind.signed];omega
 refine⟨.int .i64 n,?_⟩;unfold keyOf;rw[JI];show mapKey _ _ (.int .i64 n)=_;unfold mapKey;rw[JI];simp[d]
def m9 l: ∀e∈tJ l,By prog 3 e.1:=λe d=>by obtain⟨p,-,rfl⟩:=pF d;exact GO _
def qD {a b d hb} (h:(BV.c (.int a d)).den=(BV.c (.int b hb)).den):a=b:=by have h:Value.int .i64 a=Value.int .i64 b:=h;cases h;rfl
def zr {l n h} (d: ∀e∈tJ l,e.1.den≠(BV.c (.int n h)).den): ∀e∈l,e.1.x≠n:=λp f e=>d _ (S5 f) (by subst e;rfl)
def R8 f {j q} (hj:j<ln L) (o:q<(f L[j]).length) {e} (d:e∈dI f 0 (L.take j)++((f L[j]).take q).map λz=>(z,zN j)) (hx:e.1.x=(f L[j])[q].x): ¬wN (dI f 0 L):=by
 have k:dI f 0 L=(dI f 0 (L.take j)++((f L[j]).take q).map λz=>(z,zN j))++(((f L[j])[q],zN j)::(((f L[j]).drop (q+1)).map (λz=>(z,zN j))++dI f (j+1) (L.drop (j+1)))):=by (have h:L=L.take j++(L[j]::L.drop (j+1)):=by rw[<-bh hj,aF]);(have g:(f L[j])=(f L[j]).take q++((f L[j])[q]::(f L[j]).drop (q+1)):=by rw[<-bh o,aF]);(have m:dI f 0 L=dI f 0 (L.take j)++dI f j (L[j]::L.drop (j+1)):=by rw[show dI f 0 L=dI f 0 (L.take j++(L[j]::L.drop (j+1))) by rw[<-h],rO,aO,cq (bw hj),aN]);(have i:(f L[j]).map (λz=>(z,zN j))=((f L[j]).take q).map (λz=>(z,zN j))++(((f L[j])[q],zN j)::((f L[j]).drop (q+1)).map (λz=>(z,zN j))):=by rw[show(f L[j]).map (λz=>(z,zN j))=((f L[j]).take q++((f L[j])[q]::(f L[j]).drop (q+1))).map (λz=>(z,zN j)) by rw[<-g],aV,aI]);rw[m,dI,i];simp only[aJ,cK]
 rw[k];exact wN.no d hx
def Xs {CL} f {j q i:Nat} (hj:j<ln L) (g:q<(f L[j]).length) (d:IR (j:Int)) (hi:i<ln CL) (hx:(f L[j])[q].x=(i:Int)) (hm:(j:Int)<=CL[i].made): ¬Y2 CL (dI f 0 L):=λh=>by have e:=h ((f L[j])[q],zN j) ((rP f L 0 _).2 ⟨j,hj,ak g,by rw[aN]⟩) CL[i] (by unfold pm;simp only;rw[hx,bW,ae hi]);simp only at e;rw[AT d] at e;omega
end
section
def Bj (E:List (ZV×ZV)):aY:=⟨.m 138 (tJ E) (tJ E).length,true,[],1⟩
def ZP E a {j:Nat} hj:TyX.m 138 (tJ E++[(.c (.int a.x a.hx),.c (.int (j:Int) hj))]) ((tJ E).length+1)=TyX.m 138 (tJ (E++[(a,zN j)])) (tJ (E++[(a,zN j)])).length:=by rw[Mb,aa,vv hj];rfl
def EQ (f:GU->List ZV) (L:List GU) (g:GU) (j q:Nat):List (ZV×ZV):=dI f 0 (L.take j)++((f g).take q).map λz=>(z,zN j)
def xM f L g j:EQ f L g j 0=dI f 0 (L.take j):=by unfold EQ;rw[List.take_zero,dj,bk]
def xL f L g j {q} (d:q<(f g).length):EQ f L g j (q+1)=EQ f L g j q++[((f g)[q],zN j)]:=by unfold EQ;rw[eG,ae d,eL,aV,<-aJ];rfl
def t8 f {L j} (hj:j<ln L):EQ f L L[j] j (f L[j]).length=dI f 0 (L.take (j+1)):=by unfold EQ;rw[bP,Jt f hj]
def S7 {CL} f {L g} {j q:Nat} (o:q<(f g).length) (m:IR (j:Int)) {i:Nat} (hi:i<ln CL) (hx:(f g)[q].x=(i:Int)) (hm: ¬(j:Int)<=CL[i].made) (h:Y2 CL (EQ f L g j q)):Y2 CL (EQ f L g j (q+1)):=by rw[xL f L g j o];intro e d c k;rcases aT.1 d with d|d;exact h e d c k;rw[bq] at d;subst d;simp only at k⊢;unfold pm at k;rw[hx,bW,ae hi] at k;cases k;rw[AT m];omega
def G1 f {L g j q} (i:q<(f g).length) (d: ∀e∈EQ f L g j q,e.1.x≠(f g)[q].x) (h:wN (EQ f L g j q)):wN (EQ f L g j (q+1)):=by rw[xL f L g j i];exact h.snoc d
def JE {CL L} (h:sk CL L=true) {j} (hj:j<ln L) {z} (f:z∈L[j].il): ∃i:Nat,z.x=i/\i<ln CL:=by unfold sk at h;rw[aG] at h;have d:=fE.1 h.2 _ (ak hj);unfold w8 at d;rw[aG] at d;have e:=fE.1 d.1 _ f;unfold A4 at e;simp only[aG,dE,decide_eq_false_iff_not,decide_eq_true_eq] at e;exact⟨z.x.toNat,om,om⟩
section
variable {p:Prop} [Decidable p]
def bo1 (h:(!(false==decide p))=true):p:=by cases hd:decide p<;>simp_all
def bo2 (h:(!(false==decide p))=false): ¬p:=by cases hd:decide p<;>simp_all
def bo3 (h:(!(true==decide p))=true): ¬p:=by cases hd:decide p<;>simp_all
def bo4 (h:(!(true==decide p))=false):p:=by cases hd:decide p<;>simp_all
def bo5 (h:(!decide p)=true): ¬p:=by cases hd:decide p<;>simp_all
def bo6 (h:(!decide p)=false):p:=by cases hd:decide p<;>simp_all
end
def JV {E} {i:Nat} {w:Int} (h: ∀e∈E,e.1.x≠(i:Int)) (d:0<=w): ¬Bn E i w:=by rintro(⟨_,e,he,h1,_⟩|⟨h1,_⟩);exact h e he h1;omega
def JW {E:List (ZV×ZV)} {i:Nat} {w:Int} {e:ZV×ZV} (f:e∈E) (hx:e.1.x=(i:Int)) (g: ¬0<=w): ¬Bn E i w:=by rintro(⟨d,_⟩|⟨_,d⟩);exact g d;exact d e f hx
def JX {E:List (ZV×ZV)} (g:wN E) {i:Nat} {w:Int} {e:ZV×ZV} (d:e∈E) (hx:e.1.x=(i:Int)) (f: ¬e.2.x=w): ¬Bn E i w:=by rintro(⟨_,e2,he2,h1,h2⟩|⟨_,h1⟩);rw[g.uniq d he2 (hx.trans h1.symm)] at f;exact f h2;exact h1 e d hx
def u5 {CL:List CU} {A B:List (ZV×ZV)} {k:Nat} {hk:k<ln CL} (h: ∀i (h:i<ln CL),i<k->Bn A i CL[i].used/\Bn B i CL[i].made) (h0:Bn A k CL[k].used) (h1:Bn B k CL[k].made): ∀i (h:i<ln CL),i<k+1->Bn A i CL[i].used/\Bn B i CL[i].made:=λi f e=>by rcases cj i k with d|d;exact h i f d;obtain rfl:i=k:=om;exact⟨h0,h1⟩
def OH {Q:Bool} {CL:List CU} {V:Nat} {h1:bZ Q (ln CL) V} {W:Bool} {L:List GU} {X:Nat} {h2:bZ W (ln L) X} {n3:Bool} {CT:List Bool} {c3:Nat} {h3:bZ n3 (ln CT) c3} {fam:List mq} {tc td tt:TypeId} (hL: ∀g∈L,g.Ok fam) (a8:sk CL L=true) {K:SV->List aY->Prop} (O: ¬MkP CL L-> ∀ex,K (.c (.val (.bool false))) (⟨.t tc,true,eM CL,0⟩::⟨.t td,true,eO L,0⟩::⟨.t tt,true,kp CT,0⟩::⟨.x fam,true,[],3⟩::⟨30,false,[.sli Q 0 0 (ln CL) V h1,.sli W 1 0 (ln L) X h2],0⟩::⟨39,false,[.sli n3 2 0 (ln CT) c3 h3],0⟩::⟨4,false,[.val (.bool false)],0⟩::ex)) (hT:MkP CL L-> ∀ex,K (.c (.val (.bool true))) (⟨.t tc,true,eM CL,0⟩::⟨.t td,true,eO L,0⟩::⟨.t tt,true,kp CT,0⟩::⟨.x fam,true,[],3⟩::⟨30,false,[.sli Q 0 0 (ln CL) V h1,.sli W 1 0 (ln L) X h2],0⟩::⟨39,false,[.sli n3 2 0 (ln CT) c3 h3],0⟩::⟨4,false,[.val (.bool false)],0⟩::ex)): inl (a1J 0) a2l 6 49 [.c (.ptr 4 0)] [⟨.t tc,true,eM CL,0⟩,⟨.t td,true,eO L,0⟩,⟨.t tt,true,kp CT,0⟩,⟨.x fam,true,[],3⟩,⟨30,false,[.sli Q 0 0 (ln CL) V h1,.sli W 1 0 (ln L) X h2],0⟩,⟨39,false,[.sli n3 2 0 (ln CT) c3 h3],0⟩,⟨4,false,[.val (.bool false)],0⟩] K:=by
 refine A6 ?_;conv=>whnf
 refine .inl ⟨rfl,12,4,1,0,_,_,_,_,_,_,_,_,_,_,_,_,Q,_,V,h1,W,L,X,h2,CL,rfl,rfl,rfl,rfl,rfl,ci rfl rfl fr (ci rfl rfl fr (ci rfl rfl fr (ci rfl rfl fr trivial))),?_⟩;refine pN (G:=Unit) (λj _=>wN (dI GU.il 0 (L.take j))/\Y2 CL (dI GU.il 0 (L.take j))/\wN (dI GU.ol 0 (L.take j))) (λj _=>[⟨.t tc,true,eM CL,0⟩,⟨.t td,true,eO L,0⟩,⟨.t tt,true,kp CT,0⟩,⟨.x fam,true,[],3⟩,⟨30,false,[.sli Q 0 0 (ln CL) V h1,.sli W 1 0 (ln L) X h2],0⟩,⟨39,false,[.sli n3 2 0 (ln CT) c3 h3],0⟩,⟨4,false,[.val (.bool false)],0⟩,⟨80,false,[.ptr 4 0],0⟩,⟨4,false,[.val (.bool false)],0⟩,Bj (dI GU.il 0 (L.take j)),Bj (dI GU.ol 0 (L.take j)),⟨139,false,[.mp 9,.mp 10],0⟩,⟨80,false,[.ptr 4 0],0⟩]) ?_ ?_ () ⟨sZ,(λe P=>by cases P),sZ⟩;rintro j hj _ ⟨T,hmd,hd1⟩ R hR;have z:j<ln L:=by rw[iD] at hj;exact hj
 have H:IR (j:Nat):=aR h2 (bw z);rw[zp hj z H];conv=>whnf
 obtain⟨⟨Z,b2⟩,⟨a0,b3⟩,a1,a2⟩:=hL L[j] (ak z);refine .inl ⟨3,?_⟩;conv=>whnf
 conv=>arg 2;tactic'=>exact eC rfl rfl rfl rfl rfl rfl a1
 conv=>whnf
 refine zK [0,1,2,3,4,5,6,7,8,9,10,11,12,13] [1,2,3,4,6,25,26,30,31,32] [0,1,2] (G:={q:Nat//q<=L[j].il.length/\wN (EQ GU.il L L[j] j q)/\Y2 CL (EQ GU.il L L[j] j q)}) (λg=>[(1,.c (.ptr 7 0)),(2,.c (.ptr 8 0)),(3,.c (.ptr 11 0)),(4,.c (.int (j:Nat) H)),(6,.c (.int 0 dc)),(25,.agg [L[j].i.v,L[j].o.v]),(26,.c (.int 0 dc)),(30,.c L[j].i.v),(31,.c (.int (L[j].i.n:Nat) a1)),(32,.c (.int (g.1:Nat) (Hg a1 Z g.2.1)))]) (λg=>[(0,⟨.t tc,true,eM CL,0⟩),(1,⟨.t td,true,eO L,0⟩),(2,⟨.t tt,true,kp CT,0⟩),(3,⟨.x fam,true,[],3⟩),(4,⟨30,false,[.sli Q 0 0 (ln CL) V h1,.sli W 1 0 (ln L) X h2],0⟩),(5,⟨39,false,[.sli n3 2 0 (ln CT) c3 h3],0⟩),(6,⟨4,false,[.val (.bool false)],0⟩),(7,⟨80,false,[.ptr 4 0],0⟩),(8,⟨4,false,[.val (.bool false)],0⟩),(9,Bj (EQ GU.il L L[j] j g.1)),(10,Bj (dI GU.ol 0 (L.take j))),(11,⟨139,false,[.mp 9,.mp 10],0⟩),(12,⟨80,false,[.ptr 4 0],0⟩),(13,⟨135,false,[L[j].i.v,L[j].o.v],0⟩)]) (λg=>L[j].il.length-g.1) ⟨0,ah _,by rw[xM];exact⟨T,hmd⟩⟩ (pc (congrArg (λE=>TyX.m 138 (tJ E) (tJ E).length) (xM GU.il L L[j] j).symm)) ?_;rintro ⟨q,hq,F,hm⟩ vs3;have hq:q<=L[j].il.length:=hq;have F:wN (EQ GU.il L L[j] j q):=F;have hm:Y2 CL (EQ GU.il L L[j] j q):=hm;dsimp only;refine zB ?_ ?_<;>intro d;have d:q<L[j].il.length:=by rw[<-Z];exact dL d
 obtain⟨r,w,ha,hfm⟩: ∃r w,L[j].i.a=some ⟨r,w,none⟩/\pg fam (r,w) (qh L[j].il):=b2.resolve_left λe=>by rw[e] at d;cases d
 conv=>whnf
 refine .inr ⟨r,w,L[j].i.n,L[j].i.c,q,by show SV.c (.val (.slice L[j].i.a _ _))=_;rw[ha],rfl,by rw[Z];exact d,?_⟩;conv=>whnf
 refine .inr ⟨r,w,q*1,3,qh L[j].il,.c (.int L[j].il[q].x L[j].il[q].hx),rfl,⟨_,_,_,rfl,rfl,hfm⟩,⟨oO L[j].il d,ff⟩,?_⟩;conv=>whnf
 refine .inl ⟨3, 3,.c (.int L[j].il[q].x L[j].il[q].hx),.c (.int 0 dc),tG,tD,fr,GO _,m9 _,uW,λA=> ?_,λe P N=> ?_⟩;have s:=zr A;conv=>whnf
 obtain⟨i,a6,a4⟩:=JE a8 z (ak d);refine p6 ?_;conv=>arg 2;tactic'=>exact ap rfl rfl rfl rfl (MW CL a4 1 1 (r:=[.int CL[i].made CL[i].hm]) rfl) rfl
 refine zB ?_ ?_<;>intro y;have y:decide ((j:Int)<=CL[i].made)=true:=y;conv=>whnf
 exact O (λh=>Xs GU.il z d H a4 a6 (of_decide_eq_true y) h.1.2.1) _;have y:decide ((j:Int)<=CL[i].made)=false:=y;refine iT ?_;exact⟨3, 3,.c (.int L[j].il[q].x L[j].il[q].hx),.c (.int (j:Nat) H),tG,tD,fr,fr,GO _,m9 _,rfl,A,nq [0,1,2,3,4,5,6,7,8,9,10,11,12,13] ⟨q+1,d,G1 GU.il d s F,S7 GU.il d H a4 a6 (of_decide_eq_false y) hm⟩ (pc ((ZP _ L[j].il[q] H).trans (congrArg (λE=>TyX.m 138 (tJ E) (tJ E).length) (xL GU.il L L[j] j d).symm)))⟩;obtain⟨p,M,rfl⟩:=pF P;conv=>whnf
 exact O (λh=>R8 GU.il z d (e:=p) M (qD N) h.1.1) _;have Y:L[j].il.length<=q:=by rw[<-Z];exact gi d
 obtain rfl:q=L[j].il.length:=bo hq Y;have a9:wN (dI GU.il 0 (L.take (j+1))):=by rw[<-t8 GU.il z];exact F
 have b5:Y2 CL (dI GU.il 0 (L.take (j+1))):=by rw[<-t8 GU.il z];exact hm
 conv=>whnf
 conv=>arg 2;tactic'=>exact eC rfl rfl rfl rfl rfl rfl a2
 conv=>whnf
 refine zK [0,1,2,3,4,5,6,7,8,9,10,11,12,13] [1,2,3,4,6,25,26,30,31,32] [0,1,2] (G:={q:Nat//q<=L[j].ol.length/\wN (EQ GU.ol L L[j] j q)}) (λg=>[(1,.c (.ptr 7 0)),(2,.c (.ptr 8 0)),(3,.c (.ptr 11 0)),(4,.c (.int (j:Nat) H)),(6,.c (.int 1 dc)),(25,.agg [L[j].i.v,L[j].o.v]),(26,.c (.int 1 dc)),(30,.c L[j].o.v),(31,.c (.int (L[j].o.n:Nat) a2)),(32,.c (.int (g.1:Nat) (Hg a2 a0 g.2.1)))]) (λg=>[(0,⟨.t tc,true,eM CL,0⟩),(1,⟨.t td,true,eO L,0⟩),(2,⟨.t tt,true,kp CT,0⟩),(3,⟨.x fam,true,[],3⟩),(4,⟨30,false,[.sli Q 0 0 (ln CL) V h1,.sli W 1 0 (ln L) X h2],0⟩),(5,⟨39,false,[.sli n3 2 0 (ln CT) c3 h3],0⟩),(6,⟨4,false,[.val (.bool false)],0⟩),(7,⟨80,false,[.ptr 4 0],0⟩),(8,⟨4,false,[.val (.bool false)],0⟩),(9,Bj (dI GU.il 0 (L.take (j+1)))),(10,Bj (EQ GU.ol L L[j] j g.1)),(11,⟨139,false,[.mp 9,.mp 10],0⟩),(12,⟨80,false,[.ptr 4 0],0⟩),(13,⟨135,false,[L[j].i.v,L[j].o.v],0⟩)]) (λg=>L[j].ol.length-g.1) ⟨0,ah _,by rw[xM];exact hd1⟩ (zA (congrArg (λE=>TyX.m 138 (tJ E) (tJ E).length) (t8 GU.il z)) (pc (congrArg (λE=>TyX.m 138 (tJ E) (tJ E).length) (xM GU.ol L L[j] j).symm))) ?_;rintro ⟨q,hq,F⟩ vs3;have hq:q<=L[j].ol.length:=hq;have F:wN (EQ GU.ol L L[j] j q):=F;dsimp only;refine zB ?_ ?_<;>intro d;have d:q<L[j].ol.length:=by rw[<-a0];exact dL d
 obtain⟨r,w,ha,hfm⟩: ∃r w,L[j].o.a=some ⟨r,w,none⟩/\pg fam (r,w) (qh L[j].ol):=b3.resolve_left λe=>by rw[e] at d;cases d
 conv=>whnf
 refine .inr ⟨r,w,L[j].o.n,L[j].o.c,q,by show SV.c (.val (.slice L[j].o.a _ _))=_;rw[ha],rfl,by rw[a0];exact d,?_⟩;conv=>whnf
 refine .inr ⟨r,w,q*1,3,qh L[j].ol,.c (.int L[j].ol[q].x L[j].ol[q].hx),rfl,⟨_,_,_,rfl,rfl,hfm⟩,⟨oO L[j].ol d,ff⟩,?_⟩;conv=>whnf
 refine .inl ⟨3, 3,.c (.int L[j].ol[q].x L[j].ol[q].hx),.c (.int 0 dc),tG,tD,fr,GO _,m9 _,uW,λA=> ?_,λe P N=> ?_⟩;have s:=zr A;refine iT ?_;exact⟨3, 3,.c (.int L[j].ol[q].x L[j].ol[q].hx),.c (.int (j:Nat) H),tG,tD,fr,fr,GO _,m9 _,rfl,A,nq [0,1,2,3,4,5,6,7,8,9,10,11,12,13] ⟨q+1,d,G1 GU.ol d s F⟩ (pc ((ZP _ L[j].ol[q] H).trans (congrArg (λE=>TyX.m 138 (tJ E) (tJ E).length) (xL GU.ol L L[j] j d).symm)))⟩;obtain⟨p,M,rfl⟩:=pF P;conv=>whnf
 exact O (λh=>R8 GU.ol z d (e:=p) M (qD N) h.1.2.2) _;have Y:L[j].ol.length<=q:=by rw[<-a0];exact gi d
 obtain rfl:q=L[j].ol.length:=bo hq Y;have a7:wN (dI GU.ol 0 (L.take (j+1))):=by rw[<-t8 GU.ol z];exact F
 conv=>whnf
 exact .inr ⟨[0,1,2,3,4,5,6,7,8,9,10,11,12],[],[0,1,2],λb6=>⟨bR CL,bT L,cz CT,[],[⟨.t tc,true,eM CL,0⟩,⟨.t td,true,eO L,0⟩,⟨.t tt,true,kp CT,0⟩,⟨.x fam,true,[],3⟩,⟨30,false,[.sli Q 0 0 (ln CL) V h1,.sli W 1 0 (ln L) X h2],0⟩,⟨39,false,[.sli n3 2 0 (ln CT) c3 h3],0⟩,⟨4,false,[.val (.bool false)],0⟩,⟨80,false,[.ptr 4 0],0⟩,⟨4,false,[.val (.bool false)],0⟩,Bj (dI GU.il 0 (L.take (j+1))),Bj (dI GU.ol 0 (L.take (j+1))),⟨139,false,[.mp 9,.mp 10],0⟩,⟨80,false,[.ptr 4 0],0⟩],trivial,(by(iterate 10 refine⟨mL _,?_⟩);refine⟨⟨congrArg (λE=>TyX.m 138 (tJ E) (tJ E).length) (t8 GU.ol z),rfl,rfl,fr⟩,?_⟩;exact gz _),ci rfl rfl fr (ci rfl rfl fr (ci rfl rfl fr (ci rfl rfl fr trivial))),hR () ⟨a9,b5,a7⟩⟩⟩;rintro _ ⟨T,hmd,hd1⟩;rw[iD,bP] at T hmd hd1;conv=>whnf
 refine zK [0,1,2,3,4,5,6,7,8,9,10,11,12] [2,3,71,72,73] [0,1,2] (G:={k:Nat//k<=ln CL/\ ∀i (h:i<ln CL),i<k->Bn (dI GU.il 0 L) i CL[i].used/\Bn (dI GU.ol 0 L) i CL[i].made}) (λg=>[(2,.c (.ptr 8 0)),(3,.c (.ptr 11 0)),(71,.c (.sli Q 0 0 (ln CL) V h1)),(72,.c (.int (ln CL:Nat) (aR h1 (ai _)))),(73,.c (.int (g.1:Nat) (aR h1 g.2.1)))]) (λ_=>[(0,⟨.t tc,true,eM CL,0⟩),(1,⟨.t td,true,eO L,0⟩),(2,⟨.t tt,true,kp CT,0⟩),(3,⟨.x fam,true,[],3⟩),(4,⟨30,false,[.sli Q 0 0 (ln CL) V h1,.sli W 1 0 (ln L) X h2],0⟩),(5,⟨39,false,[.sli n3 2 0 (ln CT) c3 h3],0⟩),(6,⟨4,false,[.val (.bool false)],0⟩),(7,⟨80,false,[.ptr 4 0],0⟩),(8,⟨4,false,[.val (.bool false)],0⟩),(9,Bj (dI GU.il 0 L)),(10,Bj (dI GU.ol 0 L)),(11,⟨139,false,[.mp 9,.mp 10],0⟩),(12,⟨80,false,[.ptr 4 0],0⟩)]) (λg=>ln CL-g.1) ⟨0,ah _,λi _ h=>absurd h (gh _)⟩ (zA (congrArg (λE=>TyX.m 138 (tJ E) (tJ E).length) (show dI GU.il 0 (L.take (jZ 0 L).length)=dI GU.il 0 L by rw[iD,bP])) (pc (congrArg (λE=>TyX.m 138 (tJ E) (tJ E).length) (show dI GU.ol 0 (L.take (jZ 0 L).length)=dI GU.ol 0 L by rw[iD,bP])))) ?_;rintro ⟨k,N,I⟩ vs6;have N:k<=ln CL:=N;have I: ∀i (h:i<ln CL),i<k->Bn (dI GU.il 0 L) i CL[i].used/\Bn (dI GU.ol 0 L) i CL[i].made:=I;dsimp only;refine zB ?_ ?_<;>intro u;have u:k<ln CL:=dL u;have a5:IR (k:Int):=aR h1 N;refine eS ?_;refine .inl ⟨3,?_⟩;conv=>whnf
 refine .inl ⟨3, 3,.c (.int (k:Int) a5),.c (.int 0 dc),tG,tD,fr,GO _,m9 _,uW,λA=> ?_,λe P N=> ?_⟩;have s:=zr A;refine zB ?_ ?_<;>intro f;have f:=bo1 (p:=(0:Int)<=CL[k].used) f;conv=>whnf
 exact O (λh=>JV s f (h.2 k u).1) _;have f:=bo2 (p:=(0:Int)<=CL[k].used) f;have U:Bn (dI GU.il 0 L) k CL[k].used:= .inr ⟨om,s⟩;conv=>whnf
 refine .inl ⟨3, 3,.c (.int (k:Int) a5),.c (.int 0 dc),tG,tD,fr,GO _,m9 _,uW,λA=> ?_,λe P N=> ?_⟩;have s:=zr A;refine zB ?_ ?_<;>intro f;have f:=bo1 (p:=(0:Int)<=CL[k].made) f;conv=>whnf
 exact O (λh=>JV s f (h.2 k u).2) _;have f:=bo2 (p:=(0:Int)<=CL[k].made) f;have J:Bn (dI GU.ol 0 L) k CL[k].made:= .inr ⟨om,s⟩;exact dD [0,1,2,3,4,5,6,7,8,9,10,11,12] ⟨k+1,u,u5 I U J⟩;obtain⟨p,M,rfl⟩:=pF P;have B:p.1.x=(k:Int):=qD N;refine zB ?_ ?_<;>intro f;have f:=bo3 (p:=(0:Int)<=CL[k].made) f;conv=>whnf
 exact O (λh=>JW M B f (h.2 k u).2) _;have f:=bo4 (p:=(0:Int)<=CL[k].made) f;refine zB ?_ ?_<;>intro D;have D:=bo5 (p:=p.2.x=CL[k].made) D;conv=>whnf
 exact O (λh=>JX hd1 M B D (h.2 k u).2) _;have D:=bo6 (p:=p.2.x=CL[k].made) D;have J:Bn (dI GU.ol 0 L) k CL[k].made:= .inl ⟨f,p,M,B,D⟩;exact dD [0,1,2,3,4,5,6,7,8,9,10,11,12] ⟨k+1,u,u5 I U J⟩;obtain⟨p,M,rfl⟩:=pF P;have B:p.1.x=(k:Int):=qD N;refine zB ?_ ?_<;>intro f;have f:=bo3 (p:=(0:Int)<=CL[k].used) f;conv=>whnf
 exact O (λh=>JW M B f (h.2 k u).1) _;have f:=bo4 (p:=(0:Int)<=CL[k].used) f;refine zB ?_ ?_<;>intro D;have D:=bo5 (p:=p.2.x=CL[k].used) D;conv=>whnf
 exact O (λh=>JX T M B D (h.2 k u).1) _;have D:=bo6 (p:=p.2.x=CL[k].used) D;have U:Bn (dI GU.il 0 L) k CL[k].used:= .inl ⟨f,p,M,B,D⟩;conv=>whnf
 refine .inl ⟨3, 3,.c (.int (k:Int) a5),.c (.int 0 dc),tG,tD,fr,GO _,m9 _,uW,λA=> ?_,λe P N=> ?_⟩;have s:=zr A;refine zB ?_ ?_<;>intro f;have f:=bo1 (p:=(0:Int)<=CL[k].made) f;conv=>whnf
 exact O (λh=>JV s f (h.2 k u).2) _;have f:=bo2 (p:=(0:Int)<=CL[k].made) f;have J:Bn (dI GU.ol 0 L) k CL[k].made:= .inr ⟨om,s⟩;exact dD [0,1,2,3,4,5,6,7,8,9,10,11,12] ⟨k+1,u,u5 I U J⟩;obtain⟨p,M,rfl⟩:=pF P;have B:p.1.x=(k:Int):=qD N;refine zB ?_ ?_<;>intro f;have f:=bo3 (p:=(0:Int)<=CL[k].made) f;conv=>whnf
 exact O (λh=>JW M B f (h.2 k u).2) _;have f:=bo4 (p:=(0:Int)<=CL[k].made) f;refine zB ?_ ?_<;>intro D;have D:=bo5 (p:=p.2.x=CL[k].made) D;conv=>whnf
 exact O (λh=>JX hd1 M B D (h.2 k u).2) _;have D:=bo6 (p:=p.2.x=CL[k].made) D;have J:Bn (dI GU.ol 0 L) k CL[k].made:= .inl ⟨f,p,M,B,D⟩;exact dD [0,1,2,3,4,5,6,7,8,9,10,11,12] ⟨k+1,u,u5 I U J⟩;have Y:ln CL<=k:=gi u;conv=>whnf
 exact hT ⟨⟨T,hmd,hd1⟩,λi h=>I i h om⟩ _
end
section
variable {CL:List CU} {L:List GU} {CT:List Bool}
def jN (CL:List CU):List ZV->List ZV
 |[]=>[]
 |z::l=>(match pm CL z with|some c=>if 0<=c.made then [⟨c.made,c.hm⟩] else []|none=>[])++jN CL l
def tO CL: ∀l:List ZV,fR CL l=(jN CL l).map λz=>[SV.c (.int z.x z.hx)]
 |[]=>rfl
 |z::l=>by
  rw[fR,jN,aV,tO CL l];congr 1
  cases pm CL z with
  |none=>rfl
  |some c=>simp only;split<;>rfl
def jA CL: ∀{l z},z∈jN CL l↔ ∃y∈l,∃c,pm CL y=some c/\0<=c.made/\z=⟨c.made,c.hm⟩
 |[],z=>⟨λh=>(by cases h),λ⟨y,h,_⟩=>(by cases h)⟩
 |y::l,z=>by rw[jN,aT,jA CL];constructor;rintro(h|⟨g,d,f⟩);split at h;rename_i c m;split at h;rename_i k;rw[bq] at h;exact⟨y,aP,c,m,k,h⟩;cases h;cases h;exact⟨g,aD _ d,f⟩;rintro⟨g,d,c,f,j,i⟩;rcases br.1 d with e|d;subst e;left;rw[f];simp only;rw[if_pos j];exact bq.2 i;exact .inr ⟨g,d,c,f,j,i⟩
def F5 {z c} (h:pm CL z=some c):c∈CL:=dV h
def pG (h:sk CL L=true) {c} (e:c∈CL):c.made<(ln L:Nat)/\c.used<(ln L:Nat):=by unfold sk at h;rw[aG] at h;have d:=fE.1 h.1 _ e;unfold qL at d;simp only[aG,dE,decide_eq_false_iff_not] at d;obtain⟨-,d⟩:=d;unfold maxI at d;split at d<;>omega
def YF l {k} (hk:k<ln l):dk (kp l) (0+k*1) 1=some [.val (.bool l[k])]:=by
 have app: ∀a b:List Bool,kp (a++b)=kp a++kp b:=λa b=>by
  induction a with
  |nil=>rfl
  |cons x a ih=>rw[cK,kp,ih];rfl
 have d: ∀a:List Bool,bu (kp a)=ln a:=λa=>by
  induction a with
  |nil=>rfl
  |cons x a ih=>rw[kp,aS,<-ih];show 1+_=_;omega
 have e:kp l=kp (l.take k)++([.val (.bool l[k])]++kp (l.drop (k+1))):=by (have h:l=l.take k++(l[k]::l.drop (k+1)):=by rw[<-bh hk,aF]);rw[show kp l=kp (l.take k++(l[k]::l.drop (k+1))) by rw[<-h],app];rfl
 have s:bu (kp (l.take k))=0+k*1:=by rw[d,aO,cq (bw hk)];omega
 rw[e,<-s];exact eY _ [.val (.bool l[k])] _
def ClQ (CL:List CU) (L:List GU) (CT:List Bool) (n:Nat):Prop:= ∀k (h:k<ln L),k<n->CT[k]? =some true-> ∀z∈jN CL L[k].il,CT[z.x.toNat]? =some true
def a58 :ClQ CL L CT (ln L)↔ClP CL L CT:=by constructor;intro h k d e z f c i g;exact h k d d e ⟨c.made,c.hm⟩ ((jA CL).2 ⟨z,f,c,i,g,rfl⟩);intro h k d _ e z f;obtain⟨y,j,c,i,g,rfl⟩:=(jA CL).1 f;exact h k d e y j c i g
def Px {n} (g:n<ln L) (h:ClQ CL L CT n) (hs:CT[n]? =some true-> ∀z∈jN CL L[n].il,CT[z.x.toNat]? =some true):ClQ CL L CT (n+1):=λk e f=>by rcases cj k n with d|d;exact h k e d;obtain rfl:k=n:=om;exact hs
def a0Z:cP:=λd e K=> ∃h CL r m i L p f q CT k o fam j u s,d=[.agg [.sli h 0 0 (ln CL) r m,.sli i 1 0 (ln L) p f],.c (.sli q 2 0 (ln CT) k o)]/\e=[⟨.t j,true,eM CL,0⟩,⟨.t u,true,eO L,0⟩,⟨.t s,true,kp CT,0⟩,⟨.x fam,true,[],3⟩]/\(∀g∈L,g.Ok fam)/\ ∀b,(b=true↔iZ CL L CT)->K (.c (.val (.bool b))) []
def Du:pd prog 29 a0Z:=iA (nw 0) bj (ze (l:=[48, 49]) (ck (nw 0) bj Xv 6)) ⟨func29,kr,kr⟩ λa5 a6 K y=>by
 obtain⟨D,CL,M,F,E,L,J,B,X,CT,U,u,fam,P,Z,Y,rfl,rfl,hL,y⟩:=y;refine⟨zD,?_⟩;conv=>whnf
 refine .mk (JF (fam:=fam) hL (λN ex=> ?_) (λN ex=> ?_));exact .inr ⟨[0,1,2,3,4,5,6],[0],[0,1,2],λvs=>⟨bR CL,bT L,cz CT,[.c (.val (.bool false))],[⟨.t P,true,eM CL,0⟩,⟨.t Z,true,eO L,0⟩,⟨.t Y,true,kp CT,0⟩,⟨.x fam,true,[],3⟩,⟨30,false,[.sli D 0 0 (ln CL) M F,.sli E 1 0 (ln L) J B],0⟩,⟨39,false,[.sli X 2 0 (ln CT) U u],0⟩,⟨4,false,[.val (.bool false)],0⟩],⟨fr,trivial⟩,gz _,[0,1,2,3],[0,1,2],λp=>⟨bR CL,bT L,cz CT,_,[],rfl,gz _,trivial,_,fr,y _ ⟨λh=>(by cases h),λh=>absurd (show sk CL L=true from h.1.1) (by rw[N];decide)⟩⟩⟩⟩;refine .inr ⟨[0,1,2,3,4,5,6],[0],[0,1,2],λvs=>⟨bR CL,bT L,cz CT,[.c (.val (.bool true))],[⟨.t P,true,eM CL,0⟩,⟨.t Z,true,eO L,0⟩,⟨.t Y,true,kp CT,0⟩,⟨.x fam,true,[],3⟩,⟨30,false,[.sli D 0 0 (ln CL) M F,.sli E 1 0 (ln L) J B],0⟩,⟨39,false,[.sli X 2 0 (ln CT) U u],0⟩,⟨4,false,[.val (.bool false)],0⟩],⟨fr,trivial⟩,gz _,?_⟩⟩;conv=>whnf
 refine .mk (OH (fam:=fam) hL N (λhm ex=> ?_) (λhm ex=> ?_));exact .inr ⟨[0,1,2,3,4,5,6],[0],[0,1,2],λvs=>⟨bR CL,bT L,cz CT,[.c (.val (.bool false))],[⟨.t P,true,eM CL,0⟩,⟨.t Z,true,eO L,0⟩,⟨.t Y,true,kp CT,0⟩,⟨.x fam,true,[],3⟩,⟨30,false,[.sli D 0 0 (ln CL) M F,.sli E 1 0 (ln L) J B],0⟩,⟨39,false,[.sli X 2 0 (ln CT) U u],0⟩,⟨4,false,[.val (.bool false)],0⟩],⟨fr,trivial⟩,gz _,[0,1,2,3],[0,1,2],λp=>⟨bR CL,bT L,cz CT,_,[],rfl,gz _,trivial,_,fr,y _ ⟨λh=>(by cases h),λh=>absurd (show MkP CL L from h.1.2) hm⟩⟩⟩⟩;refine .inr ⟨[0,1,2,3,4,5,6],[0],[0,1,2],λvs=>⟨bR CL,bT L,cz CT,[.c (.val (.bool true))],[⟨.t P,true,eM CL,0⟩,⟨.t Z,true,eO L,0⟩,⟨.t Y,true,kp CT,0⟩,⟨.x fam,true,[],3⟩,⟨30,false,[.sli D 0 0 (ln CL) M F,.sli E 1 0 (ln L) J B],0⟩,⟨39,false,[.sli X 2 0 (ln CT) U u],0⟩,⟨4,false,[.val (.bool false)],0⟩],⟨fr,trivial⟩,gz _,?_⟩⟩;refine zB ?_ ?_<;>intro f;have f:(!decide ((ln CT:Int)=(ln L:Nat)))=true:=f;have f:=bo5 f;exact⟨[0,1,2,3],[0,1,2],λp=>⟨bR CL,bT L,cz CT,_,[],rfl,gz _,trivial,_,fr,y _ ⟨λh=>(by cases h),λh=>absurd (show (ln CT)=(ln L) from h.2.1) (λe=>f (by rw[e]))⟩⟩⟩;have f:(!decide ((ln CT:Int)=(ln L:Nat)))=false:=f;have f:ln CT=ln L:=Int.ofNat.inj (bo6 f);conv=>whnf
 refine zK [0,1,2,3,4,5,6] [2,3,4,22,23,24] [0,1,2] (G:={k:Nat//k<=ln CT/\ClQ CL L CT k}) (λg=>[(24,.c (.int (g.1:Nat) (aR u g.2.1)))]) (λ_=>[]) (λg=>ln CT-g.1) ⟨0,ah _,λk Q h=>absurd h (gh _)⟩ trivial ?_;rintro ⟨k,Q,j⟩ vs6;have Q:k<=ln CT:=Q;have j:ClQ CL L CT k:=j;dsimp only;refine zB ?_ ?_<;>intro d;have d:k<ln CT:=dL d;have V:IR (k:Int):=aR u Q;have hkl:k<ln L:=by rw[<-f];exact d
 refine eS ?_;obtain⟨a4,-,a1,-⟩:=hL L[k] (ak hkl);refine .inr ⟨rfl,8,9,4,1,0,3,_,_,_,_,_,_,_,_,_,_,_,_,_,_,_,_,k,V,D,CL,M,F,E,L,J,B,fam,L[k].il,hkl,rfl,rfl,rfl,rfl,rfl,rfl,rfl,.inr rfl,⟨a4,a1,λz o=> ?_⟩,?_⟩;obtain⟨i,e1,e2⟩:=JE N hkl o;omega;rw[tO];refine⟨ci rfl rfl fr (ci rfl rfl fr (ci rfl rfl fr (ci rfl rfl fr (ci rfl rfl fr (mO rfl rfl ⟨[],(bk _).symm⟩ trivial))))),?_⟩;refine pN (G:=Unit) (λq _=>CT[k]=true-> ∀z∈(jN CL L[k].il).take q,CT[z.x.toNat]? =some true) (λ_ _=>[⟨.t P,true,eM CL,0⟩,⟨.t Z,true,eO L,0⟩,⟨.t Y,true,kp CT,0⟩,⟨.x fam,true,[],3⟩,⟨30,false,[.sli D 0 0 (ln CL) M F,.sli E 1 0 (ln L) J B],0⟩,⟨39,false,[.sli X 2 0 (ln CT) U u],0⟩,⟨4,false,[.val (.bool false)],0⟩,⟨4,false,[.val (.bool CT[k])],0⟩,⟨80,false,[.ptr 4 0],0⟩,⟨3,false,[.int (k:Int) V],0⟩]) ?_ ?_ () (λ_ z o=>by rw[List.take_zero] at o;cases o);rintro q hq _ hP R hR;have A:q<(jN CL L[k].il).length:=by rw[bO] at hq;exact hq
 rw[go];obtain⟨yy,hy,cc,a2,a7,s⟩:=(jA CL).1 (ak A);obtain⟨I,hzz⟩: ∃I,I=(jN CL L[k].il)[q]:=⟨_,rfl⟩;rw[<-hzz] at s⊢;have a9:=(pG N (F5 a2)).1;obtain⟨m,hm1⟩: ∃m:Nat,I.x=m:=⟨I.x.toNat,by rw[s];simp only;omega⟩;have W:m<ln CT:=by rw[s] at hm1;simp only at hm1;omega
 have T:(CT[k]=true->CT[m]=true)->CT[k]=true-> ∀z∈(jN CL L[k].il).take (q+1),CT[z.x.toNat]? =some true:=λh9 O z o=>by rw[eG,ae A,eL,aT,bq] at o;rcases o with o|o;exact hP O z o;rw[o,<-hzz,hm1,bW,ae W,h9 O]
 refine zB ?_ ?_<;>intro H;have H:CT[k]=true:=H;refine eS ?_;refine zB ?_ ?_<;>intro r;have r:(!CT[m])=true:=r;exact⟨[0,1,2,3],[0,1,2],λp=>⟨bR CL,bT L,cz CT,_,[],rfl,gz _,trivial,_,fr,y _ ⟨λh=>(by cases h),λh=>absurd ((a58.2 h.2.2) k hkl hkl (by rw[ae d,H]) I (by rw[hzz];exact ak A)) (by rw[hm1,bW,ae W];intro e;rw[bL.inj e] at r;cases r)⟩⟩⟩;have r:(!CT[m])=false:=r;have r:CT[m]=true:=by cases hx:CT[m]<;>simp_all
 refine iT ?_;exact⟨(ci rfl rfl fr (ci rfl rfl fr (ci rfl rfl fr (ci rfl rfl fr (ci rfl rfl fr (mO rfl rfl ⟨[],(bk _).symm⟩ trivial)))))),hR () (T λ_=>r)⟩;have H:CT[k]=false:=H;refine iT ?_;exact⟨(ci rfl rfl fr (ci rfl rfl fr (ci rfl rfl fr (ci rfl rfl fr (ci rfl rfl fr (mO rfl rfl ⟨[],(bk _).symm⟩ trivial)))))),hR () (T λh=>absurd h (by rw[H];decide))⟩;rintro _ hP;rw[bO,bP] at hP;exact dD [0,1,2,3,4,5,6] ⟨k+1,d,Px hkl j (λh9=>hP (by rw[ae d] at h9;exact bL.inj h9))⟩;have a0:ln CT<=k:=gi d;obtain rfl:k=ln CT:=bo Q a0;rw[f] at j;exact⟨[0,1,2,3],[0,1,2],λp=>⟨bR CL,bT L,cz CT,_,[],rfl,gz _,trivial,_,fr,y _ ⟨λ_=>⟨⟨N,hm⟩,f,a58.1 j⟩,fr⟩⟩⟩
end
section
variable {CL:List CU} {CT:List Bool}
def bI:RW ZV:=⟨λz=>[.int z.x z.hx],1,fr,λ_ _ _=>rfl,fr⟩
def xC (CT:List Bool) (x:Int):Bool:=CT[x.toNat]?.getD false
def nf (CT:List Bool) (c:CU):Bool:=(decide (c.made<0)||xC CT c.made)&&(decide (c.used<0)|| !xC CT c.used)
def l7 (CL:List CU) (CT:List Bool):Nat->List Nat
 |0=>[]
 |k+1=>l7 CL CT k++(match CL[k]?with|some c=>if nf CT c=true then [k] else []|none=>[])
def Ar (CL:List CU) (CT:List Bool): ∀k,(l7 CL CT k).length<=k
 |0=>ai _
 |k+1=>by have:=Ar CL CT k;rw[l7,aa];split;split<;>simp<;>omega;simp;omega
def vh {k:Nat} (hk:k<ln CL) (h:nf CT CL[k]=true):l7 CL CT (k+1)=l7 CL CT k++[k]:=by rw[l7,ae hk];simp only[h,if_true]
def ER {k:Nat} (hk:k<ln CL) (h:nf CT CL[k]=false):l7 CL CT (k+1)=l7 CL CT k:=by rw[l7,ae hk];simp[h]
def mZ {x:Int} {m:Nat} (hx:x=m) (hm:m<ln CT):xC CT x=CT[m]:=by unfold xC;rw[hx,bW,ae hm];rfl
def Q9:cP:=λd e K=> ∃h CL s m i L q f r CT k p fam j y u,d=[.agg [.sli h 0 0 (ln CL) s m,.sli i 1 0 (ln L) q f],.c (.sli r 2 0 (ln CT) k p)]/\e=[⟨.t j,true,eM CL,0⟩,⟨.t y,true,eO L,0⟩,⟨.t u,true,kp CT,0⟩,⟨.x fam,true,[],3⟩]/\(∀g∈L,g.Ok fam)/\ln CL<=1099511627776/\ ∀o:OL ZV,(iZ CL L CT->o.l=(l7 CL CT (ln CL)).map zN)->(¬iZ CL L CT->o.l=[])->K (o.sl 4) [o.blk bI 3]
def vf {c:CU} (h1:decide (c.made<0)=true\/xC CT c.made=true) (h2:decide (c.used<0)=true\/xC CT c.used=false):nf CT c=true:=by unfold nf;rcases h1 with h1|h1<;>rcases h2 with h2|h2<;>simp[h1,h2]
def Ua {c:CU} (h1:decide (c.made<0)=false) (h2:xC CT c.made=false):nf CT c=false:=by unfold nf;rw[h1,h2];rfl
def Hx {c:CU} (h1:decide (c.used<0)=false) (h2:xC CT c.used=true):nf CT c=false:=by unfold nf;rw[h1,h2];exact CM _
def Wr:pd prog 35 Q9:=iA (nw 0) bj (lP (.cons Du .nil) (ck (nw 0) bj bg 0)) ⟨func35,kr,kr⟩ λT a0 K D=>by
 obtain⟨H,CL,R,z,I,L,r,F,Q,CT,N,P,fam,tc,td,tt,rfl,rfl,Z,V,D⟩:=D;refine⟨zD,?_⟩
 refine⟨3,[0,1,2],[.agg [.sli H 0 0 (ln CL) R z,.sli I 1 0 (ln L) r F],.c (.sli Q 2 0 (ln CT) N P)],(λρ a1 e=>by
  show cg (SV.den ρ) [.agg [.sli H 0 0 (ln CL) R z,.sli I 1 0 (ln L) r F],.c (.sli Q 2 0 (ln CT) N P)]=_
  have e0:=e 0 _ rfl
  have X:=e 1 _ rfl
  have Y:=e 2 _ rfl
  simp only[cg,SV.den,C.den,C.cells,e0,X,Y,aL,bF,af]),.inr rfl,⟨bR CL,bT L,cz CT,trivial⟩,H,CL,R,z,I,L,r,F,Q,CT,N,P,fam,_,_,_,rfl,rfl,Z,λb U=> ?_⟩
 refine zB ?_ ?_<;>intro O;have A: ¬iZ CL L CT:=λh=>by rw[U.2 h] at O;cases O
 exact zO [0,1,2,3,1000+ 3] [0,1,2] (v3:=OL.none.sl 4) (D OL.none (λh=>absurd h A) fr);have A:iZ CL L CT:=U.1 (by cases b with|true=>rfl|false=>cases O);conv=>whnf
 obtain⟨⟨hi,-⟩,hn,-⟩:=id A;refine zK [0,1,2,3,4,1000+ 3] [1,2,5,13,14,15] [0,1,2,5] (G:={p:{k:Nat//k<=ln CL}×OL ZV//p.2.l=(l7 CL CT p.1.1).map zN}) (λg=>[(5,g.1.2.sl 5),(15,.c (.int (g.1.1.1:Nat) (aR z g.1.1.2)))]) (λg=>[(5,g.1.2.blk bI 3)]) (λg=>ln CL-g.1.1.1) ⟨(⟨0,ah _⟩,OL.none),rfl⟩ trivial ?_;rintro ⟨⟨⟨k,B⟩,o⟩,q⟩ vs6;have q:o.l=(l7 CL CT k).map zN:=q;have B:k<=ln CL:=B;have W:ln o.l<=k:=by rw[q,bO];exact Ar CL CT k
 dsimp only;refine zB ?_ ?_<;>intro d;have d:k<ln CL:=dL d;have f:IR (k:Int):=aR z B;refine eS ?_;obtain⟨a2,a4⟩:=pG hi (ak d);refine zB ?_ ?_<;>intro s;have s:decide (CL[k].made<0)=true:=s;refine zB ?_ ?_<;>intro j;have j:decide (CL[k].used<0)=true:=j;refine A6 ?_;exact⟨rfl,o.app bI 3 (m:=1) (by show(ln o.l+1)*1<=5000000000000;omega),λr x=> dD [0,1,2,3,4,8] ⟨(⟨k+1,d⟩,o.push [⟨(k:Int),f⟩] rfl r x),by rw[vh d (vf (.inl s) (.inl j)),aV,<-q];show o.l++_=o.l++[zN k];rw[vv f]⟩⟩
 iterate 2
  try
   exact⟨rfl,o.app bI 3 (m:=1) (by show(ln o.l+1)*1<=5000000000000;omega),λr x=> dD [0,1,2,3,4,8] ⟨(⟨k+1,d⟩,o.push [⟨(k:Int),f⟩] rfl r x),by rw[vh d (vf (.inl s) (.inr (by rw[mZ ue E];exact i))),aV,<-q];show o.l++_=o.l++[zN k];rw[vv f]⟩⟩
   have i:(!CT[u])=false:=i
   have i:CT[u]=true:=by cases hx:CT[u]<;>simp_all
   exact dD [0,1,2,3,4,5] ⟨(⟨k+1,d⟩,o),by rw[ER d (Hx j (by rw[mZ ue E];exact i))];exact q⟩
   have s:decide (CL[k].made<0)=false:=s
   obtain⟨m,me⟩: ∃m:Nat,CL[k].made=m:=⟨CL[k].made.toNat,(nr (by have:=of_decide_eq_false s;omega)).symm⟩
   have M:m<ln CT:=om
   have mi:IR (m:Int):=by rw[<-me];exact CL[k].hm
   refine eS ?_
   refine zB ?_ ?_<;>intro y
   have y:CT[m]=true:=y
   refine zB ?_ ?_<;>intro j
   have j:decide (CL[k].used<0)=true:=j
   refine A6 ?_
   exact⟨rfl,o.app bI 3 (m:=1) (by show(ln o.l+1)*1<=5000000000000;omega),λr x=> dD [0,1,2,3,4,8] ⟨(⟨k+1,d⟩,o.push [⟨(k:Int),f⟩] rfl r x),by rw[vh d (vf (.inr (by rw[mZ me M];exact y)) (.inl j)),aV,<-q];show o.l++_=o.l++[zN k];rw[vv f]⟩⟩
  have j:decide (CL[k].used<0)=false:=j
  obtain⟨u,ue⟩: ∃m:Nat,CL[k].used=m:=⟨CL[k].used.toNat,(nr (by have:=of_decide_eq_false j;omega)).symm⟩
  have E:u<ln CT:=om
  have ui:IR (u:Int):=by rw[<-ue];exact CL[k].hu
  refine eS ?_
  refine zB ?_ ?_<;>intro i
  have i:(!CT[u])=true:=i
  have i:CT[u]=false:=by cases hx:CT[u]<;>simp_all
  refine A6 ?_
 exact⟨rfl,o.app bI 3 (m:=1) (by show(ln o.l+1)*1<=5000000000000;omega),λr x=> dD [0,1,2,3,4,8] ⟨(⟨k+1,d⟩,o.push [⟨(k:Int),f⟩] rfl r x),by rw[vh d (vf (.inr (by rw[mZ me M];exact y)) (.inr (by rw[mZ ue E];exact i))),aV,<-q];show o.l++_=o.l++[zN k];rw[vv f]⟩⟩;have i:(!CT[u])=false:=i;have i:CT[u]=true:=by cases hx:CT[u]<;>simp_all
 exact dD [0,1,2,3,4,5] ⟨(⟨k+1,d⟩,o),by rw[ER d (Hx j (by rw[mZ ue E];exact i))];exact q⟩;have y:CT[m]=false:=y;exact dD [0,1,2,3,4,5] ⟨(⟨k+1,d⟩,o),by rw[ER d (Ua s (by rw[mZ me M];exact y))];exact q⟩;have J:ln CL<=k:=gi d;obtain rfl:k=ln CL:=bo B J;exact zO [0,1,2,3,5] [0,1,2,4] (v3:=o.sl 4) (D o (λ_=>q) (λh=>absurd A h))
end
section
section
variable {P:Program} {T:TypeId->Option TI} (hT:Fw P T)
include hT
end
end
def bY:RW Bool:=⟨λb=>[.val (.bool b)],1,fr,λ_ _ _=>rfl,fr⟩
def qy: ∀l:List Bool,kp l=bG bY l
 |[]=>rfl
 |b::l=>by rw[kp,qy l];rfl
noncomputable def a7n:FuncId->Option Func:=lk [(83, f83)]
def WX: ∀f fn,a7n f=some fn->iM prog f fn:=nV λx d=>by simp only[br,cd,or_false] at d;subst d;exact⟨func83,kr,kr⟩
def QR:cP:=λe h K=> ∃j f z q k L u i y d p r fam m B A n s,e=[.agg [.sli j 0 0 (ln f) z q,.sli k 1 0 (ln L) u i],.c (.sli y 2 0 (ln d) p r),.c (.int n s)]/\h=[⟨.t m,true,eM f,0⟩,⟨.t B,true,eO L,0⟩,⟨.t A,true,kp d,0⟩,⟨.x fam,true,[],3⟩]/\(∀g∈L,g.Ok fam)/\ln d<=1099511627776/\
 ∀(o:OL Bool) b,(b=true->(0<=n/\n<(ln d:Nat)/\iZ f L d)/\o.l=d/\o.nl=false)->(b=false-> ¬(0<=n/\n<(ln d:Nat)/\iZ f L d)/\o.l=[])->K (.tup [o.t 4,.c (.val (.bool b))]) [o.blk bY 4]
def NX:pd prog 51 QR:=iA (nw 0) bj (lP (.cons Du .nil) (ck (nw 0) bj WX 2)) ⟨func51,kr,kr⟩ λF N K g=>by
 obtain⟨s,f,E,A,u,L,D,r,p,d,z,k,fam,T,V,R,n,U,rfl,rfl,M,G,g⟩:=g;refine⟨zD,?_⟩;refine zB ?_ ?_<;>intro o;have o:=of_decide_eq_true o;exact zO [0,1,2,3,1000+ 4] [0,1,2] (v3:=.tup [OL.none.t 4,.c (.val (.bool false))]) (g OL.none false (λh=>by cases h) (λ_=>⟨λh=>absurd h.1 om,rfl⟩));have o: ¬n<0:=of_decide_eq_false o;refine zB ?_ ?_<;>intro j;have j:(ln d:Int)<=n:=of_decide_eq_true j;exact zO [0,1,2,3,1000+ 4] [0,1,2] (v3:=.tup [OL.none.t 4,.c (.val (.bool false))]) (g OL.none false (λh=>by cases h) (λ_=>⟨λh=>absurd h.2.1 om,rfl⟩));have j: ¬(ln d:Int)<=n:=of_decide_eq_false j
 refine⟨3,[0,1,2],[.agg [.sli s 0 0 (ln f) E A,.sli u 1 0 (ln L) D r],.c (.sli p 2 0 (ln d) z k)],(λi O e=>by
  show cg (SV.den i) [.agg [.sli s 0 0 (ln f) E A,.sli u 1 0 (ln L) D r],.c (.sli p 2 0 (ln d) z k)]=_
  have Q:=e 0 _ rfl
  have I:=e 1 _ rfl
  have J:=e 2 _ rfl
  simp only[cg,SV.den,C.den,C.cells,Q,I,J,aL,bF,af]),.inr rfl,⟨bR f,bT L,cz d,trivial⟩,s,f,E,A,u,L,D,r,p,d,z,k,fam,_,_,_,rfl,rfl,M,λb H=> ?_⟩
 refine zB ?_ ?_<;>intro B;have x: ¬iZ f L d:=λh=>by rw[H.2 h] at B;cases B
 exact zO [0,1,2,3,1000+ 4] [0,1,2] (v3:=.tup [OL.none.t 4,.c (.val (.bool false))]) (g OL.none false (λh=>by cases h) (λ_=>⟨λh=>x h.2.2,rfl⟩));have x:iZ f L d:=H.1 (by cases b with|true=>rfl|false=>cases B);have y:0<ln d:=om;obtain rfl:p=false:=k.pos y;refine zl3 ?_;conv=>whnf
 rw[show dk (⟨.t R,true,kp d,0⟩:aY).cs 0 (ln d*1)=some (kp d) by rw[qy];exact gQ bY d];refine⟨by rw[qy];exact fZ bY _,⟨rfl,rfl,rfl,fr,(by show(0+ln d)*1<=5000000000000;omega)⟩,λm q=>⟨[0,1,2,3,6],[0,1,2,4],λP=>⟨bR f,bT L,cz d,cz d,_,[(OL.mk d false m (by rw[aN] at q;exact q)).blk bY 4],rfl,⟨mL _,mL _,mL _,mL _,⟨rfl,rfl,(show(m-(0+ln d))*1=(m-ln d)*1 by rw[aN]),λi=>(show af i (kp d)=af i (bG bY d) by rw[qy])⟩,trivial⟩,⟨OL.new _ bY _,trivial⟩,.tup [(OL.mk d false m (by rw[aN] at q;exact q)).t 4,.c (.val (.bool true))],λi=> ?_,g _ true (λ_=>⟨⟨om,om,x⟩,rfl,rfl⟩) (λh=>by cases h)⟩⟩⟩;simp only[OL.t,SV.den,aI,dj,T1.den,C.den,C.cells,aN,CO]
noncomputable def a7o:FuncId->Option Func:=lk [(50, f50)]
def W1: ∀f fn,a7o f=some fn->iM prog f fn:=nV λx d=>by simp only[br,cd,or_false] at d;subst d;exact⟨func50,kr,kr⟩
def jF (k:Nat) (o:List Bool) (z:ZV):List Bool:=o.set k (o.getD k false&&o.getD z.x.toNat false)
def Cv (CL:List CU) (L:List GU) (k:Nat) (o:List Bool):List Bool:=match L[k]?with|some g=>(jN CL g.il).foldl (jF k) o|none=>o
def ik (CL:List CU) (L:List GU) (CT:List Bool) (m:Nat):Nat->List Bool
 |0=>CT.set m false
 |i+1=>Cv CL L (m+1+i) (ik CL L CT m i)
def xI (CL:List CU) (L:List GU) (CT:List Bool) (m:Nat):List Bool:=ik CL L CT m (ln CT-(m+1))
def vY k: ∀(l:List ZV) o,(l.foldl (jF k) o).length=ln o
 |[],_=>rfl
 |z::l,o=>by rw[PE,vY k l];unfold jF;rw[aZ]
def oR CL L CT m: ∀i,(ik CL L CT m i).length=ln CT
 |0=>aZ
 |i+1=>by rw[ik,Cv];split;rw[vY,oR CL L CT m i];exact oR CL L CT m i
def Jw k {l q} (d:q<ln l) o:(l.take (q+1)).foldl (jF k) o=jF k ((l.take q).foldl (jF k) o) l[q]:=by rw[eG,ae d,eL,CQ];rfl
def O9 {k:Nat} {o:List Bool} {z:ZV} {m:Nat} (hk:k<ln o) (d:z.x=m) (hm:m<ln o):jF k o z=o.set k (o[k]&&o[m]):=by unfold jF;rw[d,bW,ao,ao,ae hk,ae hm];rfl
def Ag {CL L CT m i} (h:m+1+i<ln L):ik CL L CT m (i+1)=(jN CL L[m+1+i].il).foldl (jF (m+1+i)) (ik CL L CT m i):=by rw[ik,Cv,ae h]
def Lk:cP:=λf h K=> ∃j e z q k L u i y d p r fam m B A n s,f=[.agg [.sli j 0 0 (ln e) z q,.sli k 1 0 (ln L) u i],.c (.sli y 2 0 (ln d) p r),.c (.int n s)]/\h=[⟨.t m,true,eM e,0⟩,⟨.t B,true,eO L,0⟩,⟨.t A,true,kp d,0⟩,⟨.x fam,true,[],3⟩]/\(∀g∈L,g.Ok fam)/\ln d<=1099511627776/\
 ∀o:OL Bool,((0<=n/\n<(ln d:Nat)/\iZ e L d)->o.l=xI e L d n.toNat)->(¬(0<=n/\n<(ln d:Nat)/\iZ e L d)->o.l=[])->K (o.sl 4) [o.blk bY 4]
def TP {nl} {len cap k:Nat} (h:bZ nl len cap) (hk:k<=len):IR ((k:Nat):Int):=aR h hk
def FW {a b d hb} (e:a=b) ρ:af ρ [C.int a d]=af ρ [C.int b hb]:=by subst e;rfl
def RI:pd prog 30 Lk:=iA (nw 0) bj (lP (.cons NX .nil) (ck (nw 0) bj W1 2)) ⟨func30,by kernel_rfl,by kernel_rfl⟩ λargs ros K hc=>by
 obtain⟨n1,CL,c1,h1,n2,L,c2,h2,n3,CT,c3,h3,fam,tc,td,tt,n,hn,rfl,rfl,hL,hCTn,hc⟩:=hc;refine⟨zD,?_⟩
 refine⟨3,[0,1,2],[.agg [.sli n1 0 0 (ln CL) c1 h1,.sli n2 1 0 (ln L) c2 h2],.c (.sli n3 2 0 (ln CT) c3 h3),.c (.int n hn)],(λρ ρ' e=>by
  show cg (SV.den ρ) [.agg [.sli n1 0 0 (ln CL) c1 h1,.sli n2 1 0 (ln L) c2 h2],.c (.sli n3 2 0 (ln CT) c3 h3),.c (.int n hn)]=_
  have e0:=e 0 _ rfl
  have e1:=e 1 _ rfl
  have e2:=e 2 _ rfl
  simp only[cg,SV.den,C.den,C.cells,e0,e1,e2,aL,bF,af]),.inr rfl,⟨bR CL,bT L,cz CT,trivial⟩,n1,CL,c1,h1,n2,L,c2,h2,n3,CT,c3,h3,fam,_,_,_,n,hn,rfl,rfl,hL,hCTn,λo b hb1 hb0=> ?_⟩
 refine zB ?_ ?_<;>intro hz;have hbf:b=false:=by cases b with|true=>cases hz|false=>rfl
 obtain⟨hv,-⟩:=hb0 hbf;exact zO [0,1,2,3,1000+ 4] [0,1,2] (v3:=OL.none.sl 4) (hc OL.none (λh=>absurd h hv) (λ_=>rfl));have hbt:b=true:=by cases b with|true=>rfl|false=>cases hz
 obtain⟨hv,ho,hnl⟩:=hb1 hbt;obtain⟨ol,onl,cap,ok⟩:=o;dsimp only at ho hnl;subst ho;subst hnl;obtain⟨m,hm⟩: ∃m:Nat,n=m:=⟨n.toNat,(nr hv.1).symm⟩;subst hm;obtain⟨⟨hi,hmk⟩,hn2,-⟩:=id hv.2.2;have hml:m<ln ol:=by omega
 refine p6 ?_;conv=>arg 2;tactic'=>exact bM (l:=[.val (.bool false)]) (cs:=bG bY (ol.set m false)) rfl rfl rfl rfl (⟨rfl,rfl⟩) rfl rfl (iH bY ol hml false)
 conv=>whnf
 rw[bV];conv=>whnf
 refine zK [0,1,2,3,4,5,6,7] [2,3,7,9] [0,1,2,5] (G:={i:Nat//m+1+i<=ln ol}) (λ_=>[]) (λg=>[(5,⟨4,false,bG bY (ik CL L ol m g.1),(cap-ln ol)*1⟩),(7,⟨3,false,[.int (m+1+g.1:Nat) (TP ok g.2)],0⟩)]) (λg=>ln ol-g.1) ⟨0,by omega⟩ trivial ?_ (hent:=λ_ vs6=>⟨bR CL,bT L,cz ol,ab bY _,gm _,(by(iterate 7 refine⟨mL _,?_⟩);refine⟨⟨rfl,rfl,rfl,λρ=>FW (dr (n:=ln ol) hml ok.ir) ρ⟩,?_⟩;exact trivial)⟩);rintro ⟨i,hik⟩ vs6;have hik:m+1+i<=ln ol:=hik;obtain⟨l,hl⟩: ∃l,l=ik CL L ol m i:=⟨_,rfl⟩;have hll:ln l=ln ol:=by rw[hl];exact oR CL L ol m i
 dsimp only;rw[<-hl];refine zB ?_ ?_<;>intro hlt;have hlt:m+1+i<ln ol:=dL hlt;have hki:IR ((m+1+i:Nat):Int):=TP ok hik;have hkl:m+1+i<ln L:=by rw[<-hn2];exact hlt
 obtain⟨hgi,-,hgr,-⟩:=hL L[m+1+i] (ak hkl);conv=>whnf
 refine .inr ⟨rfl,8,9,4,1,0,3,_,_,_,_,_,_,_,_,_,_,_,_,_,_,_,_,m+1+i,hki,n1,CL,c1,h1,n2,L,c2,h2,fam,L[m+1+i].il,hkl,rfl,rfl,rfl,rfl,rfl,rfl,rfl,.inr rfl,⟨hgi,hgr,λz hz=> ?_⟩,?_⟩;obtain⟨i,e1,e2⟩:=JE hi hkl hz;omega;obtain⟨ML,hML⟩: ∃ML,ML=jN CL L[m+1+i].il:=⟨_,rfl⟩;rw[tO,<-hML];refine⟨ci rfl rfl (λ_=>rfl) (ci rfl rfl (λ_=>rfl) (ci rfl rfl (λ_=>rfl) (ci rfl rfl (λ_=>rfl) (ci rfl rfl (λ_=>rfl) (mO rfl rfl ⟨[],(bk _).symm⟩ trivial))))),?_⟩;refine pN (G:=Unit) (λ_ _=>True) (λq _=>[⟨.t tc,true,eM CL,0⟩,⟨.t td,true,eO L,0⟩,⟨.t tt,true,kp ol,0⟩,⟨.x fam,true,[],3⟩,⟨30,false,[.sli n1 0 0 (ln CL) c1 h1,.sli n2 1 0 (ln L) c2 h2],0⟩,⟨4,false,bG bY ((ML.take q).foldl (jF (m+1+i)) l),(cap-ln ol)*1⟩,⟨39,false,[.sli false 5 0 (ln ol) cap ok],0⟩,⟨3,false,[.int (m+1+i:Nat) hki],0⟩,⟨80,false,[.ptr 4 0],0⟩,⟨3,false,[.int (m+1+i:Nat) hki],0⟩]) ?_ ?_ () trivial;rintro q hq _ _ R hR;have hql:q<ln ML:=by rw[bO] at hq;exact hq
 rw[go];obtain⟨yy,hy,cc,hc1,hc2,hc3⟩:=(jA CL).1 (show ML[q]∈jN CL L[m+1+i].il by rw[<-hML];exact ak hql);obtain⟨zz,hzz⟩: ∃zz,zz=ML[q]:=⟨_,rfl⟩;rw[<-hzz] at hc3⊢;have hmd:=(pG hi (F5 hc1)).1;obtain⟨u,hu1⟩: ∃u:Nat,zz.x=u:=⟨zz.x.toNat,by rw[hc3];simp only;omega⟩;have hu2:u<ln ol:=by rw[hc3] at hu1;simp only at hu1;omega
 have hui:IR (u:Int):=by rw[<-hu1];exact zz.hx
 have hR2: ∀hp,hp=[⟨.t tc,true,eM CL,0⟩,⟨.t td,true,eO L,0⟩,⟨.t tt,true,kp ol,0⟩,⟨.x fam,true,[],3⟩,⟨30,false,[.sli n1 0 0 (ln CL) c1 h1,.sli n2 1 0 (ln L) c2 h2],0⟩,⟨4,false,bG bY ((ML.take (q+1)).foldl (jF (m+1+i)) l),(cap-ln ol)*1⟩,⟨39,false,[.sli false 5 0 (ln ol) cap ok],0⟩,⟨3,false,[.int (m+1+i:Nat) hki],0⟩,⟨80,false,[.ptr 4 0],0⟩,⟨3,false,[.int (m+1+i:Nat) hki],0⟩]->R hp:=λhp e=>by rw[e];exact hR () trivial
 rw[Jw (m+1+i) hql] at hR2;obtain⟨lq,hlq⟩: ∃lq,lq=(ML.take q).foldl (jF (m+1+i)) l:=⟨_,rfl⟩;have hlql:ln lq=ln ol:=by rw[hlq,vY];exact hll
 rw[<-hlq] at hR2⊢;rw[<-hzz,O9 (m:=u) (by omega) hu1 (by omega)] at hR2;conv=>whnf
 conv=>arg 2;tactic'=>exact be (k:=m+1+i) (hi:=hki) rfl rfl rfl rfl (by exact(by omega))
 conv=>whnf
 conv=>arg 2;tactic'=>exact ap rfl rfl rfl rfl (by exact sf bY lq (k:=m+1+i) (by omega)) rfl
 refine zB ?_ ?_<;>intro ha;have ha:lq[m+1+i]'(by omega)=true:=ha;conv=>whnf
 conv=>arg 2;tactic'=>exact be (k:=u) (hi:=hui) rfl rfl rfl (eA hu1) (by exact(by omega))
 conv=>whnf
 conv=>arg 2;tactic'=>exact ap rfl rfl rfl rfl (by exact sf bY lq (k:=u) (by omega)) rfl
 conv=>whnf
 conv=>arg 2;tactic'=>exact be (k:=m+1+i) (hi:=hki) rfl rfl rfl rfl (by exact(by omega))
 conv=>whnf
 conv=>arg 2;tactic'=>exact bM (l:=[.val (.bool (lq[u]'(by omega)))]) (cs:=bG bY (lq.set (m+1+i) (lq[u]'(by omega)))) rfl rfl rfl rfl (⟨rfl,rfl⟩) rfl rfl (by exact iH bY lq (k:=m+1+i) (by omega) (lq[u]'(by omega)))
 conv=>whnf
 rw[bV];refine iT ?_;exact⟨(ci rfl rfl (λ_=>rfl) (ci rfl rfl (λ_=>rfl) (ci rfl rfl (λ_=>rfl) (ci rfl rfl (λ_=>rfl) (ci rfl rfl (λ_=>rfl) (mO rfl rfl ⟨[],(bk _).symm⟩ trivial)))))),hR2 _ (by rw[ha];rfl)⟩;have ha:lq[m+1+i]'(by omega)=false:=ha;conv=>whnf
 conv=>arg 2;tactic'=>exact be (k:=m+1+i) (hi:=hki) rfl rfl rfl rfl (by exact(by omega))
 conv=>whnf
 conv=>arg 2;tactic'=>exact bM (l:=[.val (.bool false)]) (cs:=bG bY (lq.set (m+1+i) false)) rfl rfl rfl rfl (⟨rfl,rfl⟩) rfl rfl (by exact iH bY lq (k:=m+1+i) (by omega) false)
 conv=>whnf
 rw[bV];refine iT ?_;exact⟨(ci rfl rfl (λ_=>rfl) (ci rfl rfl (λ_=>rfl) (ci rfl rfl (λ_=>rfl) (ci rfl rfl (λ_=>rfl) (ci rfl rfl (λ_=>rfl) (mO rfl rfl ⟨[],(bk _).symm⟩ trivial)))))),hR2 _ (by rw[ha];rfl)⟩;rintro _ _;rw[bO,bP];exact dD [0,1,2,3,4,5,6,10] ⟨i+1,by omega⟩ (h:=λvs7=>⟨bR CL,bT L,cz ol,ab bY _,gm _,(by(iterate 5 refine⟨mL _,?_⟩);refine⟨⟨rfl,rfl,rfl,λρ=>(show af ρ (bG bY (ML.foldl (jF (m+1+i)) l))=af ρ (bG bY (ik CL L ol m (i+1))) by rw[Ag hkl,<-hML,hl])⟩,?_⟩;refine⟨mL _,?_⟩;refine⟨⟨rfl,rfl,rfl,λρ=>FW (dr (n:=ln ol) hlt ok.ir) ρ⟩,?_⟩;exact trivial)⟩);have hge:ln ol<=m+1+i:=gi hlt;refine⟨[0,1,2,3,5],[0,1,2,4],λvs9=>⟨bR CL,bT L,cz ol,ab bY _,_,[(OL.mk l false cap (by rw[hll];exact ok)).blk bY 4],rfl,⟨mL _,mL _,mL _,mL _,⟨rfl,rfl,(show(cap-ln ol)*1=(cap-ln l)*1 by rw[hll]),λ_=>rfl⟩,trivial⟩,⟨OL.new _ bY _,trivial⟩,(OL.mk l false cap (by rw[hll];exact ok)).sl 4,λρ=> ?_,hc _ (λ_=> ?_) (λh=>absurd hv h)⟩⟩;simp only[OL.sl,SV.den,C.den,C.cells,hll];show l=xI CL L ol _;rw[hl];unfold xI;rw[bW];congr 1;omega
def pS {P f c} (h:jv P f c) {d} (g: ∀args hf p v,d args hf=some (p,v)->(∀ρ ρ',v.den ρ=v.den ρ')/\
  ((∀q,p=some q->q)-> ∃args' ros bs,c args' ros (λu _=> ∀ρ,u.den ρ=v.den ρ)/\xu ros/\jB ros/\(∀ρ:fF,args.map (SV.den ρ)=args'.map (SV.den (λi=>ρ (ij 0 bs i))))/\
   ∀i b,an ros i=some b-> ∃blk,hf (ij 0 bs i)=some blk/\blk.cs=b.cs/\cC b.cs)):CY P f d:=
 ⟨h.1,λargs hf p v e=>⟨(g args hf p v e).1,λA ρ w D=>by
  obtain⟨args',ros,bs,x,j,z,y,k⟩:=(g args hf p v e).2 A
  rw[y ρ]
  refine(h.2 args' ros _ x j z (λi=>ρ (ij 0 bs i)) w ?_).mono ?_
  intro i b B
  obtain⟨blk,m,o,s⟩:=k i b B
  have:=(D _ _ m).1
  rw[o] at this
  have r:af (λi=>ρ (ij 0 bs i)) b.cs=af ρ b.cs:=s _ _
  rw[r]
  exact this
  rintro E F ⟨u,news,σ,hu,_,hh,_,he⟩
  exact⟨by rw[he σ (gt.refl _ _),hu σ,(g args hf p v e).1 σ ρ],hh.bel.below⟩⟩⟩
def p7 (E:ic) (l:List (FuncId×Dr)):ic:={E with D:=λf d e=>match E.D f d e with|some x=>some x|none=>ZN l f d e}
def jM {E} (g:iU prog E) {l} (hl:nN l):iU prog (p7 E l):=⟨g.T,λf e k p v h=>by unfold p7 at h;simp only at h;split at h;rename_i x o;cases h;exact g.D f e k p v o;obtain⟨d,j,m⟩:=S0 hl h;exact⟨j.1,λq i _=>(j.2 e k p v m).1 q i,(j.2 e k p v m).2⟩,g.O,g.R,g.X⟩
section
variable {p:PT} {k off:Nat} {cs:List C} {A:List PT}
def ZC (un:Nat):ic:={vA un IA with O:=lR qo}
def yY un:iU prog (ZC un):=⟨(cm mM un).T,(cm mM un).D,gy eD,(cm mM un).R,λ_ _ _ _ h=>(show False from h).elim⟩
def AY (l:List PT) (p:PT):Bool:=l.any (λq=>eN q p)
def Qa {l q} :AY (l++[q]) p=(AY l p||eN q p):=by unfold AY;simp
def Qb {l} (hk:k<ln l) (h:AY (l.take k) p=false) (e:eN l[k] p=false):AY (l.take (k+1)) p=false:=by rw[<-List.take_append_getElem hk,Qa,h,e];rfl
def Vx {l} (hk:k<ln l) (e:eN l[k] p=true):AY l p=true:=nP.2 ⟨_,ak hk,e⟩
def a0O:cP:=λd e K=> ∃f off A c h t cs p,d=[.c (.sli f 0 off (ln A) c h),.agg (pC p)]/\e=[⟨.t t,true,cs,0⟩]/\(cC cs/\mj fp cs off A)/\K (.c (.val (.bool (AY A p)))) []
def V8:jv prog 173 a0O:=cV (yY 0) bj (ck (yY 0) bj bg 0) ⟨func173,kr,kr⟩ λs x K m=>by
 obtain⟨B,off,A,c,h,t,cs,p,rfl,rfl,⟨u,z⟩,m⟩:=m;refine⟨zD,?_⟩;conv=>whnf
 refine zK [0,1] [0,3,5] [0] (G:={k:Nat//k<=ln A/\AY (A.take k) p=false}) (λg=>[(5,.c (.int (g.1:Nat) (aR h g.2.1)))]) (λ_=>[]) (λg=>ln A-g.1) ⟨0,ah _,rfl⟩ trivial ?_;rintro ⟨k,j,i⟩ vs2;have j:k<=ln A:=j;have i:AY (A.take k) p=false:=i;dsimp only;refine zB ?_ ?_<;>intro f;have d:k<ln A:=dL f;refine eS ?_;refine zB ?_ ?_<;>intro e;have e:eN A[k] p=true:=e;exact⟨[0],[0],λq=>⟨u,_,[],rfl,⟨⟨rfl,rfl,rfl,fr⟩,trivial⟩,trivial,.c (.val (.bool (AY A p))),λr=>ss (Vx d e).symm r,m⟩⟩;have e:eN A[k] p=false:=e;exact dD [0,1] ⟨k+1,d,Qb d i e⟩;have o:ln A<=k:=gi f;obtain rfl:k=ln A:=bo j o;rw[bP] at i;exact⟨[0],[0],λq=>⟨u,_,[],rfl,⟨⟨rfl,rfl,rfl,fr⟩,trivial⟩,trivial,.c (.val (.bool (AY A p))),λr=>ss i.symm r,m⟩⟩
def XX {q} (h:mK p=mK q):p=q:=by cases p;cases q;simp only[mK,List.cons.injEq,C.int.injEq,and_true] at h;obtain⟨rfl,rfl,rfl⟩:=h;rfl
def mj.uniq {B} (h:mj fp cs off A) (k:mj fp cs off B) (e:ln A=ln B):A=B:=by refine jg e λi f d=> ?_;have:=(h.get f).symm.trans (k.get d);exact XX (bL.inj this)
noncomputable def amB (cs:List C) (off n:Nat) (p:PT):Bool:= @decide (∃A:List PT,ln A=n/\mj fp cs off A/\AY A p=true) (Classical.propDecidable _)
def P9 (h:mj fp cs off A) p:amB cs off (ln A) p=AY A p:=by
 unfold amB
 cases e:AY A p with
 |true=>exact @decide_eq_true _ (Classical.propDecidable _) ⟨A,rfl,h,e⟩
 |false=>exact @decide_eq_false _ (Classical.propDecidable _) λ⟨B,g,f,d⟩=>by rw[f.uniq h g,e] at d;cases d
attribute [irreducible] amB
noncomputable def yL:Dr
 |[.c (.sli _ b off n _ _),.agg [.int x hx,.int y hy,.int z hz]],hf=>(match hf b with
  |some ⟨.t _,_,cs,_⟩=>some (some (cC cs/\ ∃A:List PT,ln A=n/\mj fp cs off A),.c (.val (.bool (amB cs off n ⟨x,y,z,hx,hy,hz⟩))))
  |_=>none)
 |_,_=>none
def E0:CY prog 173 yL:=pS V8 λm G p v e=>by
 unfold yL at e;split at e;rename_i r b off n c h x o y j z q;split at e;rename_i t E cs F u;cases e;refine⟨ff,λs=> ?_⟩;obtain⟨d,A,rfl,g⟩:=s _ rfl;refine⟨[.c (.sli r 0 off (ln A) c h),.agg (pC ⟨x,y,z,o,j,q⟩)],[⟨.t t,true,cs,0⟩],[b],⟨r,off,A,c,h,t,cs,⟨x,y,z,o,j,q⟩,rfl,rfl,⟨d,g⟩,λB=> ?_⟩,⟨⟨rfl,rfl⟩,trivial⟩,⟨d,trivial⟩,λB=>rfl,λi D f=> ?_⟩;rw[P9 g]
 match i,f with
 |0,f=>cases f;exact⟨_,u,rfl,d⟩
 |i+1,f=>cases f
 cases e;cases e
noncomputable def a2N:List (FuncId×Dr):=[(173,yL)]
def My:nN a2N:= .cons E0 .nil
noncomputable def a4l (un:Nat):ic:=p7 (ZC un) a2N
def ov un:iU prog (a4l un):=jM (yY un) My
def Il (A:List TR) (p q:PT):Prop:=eN q p=false/\ ∃s∈A,Bf p s=true/\Bf q s=true
def Dj:cP:=λd e K=> ∃f off A c h t cs p,d=[.c (.sli f 0 off (ln A) c h),.agg (pC p)]/\e=[⟨.t t,true,cs,0⟩]/\(cC cs/\mj bU cs off A)/\ln A<=100000/\
 ∀o:OL PT,ln o.l<=3*ln A->(∀q∈o.l,Il A p q)->K (o.sl 1) [o.blk fp 33]
def mj.cor {A} (h:mj bU cs off A) (hk:k<ln A) o {r} (e:dk (qd A[k]) o 3=some r):dk cs (off+k*9+o) 3=some r:=AB (h.get hk) e
def SQ {j:Nat} (h:j<=3):IR j:=by unfold IR;omega
def a4P t:Bf t.a t=true:=by unfold Bf;rw[(jV _ _).2 rfl];rfl
def a4Q t:Bf t.b t=true:=by unfold Bf;rw[(jV t.b t.b).2 rfl];simp
def a4R t:Bf t.c t=true:=by unfold Bf;rw[(jV t.c t.c).2 rfl];simp
def Ti {a b} (h:(!eN a b)=true):eN a b=false:=by simpa using h
def Dt:jv prog 174 Dj:=cV (ov 0) bj (ck (ov 0) bj bg 0) ⟨func174,kr,kr⟩ λL O K J=>by
 obtain⟨T,off,A,c,h,t,cs,p,rfl,rfl,⟨R,Q⟩,M,J⟩:=J;refine⟨zD,?_⟩;conv=>whnf
 refine zK [0,1,1000+ 33] [0,3,5,6] [0,2] (G:={q:Nat×OL PT//q.1<=ln A/\ln q.2.l<=3*q.1/\ ∀x∈q.2.l,Il A p x}) (λg=>[(5,g.1.2.sl 2),(6,.c (.int (g.1.1:Nat) (aR h g.2.1)))]) (λg=>[(2,g.1.2.blk fp 33)]) (λg=>ln A-g.1.1) ⟨(0,OL.none),ah _,ah _,(λt h=>by cases h)⟩ trivial ?_;rintro ⟨⟨k,o⟩,E,H,F⟩ vs2;have E:k<=ln A:=E;have H:ln o.l<=3*k:=H;have F: ∀x∈o.l,Il A p x:=F;dsimp only;refine zB ?_ ?_<;>intro z;have f:k<ln A:=dL z;refine eS ?_;refine zK [0,1,2] [0,3,5,6,7,8] [0,2] (G:={q:Nat×OL PT//q.1<=3/\ln q.2.l<=3*k+q.1/\ ∀x∈q.2.l,Il A p x}) (λg=>[(5,g.1.2.sl 2),(8,.c (.int (g.1.1:Nat) (SQ g.2.1)))]) (λg=>[(2,g.1.2.blk fp 33)]) (λg=>3-g.1.1) ⟨(0,o),ah _,H,F⟩ trivial ?_;rintro ⟨⟨j,o2⟩,N,u,d⟩ vs4;have N:j<=3:=N;have u:ln o2.l<=3*k+j:=u;have d: ∀x∈o2.l,Il A p x:=d;dsimp only;have r:j=3\/j=0\/j=1\/j=2:=om;rcases r with rfl|rfl|rfl|rfl;exact dD [0,1,2] ⟨(k+1,o2),f,(by show (ln o2.l)<=3*(k+1);omega),d⟩;refine zB ?_ ?_<;>intro e;have e:Bf p A[k]=true:=e;refine eS ?_;refine zB ?_ ?_<;>intro i;have i:eN A[k].a p=false:=Ti i;refine eS ?_;refine⟨⟨ab fp _,o2.l,rfl,mj.self fp o2.l⟩,?_⟩;refine zB ?_ ?_<;>intro y;have hnew:Il A p A[k].a:=⟨i,_,ak f,e,a4P _⟩;refine eS ?_;exact .inl ⟨rfl,o2.app fp 33 (m:=1) (by show(ln o2.l+1)*3<=17592186044416;omega),λB D=> dD [0,1,4] ⟨(1,o2.push [A[k].a] rfl B D),om,(by show(o2.l++[A[k].a]).length<=3*k+1;rw[aa];show (ln o2.l)+1<=_;omega),(λt s=>dH (p:=Il A p) d hnew s)⟩⟩
 iterate 2
  exact dD [0,1,2] ⟨(1,o2),om,(by show (ln o2.l)<=3*k+1;omega),d⟩
 exact dD [0,1,2] ⟨(k+1,o2),f,(by show (ln o2.l)<=3*(k+1);omega),d⟩;refine zB ?_ ?_<;>intro e;have e:Bf p A[k]=true:=e;refine eS ?_;refine zB ?_ ?_<;>intro i;have i:eN A[k].b p=false:=Ti i;refine eS ?_;refine⟨⟨ab fp _,o2.l,rfl,mj.self fp o2.l⟩,?_⟩;refine zB ?_ ?_<;>intro y;have hnew:Il A p A[k].b:=⟨i,_,ak f,e,a4Q _⟩;refine eS ?_;exact .inl ⟨rfl,o2.app fp 33 (m:=1) (by show(ln o2.l+1)*3<=17592186044416;omega),λB D=> dD [0,1,4] ⟨(2,o2.push [A[k].b] rfl B D),om,(by show(o2.l++[A[k].b]).length<=3*k+2;rw[aa];show (ln o2.l)+1<=_;omega),(λt s=>dH (p:=Il A p) d hnew s)⟩⟩
 iterate 2
  exact dD [0,1,2] ⟨(2,o2),om,(by show (ln o2.l)<=3*k+2;omega),d⟩
 exact dD [0,1,2] ⟨(k+1,o2),f,(by show (ln o2.l)<=3*(k+1);omega),d⟩;refine zB ?_ ?_<;>intro e;have e:Bf p A[k]=true:=e;refine eS ?_;refine zB ?_ ?_<;>intro i;have i:eN A[k].c p=false:=Ti i;refine eS ?_;refine⟨⟨ab fp _,o2.l,rfl,mj.self fp o2.l⟩,?_⟩;refine zB ?_ ?_<;>intro y;have hnew:Il A p A[k].c:=⟨i,_,ak f,e,a4R _⟩;refine eS ?_;exact .inl ⟨rfl,o2.app fp 33 (m:=1) (by show(ln o2.l+1)*3<=17592186044416;omega),λB D=> dD [0,1,4] ⟨(3,o2.push [A[k].c] rfl B D),om,(by show(o2.l++[A[k].c]).length<=3*k+3;rw[aa];show (ln o2.l)+1<=_;omega),(λt s=>dH (p:=Il A p) d hnew s)⟩⟩
 iterate 2
  exact dD [0,1,2] ⟨(3,o2),om,(by show (ln o2.l)<=3*k+3;omega),d⟩
 exact dD [0,1,2] ⟨(k+1,o2),f,(by show (ln o2.l)<=3*(k+1);omega),d⟩;have I:ln A<=k:=gi z;obtain rfl:k=ln A:=bo E I;exact zO [0,2] [0,1] (J o H F)
end
def K9:cP:=λd e K=> ∃f A c h t,d=[.c (.sli f 0 0 (ln A) c h)]/\e=[⟨.t t,true,bG bU A,0⟩]/\ln A<=100000/\
 ∀o:OL PT,ln o.l<=6*ln A->K (o.sl 1) [o.blk fp 33]
def QP (n:Nat):cP:=λd e K=> ∃f A c h t,d=[.c (.sli f 0 0 (ln A) c h)]/\e=[⟨.t t,true,bG bU A,0⟩]/\ln A<=n/\ ∀b:Bool,K (.c (.val (.bool b))) []
def boC:List (FuncId×cP):=[(126,xQ)]
def a0L:iL prog boC:= .cons yI .nil
def MX l {k} (hk:k<ln l) o {r} (e:dk (Oh l[k]) o 3=some r):dk (gK l) (0+k*6+o) 3=some r:=AB (AA l hk) e
def a7u {j:Nat} (h:j<=2):IR j:=by unfold IR;omega
def IU:jv prog 147 K9:=cV (ov 0) bj (dX a0L (ck (ov 0) bj bg 0)) ⟨func147,kr,kr⟩ λD H K y=>by
 obtain⟨L,A,c,h,t,rfl,rfl,F,y⟩:=y;have J:cC (bG bU A):=ab bU A;refine⟨zD,?_⟩;refine⟨⟨J,trivial⟩,L,ln A,c,h,_,A,rfl,(congrArg (λx=>[(⟨.t t,true,x,0⟩:aY)]) (lH A).symm),rfl,om,λe M=> ?_⟩;conv=>whnf
 refine zK [0,1,1000+ 33] [0,3,4,5] [0,1,2] (G:={q:Nat×OL PT//q.1<=ln e.l/\ln q.2.l<=2*q.1}) (λg=>[(3,g.1.2.sl 2),(5,.c (.int (g.1.1:Nat) (aR e.ok g.2.1)))]) (λg=>[(2,g.1.2.blk fp 33)]) (λg=>ln e.l-g.1.1) ⟨(0,OL.none),ah _,ah _⟩ trivial ?_;rintro ⟨⟨k,o⟩,p,u⟩ vs2;have p:k<=ln e.l:=p;have u:ln o.l<=2*k:=u;dsimp only;refine zB ?_ ?_<;>intro s;have r:k<ln e.l:=dL s;conv=>whnf
 refine zK [0,1,2] [0,3,4,5,6] [0,1,2] (G:={q:Nat×OL PT//q.1<=2/\ln q.2.l<=2*k+q.1}) (λg=>[(3,g.1.2.sl 2),(6,.c (.int (g.1.1:Nat) (a7u g.2.1)))]) (λg=>[(2,g.1.2.blk fp 33)]) (λg=>2-g.1.1) ⟨(0,o),ah _,u⟩ trivial ?_;rintro ⟨⟨j,o2⟩,E,f⟩ vs4;have E:j<=2:=E;have f:ln o2.l<=2*k+j:=f;dsimp only;have d:j=2\/j=0\/j=1:=om;rcases d with rfl|rfl|rfl;exact dD [0,1,2] ⟨(k+1,o2),r,(by show (ln o2.l)<=2*(k+1);omega)⟩;refine eS ?_;refine⟨⟨ab fp _,o2.l,rfl,mj.self fp o2.l⟩,?_⟩;refine zB ?_ ?_<;>intro i;refine eS ?_;exact .inl ⟨rfl,o2.app fp 33 (m:=1) (by show(ln o2.l+1)*3<=17592186044416;omega),λz B=> dD [0,1,4] ⟨(1,o2.push [e.l[k].a] rfl z B),om,(by show(o2.l++[e.l[k].a]).length<=2*k+1;rw[aa];show (ln o2.l)+1<=_;omega)⟩⟩;exact dD [0,1,2] ⟨(1,o2),om,(by show (ln o2.l)<=2*k+1;omega)⟩;refine eS ?_;refine⟨⟨ab fp _,o2.l,rfl,mj.self fp o2.l⟩,?_⟩;refine zB ?_ ?_<;>intro i;refine eS ?_;exact .inl ⟨rfl,o2.app fp 33 (m:=1) (by show(ln o2.l+1)*3<=17592186044416;omega),λz B=> dD [0,1,4] ⟨(2,o2.push [e.l[k].b] rfl z B),om,(by show(o2.l++[e.l[k].b]).length<=2*k+2;rw[aa];show (ln o2.l)+1<=_;omega)⟩⟩;exact dD [0,1,2] ⟨(2,o2),om,(by show (ln o2.l)<=2*k+2;omega)⟩;exact zO [0,2] [0,1] (y o om)
def Wy:jv prog 177 (QP 100000):=cV (ou 0) bj (ck (ou 0) bj bg 0) ⟨func177,kr,kr⟩ λq s K i=>by
 obtain⟨F,A,c,h,t,rfl,rfl,-,i⟩:=i;refine⟨zD,?_⟩;conv=>whnf
 refine zK [0] [0,3] [0] (G:={k:Nat//k<=ln A}) (λg=>[(3,.c (.int (g.1:Nat) (aR h g.2)))]) (λ_=>[]) (λg=>ln A-g.1) ⟨0,ah _⟩ trivial ?_;rintro ⟨k,f⟩ vs2;have f:k<=ln A:=f;dsimp only;refine zB ?_ ?_<;>intro p;have e:k<ln A:=dL p;conv=>whnf
 refine zK [0] [0,3,4] [0] (G:={j:Nat//j<=k}) (λg=>[(4,.c (.int (g.1:Nat) (aR h (aC g.2 f))))]) (λ_=>[]) (λg=>k-g.1) ⟨0,ah _⟩ trivial ?_;rintro ⟨j,r⟩ vs4;have r:j<=k:=r;dsimp only;refine zB ?_ ?_<;>intro o;have d:j<k:=dL o;have m:j<ln A:=Nat.lt_trans d e;refine wM ?_;refine zB ?_ ?_<;>intro y;refine wM ?_;refine zB ?_ ?_<;>intro z;refine wM ?_;refine zB ?_ ?_<;>intro D;exact zO [0] [0] (i _);exact dD [0] ⟨j+1,d⟩;exact dD [0] ⟨j+1,d⟩;exact dD [0] ⟨j+1,d⟩;exact dD [0] ⟨k+1,e⟩;exact zO [0] [0] (i _)
def QQ (n:Nat):cP:=λd e K=> ∃f A c h t u v,d=[.c (.sli f 0 0 (ln A) c h),.agg (pC u),.agg (pC v)]/\e=[⟨.t t,true,bG bU A,0⟩]/\ln A<=n/\ ∀b:Bool,K (.c (.val (.bool b))) []
def joC:List (FuncId×cP):=[(147,K9),(174,Dj)]
def a2h:iL prog joC:= .cons IU<| .cons Dt .nil
def QO:cP:=λd e K=> ∃s t:TR,d=[.agg (qd s),.agg (qd t)]/\e=[]/\ ∀b:Bool,K (.c (.val (.bool b))) []
def Wj:jv prog 178 (QQ 100000):=cV (ov 0) bj (dX a2h (ck (ov 0) bj bg 0)) ⟨func178,kr,kr⟩ λs y K j=>by
 obtain⟨q,A,c,h,t,u,v,rfl,rfl,d,j⟩:=j;have i:cC (bG bU A):=ab bU A;have r:mj bU (bG bU A) 0 A:=mj.self bU A;refine⟨zD,?_⟩;refine⟨⟨i,trivial⟩,q,A,c,h,_,rfl,rfl,d,λm H=>⟨⟨ab fp _,m.l,rfl,mj.self fp m.l⟩,?_⟩⟩;refine zB ?_ ?_<;>intro E;exact zO [0] [0] (j _);refine⟨ff,⟨i,trivial⟩,q,0,A,c,h,_,_,u,rfl,rfl,⟨i,r⟩,d,λf I M=>⟨ff,⟨i,trivial⟩,q,0,A,c,h,_,_,v,rfl,rfl,⟨i,r⟩,d,λx L D=> ?_⟩⟩;conv=>whnf
 refine zK [0,1,2,3,4,5] [0,5,7,8,9,10] [0,3,4,5] (G:={k:Nat//k<=ln f.l}) (λg=>[(10,.c (.int (g.1:Nat) (aR f.ok g.2)))]) (λ_=>[]) (λg=>ln f.l-g.1) ⟨0,ah _⟩ trivial ?_;rintro ⟨k,o⟩ vs2;have o:k<=ln f.l:=o;dsimp only;refine zB ?_ ?_<;>intro p;have e:k<ln f.l:=dL p;refine eS ?_;refine zB ?_ ?_<;>intro B;refine eS ?_;refine⟨⟨ab fp _,m.l,rfl,mj.self fp m.l⟩,?_⟩;refine zB ?_ ?_<;>intro F;refine eS ?_;refine⟨⟨ab fp _,x.l,rfl,mj.self fp x.l⟩,?_⟩;refine zB ?_ ?_<;>intro J;exact zO [0] [0] (j _);exact dD [0,1,2,3,4,5] ⟨k+1,e⟩;exact dD [0,1,2,3,4,5] ⟨k+1,e⟩;exact dD [0,1,2,3,4,5] ⟨k+1,e⟩;exact zO [0] [0] (j _)
def V9:jv prog 205 QO:=cV (ou 0) bj (ck (ou 0) bj bg 0) ⟨func205,kr,kr⟩ λf i K d=>by
 obtain⟨s,t,rfl,rfl,d⟩:=d
 refine⟨λj g e=> ?_,?_⟩
 ·rfl
 conv=>whnf
 repeat(first|(refine⟨[],[],λh=> ?_⟩;(conv=>whnf);exact⟨_,[],rfl,trivial,trivial,.c (.val (.bool _)),fr,d _⟩)|(refine eB (λ_=> ?_) (λ_=> ?_)<;>(conv=>whnf)))
def cG {n} (h:IR n):Sm 64 n:=Sm.int h.1 h.2
def sm0:Sm 0 0:=by unfold Sm;decide
def Qi:List (FuncId×Dn):=base
def FF:dU Qi:=kB
def wC (n:Nat):C:= .val (.int .u64 (n:Int))
def wsC:List Nat->List C
 |[]=>[]
 |n::l=>wC n::wsC l
def AS: ∀l:List Nat,cC (wsC l)
 |[]=>λ_ _=>rfl
 |n::l=>λe d=>by have h:=AS l e d;rw[wsC,aL,aL,h];rfl
structure OW where
 l:List Nat
 r:List Nat
 nl:Bool
 cap:Nat
 ok:bZ nl (ln l) cap
 hr:(l++r).length<=cap
def OW.blk (o:OW):aY:=⟨110,o.nl,wsC (o.l++o.r),o.cap-(o.l++o.r).length⟩
def OW.new (o:OW):CW o.blk:=by
 refine⟨AS _,?_⟩
 cases h:o.nl with
 |false=>exact .inl h
 |true=>right;have f:=o.ok.1;have e:=o.ok.2.2 h;have d:=o.hr;have:o.l++o.r=[]:=aU om;unfold OW.blk aY.void;rw[h,this];rfl

section
variable {k:Nat}
def Ba (m n:Nat):Int:=if m<n then-1 else if n<m then 1 else 0
def VY m n:IR (Ba m n):=by unfold Ba;split;decide;split<;>decide
def a4I (h:decide ((0:Int)<=(k:Int)-1)=true):0<k:=by have:=of_decide_eq_true h;omega
def a4J (h:decide ((0:Int)<=(k:Int)-1)=false):k=0:=by have:=of_decide_eq_false h;omega
def irp {nl n cap} (h:bZ nl n cap) (hk:k<=n):IR ((k:Int)-1):=by have:=h.ir;unfold IR at*;omega
def Lq (h:0<k) (hi:IR k):IntKind.i64.wrap ((k:Int)-1-1)=((k-1:Nat):Int)-1:=by rw[cN (by unfold IR at*;omega)];omega
def TG (h:0<k):((k:Int)-1)=((k-1:Nat):Int):=om
end
section
variable {x i:Nat} {la lb lo:List Nat}
def AQ {a b n:Nat} (h:a+b<=n) (d:n<=1000000000):IntKind.i64.wrap ((a:Int)+(b:Int))=((a+b:Nat):Int):=by rw[cN ui];omega
def SR {n:Nat} (d:n<=1000000000):IR (n:Int):=ui
end
section
variable {la lo:List Nat} {k:Nat}
def a5d (h:decide ((0:Int)<(k:Int))=true):0<k:=by have:=of_decide_eq_true h;omega
end
section
variable {T:TypeId->Option TI} {ev:Operand->SV} {hp:Nat->Option aY} {x:Operand} {ag:Bool} {z:List C} {eq:Option (List K)} {s:ByteArray}
def Wz {P E} (j:iU P E) (hm:P.follows .mixedOrders=true) {H} (A:ko P H) {f fn} (g:iM P f fn) {c} (h: ∀args ros K,c args ros K-> ∃args':List SV,(∀ρ,args.map (SV.den ρ)=args'.map (SV.den ρ))/\(∀ρ ρ',(∀i,i<ln ros->ρ i=ρ' i)->args'.map (SV.den ρ)=args'.map (SV.den ρ'))/\A5 E H fn args' ros (XU ros K)):jv P f c:=by refine⟨g.callable,λargs ros K q e d ρ w u=> ?_⟩;obtain⟨args',o,m,p⟩:=h args ros K q;rw[o ρ];exact(cV j hm A g (c:=λa r k=>a=args'/\r=ros/\k=K) (λa r k y=>by obtain⟨rfl,rfl,rfl⟩:=y;exact⟨m,p⟩)).2 args' ros K ⟨rfl,rfl,rfl⟩ e d ρ w u
def Gf {d c} (ho:d= .call c) (g:c.callee= .builtin .len) {t} (e:c.args.toList=[x]) (f:c.argTypes.toList=[t]) {sz}  (hT:T t=some ⟨sz,ag,z,.string,eq⟩) (hx:ev x= .c (.val (.string s))) h:mf T d ev hp=some (.val (.c (.int s.size h))):=by subst ho;simp only[mf,g,e,f,hT,hx];rw[dif_pos h]
def sF {d:Op} {t:TypeId} {i:Operand} (ho:d= .index t x i) {sz:Nat} (hT:T t=some ⟨sz,ag,z,.string,eq⟩) (hx:ev x= .c (.val (.string s))) {k:Nat} {hi:IR k} (hk:ev i= .c (.int k hi)) (hlt:k<s.size):mf T d ev hp=some (.val (.c (.val (.int .u8 ((s.data[k]?.getD 0).toNat))))):=by subst ho;simp only[mf,hT,hx,hk];show(if k<s.size then _ else _)=_;rw[if_pos hlt]
def Fr (x:List C) (b:Bool) (s:ByteArray):Prop:= ∀d,af d x=[.bool b,.string s]
def Fr.wid {k z h}:Fr [.wid k z h] (decide (z<0)) ⟨(kv z.natAbs).toArray⟩:=λ_=>rfl
def Fr.raw {b} :Fr [.val (.bool b),.val (.string s)] b s:=λ_=>rfl
def Fr.den {x b} (h:Fr x b s) ρ:(SV.agg x).den ρ=(SV.agg [.val (.bool b),.val (.string s)]).den ρ:=by simp only[SV.den,h ρ];rfl
def sb (s:ByteArray) (i:Nat):UInt8:=s.data[i]?.getD 0
def a2S {i} (h:i<s.size):s.data.toList[i]? =some (sb s i):=by have d:i<s.data.size:=h;unfold sb;rw[Array.getElem?_toList,aM d];rfl
end
def BH:List SV->(List SV->Prop)->Prop
 |[],K=>K []
 |x::l,K=>x.force λx=>BH l λl=>K (x::l)
def qw: ∀l K,BH l K=K l
 |[],_=>rfl
 |x::l,K=>by unfold BH;rw[SV.force_eq,qw l]
def mix (l:List (FuncId×cP)) (E:ic) (F:FuncId->Option Func):Nat->FuncId->List SV->List aY->(SV->List aY->Prop)->Prop
 |0=>hnew l λ_ _ _ _=>False
 |n+1=>hnew l λf d e K=>(match F f with|some fn=>BH d λd=>A5 E (mix l E F n) fn d e K|none=>False)
def qV {P l} (hl:iL P l) {E} (k:iU P E) (hm:P.follows .mixedOrders=true) {F} (i: ∀f fn,F f=some fn->iM P f fn): ∀n,ko P (mix l E F n)
 |0=>dX hl λf e o K h=>h.elim
 |n+1=>dX hl λf e o K h=>by split at h;rename_i fn g;rw[qw] at h;exact⟨(i f fn g).callable,λN m j w p d=>sG k hm (qV hl k hm i n) (i f fn g) h N m j w p d⟩;exact h.elim
def a7j (un:Nat):ic where
 T:=qo
 un:=un
 D:=λ_ _ _=>none
 O:=JS qo
def rR un:iU prog (a7j un) where
 T:=eD
 D f args hf p v h:=by cases h
 O:=u4 eD
def Fv {k1 b1 s1 z1} (h1:ku k1 b1 s1 z1) (hk1:k1<=1000000000) w: Calls prog 85 #[.agg #[.bool b1,.string s1]] w λe w'=>e= .returned (.int .i64 z1.sign)/\Below w.heap.size w w':=by
 have H1:=am h1
 clear h1
 go_enter func85, ntmps85
 go_wp2_with fail
 refine(rz H1.out om _).mono ?_
 rintro e wA ⟨A1,n1,c1,rfl,hl1,hn1,hc1,hw1,hb1⟩
 have hz:(n1=0↔z1=0):=by rw[<-hl1,mF eJ];omega
 have HZ:=am hz
 have g1:wA.cell? ⟨w.heap.size,0,none⟩=some (.bool b1):=ar hb1 (by simp[go_sem])
 have HB:Hid (Below w.heap.size w wA):=de hb1 ((Below.refl _ w).alloc (ai _) _) sp
 clear hz hl1 hn1 hc1 hw1 hb1
 by_cases hn:n1=0
 ·have HZ0:=am (HZ.out.1 hn)
  have hnb:((n1:Int)==0)=true:=by simpa using hn
  clear hn
  go_wp2_with fail
  go_ret
  exact⟨iF (by rw[HZ0.out];rfl),HB.out⟩
 ·have hnb:((n1:Int)==0)=false:=by simpa using hn
  have hz1:z1≠0:=λe=>hn (HZ.out.2 e)
  have HI:=am (kG H1.out hz1)
  clear hn hz1
  cases b1
  ·go_wp2_with fail
   go_ret
   have hi:=HI.out
   refine⟨iF ?_,HB.out⟩
   have:0<z1:=by simp at hi;have:=mt HZ.out.2 (by intro h;rw[h] at hnb;simp at hnb);omega
   rw[CP this];rfl
  ·go_wp2_with fail
   go_ret
   have hi:=HI.out
   refine⟨iF ?_,HB.out⟩
   have:z1<0:=by simpa using hi
   rw[sV this];rfl
def Vi {k1 k2 b1 b2 s1 s2 z1 z2} (h1:ku k1 b1 s1 z1) (h2:ku k2 b2 s2 z2) (hk1:k1<=90000000) (hk2:k2<=90000000) w: Calls prog 55 #[.agg #[.bool b1,.string s1],.agg #[.bool b2,.string s2]] w λe w'=>e= .returned (.int .i64 (z1-z2).sign)/\Below w.heap.size w w':=by
 have H1:=am h1;have H2:=am h2;clear h1 h2;go_enter func55, ntmps55
 go_wp2_with fail
 refine(CZ H1.out H2.out hk1 hk2 _).mono ?_;rintro e wA ⟨b3,s3,rfl,hc3,hn3,hb1⟩;have HN:=am hn3;have HB:Hid (Below w.heap.size w wA):=de hb1 (((Below.refl _ w).alloc (ai _) _).alloc sp _) su;have HS:Hid (w.heap.size<=wA.heap.size):=HB.out.size;clear hn3 hc3 hb1;go_wp2_with fail
 refine(Fv HN.out om _).mono ?_;rintro e wB ⟨rfl,hb2⟩;have HB2:=am (de hb2 HB.out HS.out);clear hb2;go_wp2_with fail
 go_ret
 exact⟨rfl,HB2.out⟩
def BA {k1 b1 s1 z1} (h1:ku k1 b1 s1 z1) (hk1:k1<=1000000000) w: Calls prog 90 #[.agg #[.bool b1,.string s1]] w λe w'=>e= .returned (.int .i64 z1.sign)/\Below w.heap.size w w':=by
 have H1:=am h1
 clear h1
 go_enter func90, ntmps90
 go_wp2_with fail
 refine(ld H1.out om _).mono ?_
 rintro e wA ⟨A1,n1,c1,rfl,hl1,hn1,hc1,hw1,hb1⟩
 have hz:(n1=0↔z1=0):=by rw[<-hl1,mF cT];omega
 have HZ:=am hz
 have g1:wA.cell? ⟨w.heap.size,0,none⟩=some (.bool b1):=ar hb1 (by simp[go_sem])
 have HB:Hid (Below w.heap.size w wA):=de hb1 ((Below.refl _ w).alloc (ai _) _) sp
 clear hz hl1 hn1 hc1 hw1 hb1
 by_cases hn:n1=0
 ·have HZ0:=am (HZ.out.1 hn)
  have hnb:((n1:Int)==0)=true:=by simpa using hn
  clear hn
  go_wp2_with fail
  go_ret
  exact⟨iF (by rw[HZ0.out];rfl),HB.out⟩
 ·have hnb:((n1:Int)==0)=false:=by simpa using hn
  have hz1:z1≠0:=λe=>hn (HZ.out.2 e)
  have HI:=am (kG H1.out hz1)
  clear hn hz1
  cases b1
  ·go_wp2_with fail
   go_ret
   have hi:=HI.out
   refine⟨iF ?_,HB.out⟩
   have:0<z1:=by simp at hi;have:=mt HZ.out.2 (by intro h;rw[h] at hnb;simp at hnb);omega
   rw[CP this];rfl
  ·go_wp2_with fail
   go_ret
   have hi:=HI.out
   refine⟨iF ?_,HB.out⟩
   have:z1<0:=by simpa using hi
   rw[sV this];rfl
def PO {k1 k2 b1 b2 s1 s2 z1 z2} (h1:ku k1 b1 s1 z1) (h2:ku k2 b2 s2 z2) (hk1:k1<=90000000) (hk2:k2<=90000000) w: Calls prog 61 #[.agg #[.bool b1,.string s1],.agg #[.bool b2,.string s2]] w λe w'=>e= .returned (.int .i64 (z1-z2).sign)/\Below w.heap.size w w':=by
 have H1:=am h1;have H2:=am h2;clear h1 h2;go_enter func61, ntmps61
 go_wp2_with fail
 refine(Fu H1.out H2.out hk1 hk2 _).mono ?_;rintro e wA ⟨b3,s3,rfl,hc3,hn3,hb1⟩;have HN:=am hn3;have HB:Hid (Below w.heap.size w wA):=de hb1 (((Below.refl _ w).alloc (ai _) _).alloc sp _) su;have HS:Hid (w.heap.size<=wA.heap.size):=HB.out.size;clear hn3 hc3 hb1;go_wp2_with fail
 refine(BA HN.out om _).mono ?_;rintro e wB ⟨rfl,hb2⟩;have HB2:=am (de hb2 HB.out HS.out);clear hb2;go_wp2_with fail
 go_ret
 exact⟨rfl,HB2.out⟩
section
variable {x:List C} {s:ByteArray} {f:FuncId} {cap:Nat}
structure NA where
 k:Nat
 z:Int
 h:Sm k z
def G4:List C->Option NA
 |[.wid k z h]=>some ⟨k,z,h⟩
 |[.val (.bool b),.val (.string s)]=>some ⟨8*s.size,Bh b s.data.toList,Sm.ofBytes (CS Array.length_toList)⟩
 |_=>none
def zX {X} (h:G4 x=some X): ∃b s,Fr x b s/\ku (X.k+7) b s X.z:=by unfold G4 at h;split at h;cases h;exact⟨_,_,Fr.wid,nG aq⟩;rename_i b s;cases h;exact⟨b,s,Fr.raw,rfl,a8X _ _⟩;cases h
def NE {y b c t} (hx:Fr x b s) (hy:Fr y c t) ρ:(([.agg x,.agg y]:List SV).map (SV.den ρ)).toArray= #[.agg #[.bool b,.string s],.agg #[.bool c,.string t]]:=by show#[(SV.agg x).den ρ,(SV.agg y).den ρ]=_;rw[hx.den ρ,hy.den ρ];rfl
def ND {b} (hx:Fr x b s) ρ:(([.agg x]:List SV).map (SV.den ρ)).toArray= #[.agg #[.bool b,.string s]]:=by show#[(SV.agg x).den ρ]=_;rw[hx.den ρ];rfl
def zW (cap:Nat) (f:NA->NA->SV):Dn
 |[.agg x,.agg y]=>(match G4 x,G4 y with|some X,some Y=>some (some (X.k<=cap/\Y.k<=cap),f X Y)|_,_=>none)
 |_=>none
def Cn (cap:Nat) (f:NA->SV):Dn
 |[.agg x]=>(match G4 x with|some X=>some (some (X.k<=cap),f X)|none=>none)
 |_=>none
abbrev a46 (f:NA->NA->SV):Dn:=zW 80000000 f
abbrev Tm (f:NA->SV):Dn:=Cn 80000000 f
def Fa (E:eK prog f) {g} (hp: ∀X Y ρ ρ',(g X Y).den ρ=(g X Y).den ρ') (h: ∀X Y:NA,X.k<=cap->Y.k<=cap-> ∀b s c t,ku (X.k+7) b s X.z->ku (Y.k+7) c t Y.z-> ∀ρ w,Calls prog f #[.agg #[.bool b,.string s],.agg #[.bool c,.string t]] w λe w'=>e= .returned ((g X Y).den ρ)/\Below w.heap.size w w'):dW prog f (zW cap g):=by refine⟨E,λi p v d=> ?_⟩;unfold zW at d;split at d;rename_i x y;split at d;rename_i X Y q u;cases d;obtain⟨b,s,o,B⟩:=zX q;obtain⟨c,t,D,A⟩:=zX u;refine⟨hp X Y,λm ρ w=> ?_⟩;obtain⟨j,r⟩:=m _ rfl;rw[NE o D];exact h X Y j r b s c t B A ρ w;cases d;cases d
def yh (r:eK prog f) {g} (hp: ∀X ρ ρ',(g X).den ρ=(g X).den ρ') (h: ∀X:NA,X.k<=cap-> ∀b s,ku (X.k+7) b s X.z-> ∀ρ w,Calls prog f #[.agg #[.bool b,.string s]] w λe w'=>e= .returned ((g X).den ρ)/\Below w.heap.size w w'):dW prog f (Cn cap g):=by refine⟨r,λi p v d=> ?_⟩;unfold Cn at d;split at d;rename_i x;split at d;rename_i X q;cases d;obtain⟨b,s,o,j⟩:=zX q;refine⟨hp X,λm ρ w=> ?_⟩;rw[ND o];exact h X (m _ rfl) b s j ρ w;cases d;cases d
def fX (z:Int):IR z.sign:=by unfold IR;rcases z with(_|_)|_<;>simp[Int.sign]
def a36:Dn:=a46 λX Y=> .agg [.wid (X.k+Y.k+1) (X.z-Y.z) (aH X.h Y.h)]
def a35:Dn:=Tm λX=> .agg [.wid X.k (-X.z) X.h.neg]
def RX:Dn:=Tm λX=> .c (.int X.z.sign (fX _))
def Zv:Dn:=a46 λX Y=> .c (.int (X.z-Y.z).sign (fX _))
def a7U:dW prog 71 a36:=Fa ⟨_, func71,kr,kr⟩ (λ_ _ _ _=>rfl) λX Y k m b s c t i h g w=>(CZ i h om om w).mono λe j d=>m5 d g _
def a7T:dW prog 96 a35:=yh ⟨_, func96,kr,kr⟩ (λ_ _ _=>rfl) λX j b s h g w=>(CV h om w).mono λe i d=>m5 d g _
def YA:dW prog 85 RX:=yh ⟨_, func85,kr,kr⟩ (λ_ _ _=>rfl) λX g b s d e w=>Fv d om w
def a2Z:dW prog 55 Zv:=Fa ⟨_, func55,kr,kr⟩ (λ_ _ _ _=>rfl) λX Y h i b s c t e d g w=>Vi e d om om w
def Ut:dW prog 90 RX:=yh ⟨_, func90,kr,kr⟩ (λ_ _ _=>rfl) λX g b s d e w=>BA d om w
def MQ:dW prog 61 Zv:=Fa ⟨_, func61,kr,kr⟩ (λ_ _ _ _=>rfl) λX Y h i b s c t e d g w=>PO e d om om w
end
structure V3 where
 x:Int
 y:Int
 z:Int
def V3.sub (a b:V3):V3:=⟨a.x-b.x,a.y-b.y,a.z-b.z⟩
def V3.dot (a b:V3):Int:=a.x*b.x+a.y*b.y+a.z*b.z
def V3.cross (a b:V3):V3:=⟨a.y*b.z-a.z*b.y,a.z*b.x-a.x*b.z,a.x*b.y-a.y*b.x⟩
def fc (p q s:V3):V3:=(q.sub p).cross (s.sub p)
def V3.isZ (v:V3):Bool:=decide (v.x=0)&&(decide (v.y=0)&&decide (v.z=0))
def Tn (cap:Nat) (g:NA->SV):Dn
 |[.agg [.wid k z h]]=>if k<=cap then some (none,g ⟨k,z,h⟩) else none
 |_=>none
def a0i {f cap g} (h:dW prog f (Cn cap g)):dW prog f (Tn cap g):=⟨h.1,λe p v d=>by unfold Tn at d;split at d;rename_i k z i;split at d;rename_i m;cases d;have:=h.2 _ _ _ (show Cn cap g [.agg [.wid k z i]]=some (some (k<=cap),g ⟨k,z,i⟩) from rfl);exact⟨this.1,λ_=>this.2 (λq j=>by cases j;exact m)⟩;cases d;cases d⟩
def a5D (X:NA):SV:= .c (.int X.z.sign (fX _))
def RY:Dn:=Tn 80000000 a5D
def Df:List (FuncId×Dn):=(85,RY)::(90,RY)::Qi
def k7:dU Df:= .cons (a0i YA)<| .cons (a0i Ut)<|FF
def rm {a b d hb} (e:a=b) ρ:(SV.c (.int a d)).den ρ=(SV.c (.int b hb)).den ρ:=by subst e;rfl
def bJ {a b} (e:a=b) ρ:(SV.c (.val (.bool a))).den ρ=(SV.c (.val (.bool b))).den ρ:=by subst e;rfl
def EY {d m g p o j q k i e f h} (h0:Sm d q) (h1:Sm m k) (h2:Sm g i) (s:Sm p e) (u:Sm o f) (r:Sm j h):Sm (d+p+(m+o)+1+(g+j)+1) (V3.dot ⟨q,k,i⟩ ⟨e,f,h⟩):=cp (cp (h0.mul s) (h1.mul u)) (h2.mul r)
section
namespace Go.Proofs
open Go.Shelf
end Go.Proofs
open Go.RowKit Go.Shelf
end
def a6P (n:Int):Bool:=decide ((18:Int)<(Lib.bitLen (IntKind.u64.wrap (maxI n (wr ix (0-n)))).toNat:Nat))
def smB:List Int->Bool
 |[]=>true
 |n::l=>cond (a6P n) false (smB l)
def Pr:List Int->Bool
 |[]=>true
 |n::l=>cond (decide (262144<n)) false (cond (decide (n< -262144)) false (Pr l))
def a0b {n l} (h:decide (262144<n)=true):Pr (n::l)=false:=by unfold Pr;rw[h];rfl
def Uf {n l} (h1:decide (262144<n)=false) (h:decide (n< -262144)=true):Pr (n::l)=false:=by unfold Pr;rw[h1,h];rfl
def a0a {n l} (h1:decide (262144<n)=false) (h:decide (n< -262144)=false):Pr (n::l)=Pr l:=by rw[show Pr (n::l)=cond (decide (262144<n)) false (cond (decide (n< -262144)) false (Pr l)) from rfl,h1,h];rfl
def Kk: ∀{l},Pr l=true-> ∀x∈l,x.natAbs<=262144
 |[],_,x,d=>by cases d
 |n::l,h,x,d=>by
  cases h1:decide (262144<n) with
  |true=>rw[a0b h1] at h;cases h
  |false=>
   cases h2:decide (n< -262144) with
   |true=>rw[Uf h1 h2] at h;cases h
   |false=>rw[a0a h1 h2] at h;rcases br.1 d with rfl|d;have:=of_decide_eq_false h1;have:=of_decide_eq_false h2;omega;exact Kk h x d
def jI {n} (h:n.natAbs<=4611686018427387904):wr ix n=n:=cN ui
def qY {a b:Int} {m n:Nat} (d:a.natAbs<=m) (hb:b.natAbs<=n):(a*b).natAbs<=m*n:=by rw[sU];exact gd d hb
def rX {a b c d e f g k:Int} (o:a.natAbs<=262144) (hb:b.natAbs<=262144) (s:c.natAbs<=262144) (u:d.natAbs<=262144) (p:e.natAbs<=262144) (x:f.natAbs<=262144) (q:g.natAbs<=262144) (hk:k.natAbs<=262144): wr ix (wr ix (wr ix (a-b)*wr ix (c-d))-wr ix (wr ix (e-f)*wr ix (g-k)))=(a-b)*(c-d)-(e-f)*(g-k):=by have m:(a-b).natAbs<=524288:=om;have h:(c-d).natAbs<=524288:=om;have j:(e-f).natAbs<=524288:=om;have i:(g-k).natAbs<=524288:=om;have r:=qY m h;have y:=qY j i;rw[jI (n:=a-b) om,jI (n:=c-d) om,jI (n:=e-f) om,jI (n:=g-k) om,jI (n:=(a-b)*(c-d)) om,jI (n:=(e-f)*(g-k)) om];exact jI om
def a7i:Dr
 |[.c (.sli false b 0 4 _ _)],hf=>(match hf b with
  |some ⟨_,_,[.int x1 _,.int y1 _,.int z1 _,.int x2 _,.int y2 _,.int z2 _,.int x3 _,.int y3 _,.int z3 _,.int x4 _,.int y4 _,.int z4 _],_⟩=>some (none,.c (.val (.bool (smB [x1,y1,z1,x2,y2,z2,x3,y3,z3,x4,y4,z4]))))
  |_=>none)
 |_,_=>none
def DF:Dr
 |[.c (.sli false b 0 4 _ _)],hf=>(match hf b with
  |some ⟨_,_,[.int x1 _,.int y1 _,.int z1 _,.int x2 _,.int y2 _,.int z2 _,.int x3 _,.int y3 _,.int z3 _,.int x4 _,.int y4 _,.int z4 _],_⟩=>some (none,.c (.val (.bool (Pr [x1,y1,z1,x2,y2,z2,x3,y3,z3,x4,y4,z4]))))
  |_=>none)
 |_,_=>none
def US {p D B s x g H e A G o i:Int} f m E j d z r k y q I F (ty cap:Nat) hs:A5 (vA 20 Df) (inl (vA 20 Df) Mh 0) f216 [.c (.sli false 0 0 4 cap hs)] [⟨ty,true,[.int p f,.int D m,.int B E,.int s j,.int x d,.int g z,.int H r,.int e k,.int A y,.int G q,.int o I,.int i F],0⟩] λu _=> ∀ρ,u.den ρ=(SV.c (.val (.bool (Pr [p,D,B,s,x,g,H,e,A,G,o,i])))).den ρ:=by
 repeat' first
  |(refine zB ?_ ?_<;>intro h)
  |exact λρ=>bJ (Eq.symm (by repeat' first|rfl|exact a0b aq|exact Uf aq aq|refine(a0a aq aq).trans ?_)) ρ
def Ux:CY prog 216 DF:=by
 refine⟨(⟨func216,kr,kr⟩:iM prog 216 f216).callable,λA Y p v e=> ?_⟩;unfold DF at e;split at e;rename_i b o B;split at e;rename_i D R W r Q u U m N g O f V k x3 h J s X y Z x M q L z T H;cases e;refine⟨ff,λ_ I w F=> ?_⟩;have E:=(F b _ H).1;refine yd (P:= prog) (cm k7 20) bj bg ⟨func216,kr,kr⟩ ff (λi c d=> ?_) (λ_=>I b) (λG j=> ?_) (US r u m g f k h s y x q z D o B) w (λi c d=> ?_)
 cases i with
 |zero=>simp[an] at d;subst d;exact⟨rfl,ff⟩
 |succ i=>simp[an] at d
 have:=j 0 rfl;simp only[aI,dj,SV.den,C.den,C.cells,this]
 cases i with
 |zero=>simp[an] at d;subst d;exact E
 |succ i=>simp[an] at d
 cases e;cases e
def a8d:Dn
 |[.agg [.int x1 _,.int y1 _,.int z1 _],.agg [.int x2 _,.int y2 _,.int z2 _]]=>
  some (none,.agg [.int (wr ix (x2-x1)) (IR.wrap _),.int (wr ix (y2-y1)) (IR.wrap _),.int (wr ix (z2-z1)) (IR.wrap _)])
 |_=>none
def RZ:Dn
 |[.agg [.int x1 _,.int y1 _,.int z1 _],.agg [.int x2 _,.int y2 _,.int z2 _]]=>
  some (none,.agg [.int (wr ix (x2-x1)) (IR.wrap _),.int (wr ix (y2-y1)) (IR.wrap _),.int (wr ix (z2-z1)) (IR.wrap _)])
 |_=>none
def a27:dW prog 218 RZ:=dC (un:=20) (n:=0) ⟨func218,kr,kr⟩ k7 bg λk p v d=>by
 unfold RZ at d;split at d;rename_i u i q j r h o f m e s g;cases d;refine⟨[.agg [.int u i,.int q j,.int r h],.agg [.int o f,.int m e,.int s g]],fr,ff,ff,λ_=> ?_⟩;conv=>whnf
 exact λ_=>rfl;cases d
def a7g:Dn
 |[.agg [.int u0 _,.int u1 _,.int u2 _],.agg [.int v0 _,.int v1 _,.int v2 _]]=>
  some (none,.agg [.int (wr ix (wr ix (u1*v2)-wr ix (u2*v1))) (IR.wrap _),.int (wr ix (wr ix (u2*v0)-wr ix (u0*v2))) (IR.wrap _),.int (wr ix (wr ix (u0*v1)-wr ix (u1*v0))) (IR.wrap _)])
 |_=>none
def Dz:Dn
 |[.agg [.int u0 _,.int u1 _,.int u2 _],.agg [.int v0 _,.int v1 _,.int v2 _]]=>
  some (none,.agg [.int (wr ix (wr ix (u1*v2)-wr ix (u2*v1))) (IR.wrap _),.int (wr ix (wr ix (u2*v0)-wr ix (u0*v2))) (IR.wrap _),.int (wr ix (wr ix (u0*v1)-wr ix (u1*v0))) (IR.wrap _)])
 |_=>none
def Un:dW prog 217 Dz:=dC (un:=20) (n:=3) ⟨func217,kr,kr⟩ k7 bg λk p v d=>by
 unfold Dz at d;split at d;rename_i u g s j q f m e r h o i;cases d;refine⟨[.agg [.int u g,.int s j,.int q f],.agg [.int m e,.int r h,.int o i]],fr,ff,ff,λ_=> ?_⟩;conv=>whnf
 exact λ_=>rfl;cases d
def Yf {n:Int} (h:decide (n<0)=true):n.sign= -1:=sV (of_decide_eq_true h)
def Yg {n:Int} (h:decide (0<n)=true):n.sign=1:=CP (of_decide_eq_true h)
def a5C {n:Int} (h:decide (n<0)=false) (h1:decide (0<n)=false):n.sign=0:=by have h:=of_decide_eq_false h;have h1:=of_decide_eq_false h1;have:n=0:=om;subst this;rfl
def a7e:Dn
 |[.c (.int n _)]=>
  some (none,.c (.int n.sign (fX n)))
 |_=>none
def DA:Dn
 |[.c (.int n _)]=>
  some (none,.c (.int n.sign (fX n)))
 |_=>none
def Uo:dW prog 219 DA:=dC (un:=20) (n:=0) ⟨func219,kr,kr⟩ k7 bg λf p v e=>by
 unfold DA at e;split at e;rename_i n i;cases e;refine⟨[.c (.int n i)],fr,ff,ff,λ_=> ?_⟩;refine zB ?_ ?_<;>intro h;conv=>whnf
 exact λd=>rm (Eq.symm (Yf h)) d;refine zB ?_ ?_<;>intro g;conv=>whnf
 exact λd=>rm (Eq.symm (Yg g)) d;conv=>whnf
 exact λd=>rm (Eq.symm (a5C h g)) d;cases e
def a7c:Dn
 |[.agg [.wid ju0 u0 hu0,.wid ju1 u1 hu1,.wid ju2 u2 hu2],.agg [.wid jv0 v0 hv0,.wid jv1 v1 hv1,.wid jv2 v2 hv2]]=>
  if ju0<=1000000/\ju1<=1000000/\ju2<=1000000/\jv0<=1000000/\jv1<=1000000/\jv2<=1000000 then some (none,.agg [.wid ((ju1+jv2)+(ju2+jv1)+1) ((V3.cross ⟨u0,u1,u2⟩ ⟨v0,v1,v2⟩:V3).x) (aH (Sm.mul hu1 hv2) (Sm.mul hu2 hv1)),.wid ((ju2+jv0)+(ju0+jv2)+1) ((V3.cross ⟨u0,u1,u2⟩ ⟨v0,v1,v2⟩:V3).y) (aH (Sm.mul hu2 hv0) (Sm.mul hu0 hv2)),.wid ((ju0+jv1)+(ju1+jv0)+1) ((V3.cross ⟨u0,u1,u2⟩ ⟨v0,v1,v2⟩:V3).z) (aH (Sm.mul hu0 hv1) (Sm.mul hu1 hv0))]) else none
 |_=>none
def DB:Dn
 |[.agg [.wid ja a ha],.agg [.wid jb b hb],.agg [.wid jc c hc],.agg [.wid jd d hd]]=>
  if ja<=2000000/\jb<=2000000/\jc<=2000000/\jd<=2000000 then some (none,.agg [.wid ((ja+jb)+(jc+jd)+1) (a*b-c*d) (aH (Sm.mul ha hb) (Sm.mul hc hd))]) else none
 |_=>none
def Ur:dW prog 215 DB:=dC (un:=20) (n:=0) ⟨func215,kr,kr⟩ k7 bg λg p v f=>by
 unfold DB at f;split at f;rename_i m a h q b j o c i k d f;split at f;rename_i e;cases f;refine⟨[.agg [.wid 2000000 a (h.mono e.1)],.agg [.wid 2000000 b (j.mono e.2.1)],.agg [.wid 2000000 c (i.mono e.2.2.1)],.agg [.wid 2000000 d (f.mono e.2.2.2)]],fr,ff,ff,λ_=> ?_⟩;conv=>whnf
 exact λ_=>rfl;cases f;cases f
def Jm:Dn
 |[.agg [.int x1 hx1,.int y1 hy1,.int z1 hz1],.agg [.int x2 hx2,.int y2 hy2,.int z2 hz2]]=>
  some (none,.agg [.wid 129 (x2-x1) (aH (cG hx2) (cG hx1)),.wid 129 (y2-y1) (aH (cG hy2) (cG hy1)),.wid 129 (z2-z1) (aH (cG hz2) (cG hz1))])
 |_=>none
def YC:dW prog 184 Jm:=dC (un:=20) (n:=0) ⟨func184,kr,kr⟩ k7 bg λk p v d=>by
 unfold Jm at d;split at d;rename_i u i q j r h o f m e s g;cases d;refine⟨[.agg [.int u i,.int q j,.int r h],.agg [.int o f,.int m e,.int s g]],fr,ff,ff,λ_=> ?_⟩;conv=>whnf
 exact λ_=>rfl;cases d
def Zd:List (FuncId×Dn):=(215,DB)::Df
def FK:dU Zd:= .cons Ur k7
def DJ:Dn
 |[.agg [.wid ju0 u0 hu0,.wid ju1 u1 hu1,.wid ju2 u2 hu2],.agg [.wid jv0 v0 hv0,.wid jv1 v1 hv1,.wid jv2 v2 hv2]]=>
  if ju0<=1000000/\ju1<=1000000/\ju2<=1000000/\jv0<=1000000/\jv1<=1000000/\jv2<=1000000 then some (none,.agg [.wid ((ju1+jv2)+(ju2+jv1)+1) ((V3.cross ⟨u0,u1,u2⟩ ⟨v0,v1,v2⟩:V3).x) (aH (Sm.mul hu1 hv2) (Sm.mul hu2 hv1)),.wid ((ju2+jv0)+(ju0+jv2)+1) ((V3.cross ⟨u0,u1,u2⟩ ⟨v0,v1,v2⟩:V3).y) (aH (Sm.mul hu2 hv0) (Sm.mul hu0 hv2)),.wid ((ju0+jv1)+(ju1+jv0)+1) ((V3.cross ⟨u0,u1,u2⟩ ⟨v0,v1,v2⟩:V3).z) (aH (Sm.mul hu0 hv1) (Sm.mul hu1 hv0))]) else none
 |_=>none
def UA:dW prog 208 DJ:=dC (un:=20) (n:=0) ⟨func208,kr,kr⟩ FK bg λm p v e=>by
 unfold DJ at e;split at e;rename_i A E h B z k D x g r o f q y i u s j;split at e;rename_i d;cases e;refine⟨[.agg [.wid 1000000 E (h.mono d.1),.wid 1000000 z (k.mono d.2.1),.wid 1000000 x (g.mono d.2.2.1)],.agg [.wid 1000000 o (f.mono d.2.2.2.1),.wid 1000000 y (i.mono d.2.2.2.2.1),.wid 1000000 s (j.mono d.2.2.2.2.2)]],fr,ff,ff,λ_=> ?_⟩;conv=>whnf
 exact λ_=>rfl;cases e;cases e
def Qv:List (FuncId×Dn):=(218,RZ)::(217,Dz)::(219,DA)::(184,Jm)::(208,DJ)::Zd
def BN:dU Qv:= .cons a27<| .cons Un<| .cons Uo<| .cons YC<| .cons UA<|FK
def GN {a b c e b' g i hb o d h f} (j:a=e) (m:b=b') (k:c=g) ρ:(SV.agg [.int a i,.int b hb,.int c o]).den ρ=(SV.agg [.int e d,.int b' h,.int g f]).den ρ:=by subst j m k;rfl
def a7h:Dn
 |[.agg [.int x1 _,.int y1 _,.int z1 _],.agg [.int x2 _,.int y2 _,.int z2 _],.agg [.int x3 _,.int y3 _,.int z3 _],.agg [.int x4 _,.int y4 _,.int z4 _]]=>
  some (none,.agg [.int (V3.cross (V3.sub ⟨x2,y2,z2⟩ ⟨x1,y1,z1⟩) (V3.sub ⟨x4,y4,z4⟩ ⟨x3,y3,z3⟩)).x.sign (fX _),.int (V3.cross (V3.sub ⟨x2,y2,z2⟩ ⟨x1,y1,z1⟩) (V3.sub ⟨x4,y4,z4⟩ ⟨x3,y3,z3⟩)).y.sign (fX _),.int (V3.cross (V3.sub ⟨x2,y2,z2⟩ ⟨x1,y1,z1⟩) (V3.sub ⟨x4,y4,z4⟩ ⟨x3,y3,z3⟩)).z.sign (fX _)])
 |_=>none
def TN:List (FuncId×Dr):=[(216,DF)]
def xt:nN TN:= .cons Ux .nil
def DE:Dn
 |[.agg [.int x1 _,.int y1 _,.int z1 _],.agg [.int x2 _,.int y2 _,.int z2 _],.agg [.int x3 _,.int y3 _,.int z3 _],.agg [.int x4 _,.int y4 _,.int z4 _]]=>
  some (none,.agg [.int (V3.cross (V3.sub ⟨x2,y2,z2⟩ ⟨x1,y1,z1⟩) (V3.sub ⟨x4,y4,z4⟩ ⟨x3,y3,z3⟩)).x.sign (fX _),.int (V3.cross (V3.sub ⟨x2,y2,z2⟩ ⟨x1,y1,z1⟩) (V3.sub ⟨x4,y4,z4⟩ ⟨x3,y3,z3⟩)).y.sign (fX _),.int (V3.cross (V3.sub ⟨x2,y2,z2⟩ ⟨x1,y1,z1⟩) (V3.sub ⟨x4,y4,z4⟩ ⟨x3,y3,z3⟩)).z.sign (fX _)])
 |_=>none
def Uw:dW prog 209 DE:=Fb (un:=20) (n:=0) ⟨func209,kr,kr⟩ BN xt bg λG p v e=>by
 unfold DE at e;split at e;rename_i I m E q F j D g B f H i M h y o J s L r A k z u;cases e;refine⟨[.agg [.int I m,.int E q,.int F j],.agg [.int D g,.int B f,.int H i],.agg [.int M h,.int y o,.int J s],.agg [.int L r,.int A k,.int z u]],fr,ff,ff,λ_=> ?_⟩;refine zB (λN=> ?_) λ_=> ?_;have d:=Kk (l:=[I,E,F,D,B,H,M,y,J,L,A,z]) N;conv=>whnf
 exact λx=>GN (congrArg Int.sign (rX (d _ sp) (d _ sp) (d _ sp) (d _ sp) (d _ sp) (d _ sp) (d _ sp) (d _ sp))) (congrArg Int.sign (rX (d _ sp) (d _ sp) (d _ sp) (d _ sp) (d _ sp) (d _ sp) (d _ sp) (d _ sp))) (congrArg Int.sign (rX (d _ sp) (d _ sp) (d _ sp) (d _ sp) (d _ sp) (d _ sp) (d _ sp) (d _ sp))) x;conv=>whnf
 exact λx=>GN rfl rfl rfl x;cases e
def Qw:List (FuncId×Dn):=(209,DE)::Qv
def vH:dU Qw:= .cons Uw<|BN
def WT (v:V3):(decide (v.x.sign=0)&&(decide (v.y.sign=0)&&decide (v.z.sign=0)))=v.isZ:=by have e: ∀x:Int,decide (x.sign=0)=decide (x=0):=λx=>decide_eq_decide.2 a3H;unfold V3.isZ;rw[e,e,e]
noncomputable def a4w:FuncId->Option Func:=lk [(204, f204)]
def Sr: ∀f fn,a4w f=some fn->iM prog f fn:=nV λx d=>by simp only[br,cd,or_false] at d;subst d;exact⟨func204,kr,kr⟩
def a8c:Dn
 |[.agg [.int x1 _,.int y1 _,.int z1 _,.int x2 _,.int y2 _,.int z2 _,.int x3 _,.int y3 _,.int z3 _]]=>
  some (none,.c (.val (.bool (fc ⟨x1,y1,z1⟩ ⟨x2,y2,z2⟩ ⟨x3,y3,z3⟩).isZ)))
 |_=>none
def Jb:Dn
 |[.agg [.int x1 _,.int y1 _,.int z1 _,.int x2 _,.int y2 _,.int z2 _,.int x3 _,.int y3 _,.int z3 _]]=>
  some (none,.c (.val (.bool (fc ⟨x1,y1,z1⟩ ⟨x2,y2,z2⟩ ⟨x3,y3,z3⟩).isZ)))
 |_=>none
def Yq:dW prog 195 Jb:=dC (un:=20) (n:=3) ⟨func195,kr,kr⟩ vH Sr λy p v d=>by
 unfold Jb at d;split at d;rename_i A j u m x i s f r e z h D g q k B o;cases d;refine⟨[.agg [.int A j,.int u m,.int x i,.int s f,.int r e,.int z h,.int D g,.int q k,.int B o]],fr,ff,ff,λ_=> ?_⟩;conv=>whnf
 exact λE=>bJ (WT (fc ⟨A,u,x⟩ ⟨s,r,z⟩ ⟨D,q,B⟩)) E;cases d
def a6m:Dn
 |[.agg [.int x1 hx1,.int y1 hy1,.int z1 hz1,.int x2 hx2,.int y2 hy2,.int z2 hz2,.int x3 hx3,.int y3 hy3,.int z3 hz3]]=>
  some (none,.agg [.wid 517 ((fc ⟨x1,y1,z1⟩ ⟨x2,y2,z2⟩ ⟨x3,y3,z3⟩).x) (aH (Sm.mul (aH (cG hy2) (cG hy1)) (aH (cG hz3) (cG hz1))) (Sm.mul (aH (cG hz2) (cG hz1)) (aH (cG hy3) (cG hy1)))),.wid 517 ((fc ⟨x1,y1,z1⟩ ⟨x2,y2,z2⟩ ⟨x3,y3,z3⟩).y) (aH (Sm.mul (aH (cG hz2) (cG hz1)) (aH (cG hx3) (cG hx1))) (Sm.mul (aH (cG hx2) (cG hx1)) (aH (cG hz3) (cG hz1)))),.wid 517 ((fc ⟨x1,y1,z1⟩ ⟨x2,y2,z2⟩ ⟨x3,y3,z3⟩).z) (aH (Sm.mul (aH (cG hx2) (cG hx1)) (aH (cG hy3) (cG hy1))) (Sm.mul (aH (cG hy2) (cG hy1)) (aH (cG hx3) (cG hx1))))])
 |_=>none
def yO:Dn
 |[.agg [.int x1 hx1,.int y1 hy1,.int z1 hz1,.int x2 hx2,.int y2 hy2,.int z2 hz2,.int x3 hx3,.int y3 hy3,.int z3 hz3]]=>
  some (none,.agg [.wid 517 ((fc ⟨x1,y1,z1⟩ ⟨x2,y2,z2⟩ ⟨x3,y3,z3⟩).x) (aH (Sm.mul (aH (cG hy2) (cG hy1)) (aH (cG hz3) (cG hz1))) (Sm.mul (aH (cG hz2) (cG hz1)) (aH (cG hy3) (cG hy1)))),.wid 517 ((fc ⟨x1,y1,z1⟩ ⟨x2,y2,z2⟩ ⟨x3,y3,z3⟩).y) (aH (Sm.mul (aH (cG hz2) (cG hz1)) (aH (cG hx3) (cG hx1))) (Sm.mul (aH (cG hx2) (cG hx1)) (aH (cG hz3) (cG hz1)))),.wid 517 ((fc ⟨x1,y1,z1⟩ ⟨x2,y2,z2⟩ ⟨x3,y3,z3⟩).z) (aH (Sm.mul (aH (cG hx2) (cG hx1)) (aH (cG hy3) (cG hy1))) (Sm.mul (aH (cG hy2) (cG hy1)) (aH (cG hx3) (cG hx1))))])
 |_=>none
def O6:dW prog 203 yO:=dC (un:=20) (n:=0) ⟨func203,kr,kr⟩ vH bg λq p v d=>by
 unfold yO at d;split at d;rename_i A j x m y i u f s e z h D g r k B o;cases d;refine⟨[.agg [.int A j,.int x m,.int y i,.int u f,.int s e,.int z h,.int D g,.int r k,.int B o]],fr,ff,ff,λ_=> ?_⟩;conv=>whnf
 exact λ_=>rfl;cases d
def Qy:List (FuncId×Dn):=(195,Jb)::(203,yO)::Qw
def vI:dU Qy:= .cons Yq<| .cons O6<|vH
section
variable {p q:V3}
def kD (p q s t:V3):Int:=(fc p q s).dot (t.sub p)
def ew (p q:V3):Bool:=cond (!decide (p.x=q.x)) (decide (p.x<q.x)) (cond (!decide (p.y=q.y)) (decide (p.y<q.y)) (cond (!decide (p.z=q.z)) (decide (p.z<q.z)) false))
def a4U (h:(!decide (p.x=q.x))=true):decide (p.x<q.x)=ew p q:=by unfold ew;rw[h];rfl
def a4V (h:(!decide (p.x=q.x))=false) (h1:(!decide (p.y=q.y))=true):decide (p.y<q.y)=ew p q:=by unfold ew;rw[h,h1];rfl
def a4W (h:(!decide (p.x=q.x))=false) (h1:(!decide (p.y=q.y))=false):decide (p.z<q.z)=ew p q:=by unfold ew;rw[h,h1];show _=cond (!decide (p.z=q.z)) (decide (p.z<q.z)) false;by_cases e:p.z=q.z;simp[e];simp[e]
def a6l:Dn
 |[.agg [.int x1 _,.int y1 _,.int z1 _],.agg [.int x2 _,.int y2 _,.int z2 _]]=>
  some (none,.c (.val (.bool (ew ⟨x1,y1,z1⟩ ⟨x2,y2,z2⟩))))
 |_=>none
def Jc:Dn
 |[.agg [.int x1 _,.int y1 _,.int z1 _],.agg [.int x2 _,.int y2 _,.int z2 _]]=>
  some (none,.c (.val (.bool (ew ⟨x1,y1,z1⟩ ⟨x2,y2,z2⟩))))
 |_=>none
def Yr:dW prog 103 Jc:=dC (un:=20) (n:=0) ⟨func103,kr,kr⟩ vI bg λA p v g=>by
 unfold Jc at g;split at g;rename_i k x h y i u f o e m j s;cases g;refine⟨[.agg [.int k x,.int h y,.int i u],.agg [.int f o,.int e m,.int j s]],fr,ff,ff,λ_=> ?_⟩;refine zB ?_ ?_<;>intro r;conv=>whnf
 exact λd=>bJ (a4U (p:=(⟨k,h,i⟩:V3)) (q:=(⟨f,e,j⟩:V3)) r) d;refine zB ?_ ?_<;>intro z;conv=>whnf
 exact λd=>bJ (a4V (p:=(⟨k,h,i⟩:V3)) (q:=(⟨f,e,j⟩:V3)) r z) d;conv=>whnf
 exact λd=>bJ (a4W (p:=(⟨k,h,i⟩:V3)) (q:=(⟨f,e,j⟩:V3)) r z) d;cases g
def a7d:Dn
 |[.agg [.wid ju0 u0 hu0,.wid ju1 u1 hu1,.wid ju2 u2 hu2],.agg [.wid jv0 v0 hv0,.wid jv1 v1 hv1,.wid jv2 v2 hv2]]=>
  if ju0<=1000000/\ju1<=1000000/\ju2<=1000000/\jv0<=1000000/\jv1<=1000000/\jv2<=1000000 then some (none,.agg [.wid (ju0+jv0+(ju1+jv1)+1+(ju2+jv2)+1) (V3.dot ⟨u0,u1,u2⟩ ⟨v0,v1,v2⟩) (EY hu0 hu1 hu2 hv0 hv1 hv2)]) else none
 |_=>none
def Jk:Dn
 |[.agg [.wid ju0 u0 hu0,.wid ju1 u1 hu1,.wid ju2 u2 hu2],.agg [.wid jv0 v0 hv0,.wid jv1 v1 hv1,.wid jv2 v2 hv2]]=>
  if ju0<=1000000/\ju1<=1000000/\ju2<=1000000/\jv0<=1000000/\jv1<=1000000/\jv2<=1000000 then some (none,.agg [.wid (ju0+jv0+(ju1+jv1)+1+(ju2+jv2)+1) (V3.dot ⟨u0,u1,u2⟩ ⟨v0,v1,v2⟩) (EY hu0 hu1 hu2 hv0 hv1 hv2)]) else none
 |_=>none
def Yz:dW prog 185 Jk:=dC (un:=20) (n:=0) ⟨func185,kr,kr⟩ vI bg λm p v e=>by
 unfold Jk at e;split at e;rename_i B F h D A k E y g s o f r z i x u j;split at e;rename_i d;cases e;refine⟨[.agg [.wid 1000000 F (h.mono d.1),.wid 1000000 A (k.mono d.2.1),.wid 1000000 y (g.mono d.2.2.1)],.agg [.wid 1000000 o (f.mono d.2.2.2.1),.wid 1000000 z (i.mono d.2.2.2.2.1),.wid 1000000 u (j.mono d.2.2.2.2.2)]],fr,ff,ff,λ_=> ?_⟩;conv=>whnf
 exact λ_=>rfl;cases e;cases e
def Ql:List (FuncId×Dn):=(103,Jc)::(185,Jk)::Qy
def BK:dU Ql:= .cons Yr<| .cons Yz<|vI
def zx {a b c d e f g k:Int} (o:a.natAbs<=262144) (hb:b.natAbs<=262144) (x:c.natAbs<=262144) (y:d.natAbs<=262144) (r:e.natAbs<=262144) (z:f.natAbs<=262144) (s:g.natAbs<=262144) (hk:k.natAbs<=262144):((a-b)*(c-d)-(e-f)*(g-k)).natAbs<=549755813888:=by have m:(a-b).natAbs<=524288:=om;have h:(c-d).natAbs<=524288:=om;have j:(e-f).natAbs<=524288:=om;have i:(g-k).natAbs<=524288:=om;have u:=qY m h;have A:=qY j i;omega
def Od {n0 g h} (h0:n0.natAbs<=549755813888) (h1:g.natAbs<=549755813888) (h2:h.natAbs<=549755813888) {a b c d e f} (m:a.natAbs<=262144) (hb:b.natAbs<=262144) (z:c.natAbs<=262144) (r:d.natAbs<=262144) (o:e.natAbs<=262144) (y:f.natAbs<=262144): wr ix (wr ix (wr ix (n0*wr ix (a-b))+wr ix (g*wr ix (c-d)))+wr ix (h*wr ix (e-f)))=n0*(a-b)+g*(c-d)+h*(e-f):=by have k:(a-b).natAbs<=524288:=om;have i:(c-d).natAbs<=524288:=om;have j:(e-f).natAbs<=524288:=om;have x:=qY h0 k;have s:=qY h1 i;have u:=qY h2 j;rw[jI (n:=a-b) om,jI (n:=c-d) om,jI (n:=e-f) om,jI (n:=n0*(a-b)) om,jI (n:=g*(c-d)) om,jI (n:=h*(e-f)) om,jI (n:=n0*(a-b)+g*(c-d)) om];exact jI om
def Oa {e d f j m i k g h r s o} (hb: ∀q∈[e,d,f,j,m,i,k,g,h,r,s,o],q.natAbs<=262144):wr ix (wr ix (wr ix (wr ix (wr ix (wr ix (m-d)*wr ix (h-f))-wr ix (wr ix (i-f)*wr ix (g-d)))*wr ix (r-e))+wr ix (wr ix (wr ix (wr ix (i-f)*wr ix (k-e))-wr ix (wr ix (j-e)*wr ix (h-f)))*wr ix (s-d)))+wr ix (wr ix (wr ix (wr ix (j-e)*wr ix (g-d))-wr ix (wr ix (m-d)*wr ix (k-e)))*wr ix (o-f)))=kD ⟨e,d,f⟩ ⟨j,m,i⟩ ⟨k,g,h⟩ ⟨r,s,o⟩:=by have x:=rX (hb m sp) (hb d sp) (hb h sp) (hb f sp) (hb i sp) (hb f sp) (hb g sp) (hb d sp);have u:=rX (hb i sp) (hb f sp) (hb k sp) (hb e sp) (hb j sp) (hb e sp) (hb h sp) (hb f sp);have y:=rX (hb j sp) (hb e sp) (hb g sp) (hb d sp) (hb m sp) (hb d sp) (hb k sp) (hb e sp);rw[x,u,y];exact Od (zx (hb m sp) (hb d sp) (hb h sp) (hb f sp) (hb i sp) (hb f sp) (hb g sp) (hb d sp)) (zx (hb i sp) (hb f sp) (hb k sp) (hb e sp) (hb j sp) (hb e sp) (hb h sp) (hb f sp)) (zx (hb j sp) (hb e sp) (hb g sp) (hb d sp) (hb m sp) (hb d sp) (hb k sp) (hb e sp)) (hb r sp) (hb e sp) (hb s sp) (hb d sp) (hb o sp) (hb f sp)
def a6n:Dn
 |[.agg [.int x1 _,.int y1 _,.int z1 _],.agg [.int x2 _,.int y2 _,.int z2 _],.agg [.int x3 _,.int y3 _,.int z3 _],.agg [.int x4 _,.int y4 _,.int z4 _]]=>
  some (none,.c (.int (kD ⟨x1,y1,z1⟩ ⟨x2,y2,z2⟩ ⟨x3,y3,z3⟩ ⟨x4,y4,z4⟩).sign (fX _)))
 |_=>none
def yP:Dn
 |[.agg [.int x1 _,.int y1 _,.int z1 _],.agg [.int x2 _,.int y2 _,.int z2 _],.agg [.int x3 _,.int y3 _,.int z3 _],.agg [.int x4 _,.int y4 _,.int z4 _]]=>
  some (none,.c (.int (kD ⟨x1,y1,z1⟩ ⟨x2,y2,z2⟩ ⟨x3,y3,z3⟩ ⟨x4,y4,z4⟩).sign (fX _)))
 |_=>none
def O7:dW prog 213 yP:=Fb (un:=20) (n:=0) ⟨func213,kr,kr⟩ BK xt bg λG p v d=>by
 unfold yP at d;split at d;rename_i I k E o F i D f B e H h M g y m J s L r A j z u;cases d;refine⟨[.agg [.int I k,.int E o,.int F i],.agg [.int D f,.int B e,.int H h],.agg [.int M g,.int y m,.int J s],.agg [.int L r,.int A j,.int z u]],fr,ff,ff,λ_=> ?_⟩;refine zB (λN=> ?_) λ_=> ?_;have O:=Kk (l:=[I,E,F,D,B,H,M,y,J,L,A,z]) N;conv=>whnf
 exact λx=>rm (congrArg Int.sign (Oa O)) x;conv=>whnf
 exact λx=>rm rfl x;cases d
def Qm:List (FuncId×Dn):=(213,yP)::Ql
def vE:dU Qm:= .cons O7<|BK
def a6k:Dn
 |[.agg [.int x1 _,.int y1 _,.int z1 _,.int x2 _,.int y2 _,.int z2 _,.int x3 _,.int y3 _,.int z3 _],.agg [.int x4 _,.int y4 _,.int z4 _,.int x5 _,.int y5 _,.int z5 _,.int x6 _,.int y6 _,.int z6 _]]=>
  some (none,.c (.int ((fc ⟨x1,y1,z1⟩ ⟨x2,y2,z2⟩ ⟨x3,y3,z3⟩).dot (fc ⟨x4,y4,z4⟩ ⟨x5,y5,z5⟩ ⟨x6,y6,z6⟩)).sign (fX _)))
 |_=>none
def yN:Dn
 |[.agg [.int x1 _,.int y1 _,.int z1 _,.int x2 _,.int y2 _,.int z2 _,.int x3 _,.int y3 _,.int z3 _],.agg [.int x4 _,.int y4 _,.int z4 _,.int x5 _,.int y5 _,.int z5 _,.int x6 _,.int y6 _,.int z6 _]]=>
  some (none,.c (.int ((fc ⟨x1,y1,z1⟩ ⟨x2,y2,z2⟩ ⟨x3,y3,z3⟩).dot (fc ⟨x4,y4,z4⟩ ⟨x5,y5,z5⟩ ⟨x6,y6,z6⟩)).sign (fX _)))
 |_=>none
def O5:dW prog 196 yN:=dC (un:=20) (n:=0) ⟨func196,kr,kr⟩ vE bg λE p v d=>by
 unfold yN at d;split at d;rename_i U r M x Q k J f I e T j X h F u V z W y H o G B N g R D O i Y m P s L A;cases d;refine⟨[.agg [.int U r,.int M x,.int Q k,.int J f,.int I e,.int T j,.int X h,.int F u,.int V z],.agg [.int W y,.int H o,.int G B,.int N g,.int R D,.int O i,.int Y m,.int P s,.int L A]],fr,ff,ff,λ_=> ?_⟩;conv=>whnf
 exact λ_=>rfl;cases d
def a8b:Dn
 |[.agg [.int x1 hx1,.int y1 hy1,.int z1 hz1],.agg [.int x2 hx2,.int y2 hy2,.int z2 hz2]]=>
  some (none,.agg [.wid 776 ((V3.sub ⟨x2,y2,z2⟩ ⟨x1,y1,z1⟩).dot (V3.sub ⟨x2,y2,z2⟩ ⟨x1,y1,z1⟩)) (EY (aH (cG hx2) (cG hx1)) (aH (cG hy2) (cG hy1)) (aH (cG hz2) (cG hz1)) (aH (cG hx2) (cG hx1)) (aH (cG hy2) (cG hy1)) (aH (cG hz2) (cG hz1)))])
 |_=>none
def yM:Dn
 |[.agg [.int x1 hx1,.int y1 hy1,.int z1 hz1],.agg [.int x2 hx2,.int y2 hy2,.int z2 hz2]]=>
  some (none,.agg [.wid 776 ((V3.sub ⟨x2,y2,z2⟩ ⟨x1,y1,z1⟩).dot (V3.sub ⟨x2,y2,z2⟩ ⟨x1,y1,z1⟩)) (EY (aH (cG hx2) (cG hx1)) (aH (cG hy2) (cG hy1)) (aH (cG hz2) (cG hz1)) (aH (cG hx2) (cG hx1)) (aH (cG hy2) (cG hy1)) (aH (cG hz2) (cG hz1)))])
 |_=>none
def O4:dW prog 162 yM:=dC (un:=20) (n:=0) ⟨func162,kr,kr⟩ vE bg λk p v d=>by
 unfold yM at d;split at d;rename_i x i r j s h o f m e u g;cases d;refine⟨[.agg [.int x i,.int r j,.int s h],.agg [.int o f,.int m e,.int u g]],fr,ff,ff,λ_=> ?_⟩;conv=>whnf
 exact λ_=>rfl;cases d
def Qn:List (FuncId×Dn):=(196,yN)::(162,yM)::Qm
def NI:dU Qn:= .cons O5<| .cons O4<|vE
end
def uK (p q:V3):Bool:=decide (p.x=q.x)&&(decide (p.y=q.y)&&decide (p.z=q.z))
def V3.at (v:V3):Nat->Int
 |0=>v.x
 |1=>v.y
 |_=>v.z
def s8 (v:V3):Nat:=if v.x≠0 then 0 else if v.y≠0 then 1 else if v.z≠0 then 2 else 3
def xB (a b c d:V3):V3:=(b.sub a).cross (d.sub c)
def As (k:Nat) (a b c d:V3):Bool:=decide (((xB a b a c).at k).sign*((xB a b a d).at k).sign<=0)
def ep (p q:V3):V3:=cond (ew q p) q p
def eV (p q:V3):V3:=cond (ew q p) p q
def J1 (p q r s:V3):Bool:=(cond (uK (ep p q) (eV p q)) (fc (ep r s) (eV r s) (ep p q)).isZ (fc (ep p q) (eV p q) (ep r s)).isZ)&&(!ew (eV p q) (ep r s)&& !ew (eV r s) (ep p q))
def xn (k:Nat) (p q r s:V3):Bool:=decide ((kD p q r s).sign=0)&&(As k p q r s&&As k r s p q)
def iz (p q r s:V3):Bool:=if s8 (xB p q r s)=3 then J1 p q r s else xn (s8 (xB p q r s)) p q r s
def fQ (x y z:Int):Bool:=(decide (0<=x)&&(decide (0<=y)&&decide (0<=z)))||(decide (x<=0)&&(decide (y<=0)&&decide (z<=0)))
def Xi (k:Nat) (a b c p:V3):Bool:=fQ ((xB a b a p).at k).sign ((xB b c b p).at k).sign ((xB c a c p).at k).sign
def nY (p q a b c:V3):Bool:=iz p q a b||(iz p q b c||(iz p q c a||Xi (s8 (fc a b c)) a b c p))
def lB (p q a b c:V3):Bool:=
 if s8 (fc a b c)=3 then iz p q (ep (ep a b) c) (eV (eV a b) c)
 else if 0<(kD a b c p).sign*(kD a b c q).sign then false
 else if(kD a b c p).sign≠0\/(kD a b c q).sign≠0 then fQ (kD p q a b).sign (kD p q b c).sign (kD p q c a).sign
 else nY p q a b c
structure P2 where
 u:Int
 v:Int
def o2 (a b c:P2):Int:=(b.u-a.u)*(c.v-a.v)-(b.v-a.v)*(c.u-a.u)
def hit (u v p q:P2):Prop:=o2 u v p≠o2 u v q/\(o2 u v p).sign*(o2 u v q).sign<=0/\(o2 p q u).sign*(o2 p q v).sign<=0
def VB v:(s8 v=3/\v.x=0/\v.y=0/\v.z=0)\/(s8 v=0/\v.x≠0)\/(s8 v=1/\v.x=0/\v.y≠0)\/(s8 v=2/\v.x=0/\v.y=0/\v.z≠0):=by unfold s8;(repeat' split)<;>simp_all
section
def V3.ext' {p q:V3} (h1:p.x=q.x) (h2:p.y=q.y) (d:p.z=q.z):p=q:=by cases p;cases q;simp_all
def zo {p q}:ew p q=true↔p.x<q.x\/(p.x=q.x/\(p.y<q.y\/(p.y=q.y/\p.z<q.z))):=by unfold ew;by_cases h1:p.x=q.x<;>by_cases h2:p.y=q.y<;>by_cases h3:p.z=q.z<;>simp[h1,h2,h3]<;>omega
def L9 {p q}:ew p q=false↔ ¬(p.x<q.x\/(p.x=q.x/\(p.y<q.y\/(p.y=q.y/\p.z<q.z)))):=by rw[<-zo];simp
def LF {p q}:uK p q=true↔p=q:=by unfold uK;simp only[aG,decide_eq_true_eq];exact⟨λh=>V3.ext' h.1 h.2.1 h.2.2,λh=>by subst h;exact⟨rfl,rfl,rfl⟩⟩
def a40 p q:ep p q=ep q p:=by unfold ep;cases h:ew q p<;>cases g:ew p q<;>first|rfl|(simp only[zo,L9,cond_true,cond_false] at*;apply V3.ext'<;>omega)
def GY p q:eV p q=eV q p:=by unfold eV;cases h:ew q p<;>cases g:ew p q<;>first|rfl|(simp only[zo,L9,cond_true,cond_false] at*;apply V3.ext'<;>omega)
section
variable {s:Int} (hs:0<s) (t:V3)
include hs
end
end
abbrev Rn:=FuncId->List (Nat×Nat)->(Nat->Option aY)->Option (List (List SV))
def noR:Rn:=λ_ _ _=>none
def ROk (R:Rn):Prop:= ∀f d i g,R f d i=some g->eK prog f/\(∀x∈g,∀y∈x,∀e h,y.den e=y.den h)/\ ∀e:fF,
 IterOk prog f (d.map λp=>lF e p.1 p.2).toArray (λk=>((ij [] g k).map (SV.den e)).toArray) (ln g) (λw=> ∀p∈d,∀blk,i p.1=some blk->fq e blk p.1 w)
def a2x:ROk noR:=λ_ _ _ _ h=>by cases h
def Se (un:Nat) (l:List (FuncId×Dn)) (r:List (FuncId×Dr)) (ord:Nat->Bool) (_R:Rn):ic where
 T:=qo
 un:=un
 D:=λf args hf=>match ZM l f args with|some x=>some x|none=>ZN r f args hf
 O:=JS qo
 ord:=ord
 R:=λ_ _ _ _=>False
def Oj {l} (hl:dU l) {r} (e:nN r) un d {R} (_:ROk R):iU prog (Se un l r d R):=⟨eD,(DP hl e un).D,u4 eD,λ_ _ _ _ h=>absurd (show False from h) id,λ_ _ _ _ h=>(show False from h).elim⟩
section
variable {p q r s:V3} {k:Nat}
def ax0 {v} (h:(!decide (v.x.sign=0))=true):s8 v=0:=by
 have:v.x≠0:=λe=>by rw[e] at h;cases h
 unfold s8;rw[if_pos this]
def NF {x:Int} (h:(!decide (x.sign=0))=false):x=0:=a3H.1 (of_decide_eq_true (by simpa using h))
def a3Q {x:Int} (h:(!decide (x.sign=0))=true):x≠0:=λe=>by rw[e] at h;cases h
def ax1 {v:V3} (h:(!decide (v.x.sign=0))=false) (h1:(!decide (v.y.sign=0))=true):s8 v=1:=by have:=NF h;have:=a3Q h1;unfold s8;rw[if_neg om,if_pos om]
def ax2 {v:V3} (h:(!decide (v.x.sign=0))=false) (h1:(!decide (v.y.sign=0))=false) (h2:(!decide (v.z.sign=0))=true):s8 v=2:=by have:=NF h;have:=NF h1;have:=a3Q h2;unfold s8;rw[if_neg om,if_neg om,if_pos om]
def ax3 {v:V3} (h:(!decide (v.x.sign=0))=false) (h1:(!decide (v.y.sign=0))=false) (h2:(!decide (v.z.sign=0))=false):s8 v=3:=by have:=NF h;have:=NF h1;have:=NF h2;unfold s8;rw[if_neg om,if_neg om,if_neg om]
def ZK (x:Int):x.sign.natAbs<=1:=by rcases x with(_|_)|_<;>simp[Int.sign]
def yf (x y:Int):IntKind.i64.wrap (x.sign*y.sign)=x.sign*y.sign:=by apply jI;have e:=ZK x;have d:=ZK y;have:=qY (a:=x.sign) (b:=y.sign) (m:=1) (n:=1) e d;omega
def fl (h1:IR p.x) (h2:IR p.y) (d:IR p.z) (f:IR q.x) (e:IR q.y) (g:IR q.z):IR (ep p q).x/\IR (ep p q).y/\IR (ep p q).z:=by unfold ep;cases ew q p<;>exact⟨aq,aq,aq⟩
def fk (h1:IR p.x) (h2:IR p.y) (d:IR p.z) (f:IR q.x) (e:IR q.y) (g:IR q.z):IR (eV p q).x/\IR (eV p q).y/\IR (eV p q).z:=by unfold eV;cases ew q p<;>exact⟨aq,aq,aq⟩
def Me (h:ew q p=true):ep p q=q:=by unfold ep;rw[h];rfl
def Md (h:ew q p=false):ep p q=p:=by unfold ep;rw[h];rfl
def a4Y (h:ew q p=true):eV p q=p:=by unfold eV;rw[h];rfl
def a4X (h:ew q p=false):eV p q=q:=by unfold eV;rw[h];rfl
def Eg (h:ew p q=true):eV p q=q:=by rw[GY];exact a4Y h
def Ef (h:ew p q=false):eV p q=p:=by rw[GY];exact a4X h
def a6t {f d h1 h2 B D u A g h i o m j} (e:p=f) (E:q=d) ρ:
 (SV.tup [.agg [.int p.x h1,.int p.y h2,.int p.z B],.agg [.int q.x D,.int q.y u,.int q.z A]]).den ρ=(SV.tup [.agg [.int f.x g,.int f.y h,.int f.z i],.agg [.int d.x o,.int d.y m,.int d.z j]]).den ρ:=by subst e E;rfl
def Qo:List (FuncId×Dn):=Qn
def NJ:dU Qo:=NI
def npT (h:decide ((kD p q r s).sign=0)=true) (h1:As k p q r s=true):As k r s p q=xn k p q r s:=by unfold xn;rw[h,h1];rfl
def a2y (h:decide ((kD p q r s).sign=0)=false):false=xn k p q r s:=by unfold xn;rw[h];rfl
def a2z (h1:As k p q r s=false):false=xn k p q r s:=by unfold xn;rw[h1];simp
def EN k a b c d:decide (IntKind.i64.wrap (((xB a b a c).at k).sign*((xB a b a d).at k).sign)<=0)=As k a b c d:=by unfold As;rw[yf]
def Ds (h:s8 (xB p q r s)=k) (hk:k≠3) {b} (e:b=xn k p q r s):b=iz p q r s:=by unfold iz;subst h;rw[if_neg hk];exact e
def NU (h:s8 (xB p q r s)=3) {b} (e:b=J1 p q r s):b=iz p q r s:=by unfold iz;rw[if_pos h];exact e
def a2K {b} (h:uK (ep p q) (eV p q)=b) {f} (d:(cond b (fc (ep r s) (eV r s) (ep p q)).isZ (fc (ep p q) (eV p q) (ep r s)).isZ)=f):J1 p q r s=(f&&(!ew (eV p q) (ep r s)&& !ew (eV r s) (ep p q))):=by unfold J1;rw[h,d]
def pa1 {b} (h:uK (ep p q) (eV p q)=b) (d:(cond b (fc (ep r s) (eV r s) (ep p q)).isZ (fc (ep p q) (eV p q) (ep r s)).isZ)=false):false=J1 p q r s:=(a2K h d).symm
def pa2 {b} (h:uK (ep p q) (eV p q)=b) (d:(cond b (fc (ep r s) (eV r s) (ep p q)).isZ (fc (ep p q) (eV p q) (ep r s)).isZ)=true) (h1:ew (eV p q) (ep r s)=true):false=J1 p q r s:=by rw[a2K h d,h1];rfl
def pa3 {b} (h:uK (ep p q) (eV p q)=b) (d:(cond b (fc (ep r s) (eV r s) (ep p q)).isZ (fc (ep p q) (eV p q) (ep r s)).isZ)=true) (h1:ew (eV p q) (ep r s)=false):(!ew (eV r s) (ep p q))=J1 p q r s:=by rw[a2K h d,h1];rfl
def ZW {b} (h:(!b)=true):b=false:=by simpa using h
def ZU {b} (h:(!b)=false):b=true:=by simpa using h
def Qp:List (FuncId×Dn):=Qo
def BL:dU Qp:=NJ
end
end Go.Proofs.YtlgcobafjbajdaaGreatDoor
