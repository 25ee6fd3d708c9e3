/- w -/
import Derived.Test.YtlgcobafjbajdaaGreatDoorJ01
import Derived.Laws.MakeOwn
import Derived.Laws.IdiomCopy
import Derived.Lib.SliceRun
import Derived.Test.YtlgcobafjbajdaaGreatDoorJ03
import Derived.Lib.LazyBuf
import Derived.Laws.IdiomStrings
import Derived.Test.YtlgcobafjbajdaaGreatDoorProg
import Derived.KernelRfl
namespace Go.Proofs.YtlgcobafjbajdaaGreatDoor
open Tryz
open Go.RowKit
open List renaming append_assoc→aJ,cons→AV,length→ln,map_append→aV,replicate→au
open Nat renaming beq→nu
open Option renaming some→bL
open _root_.Array renaming length_toList→dg,toList_inj→dz
set_option linter.all false
set_option maxRecDepth 100000
set_option maxHeartbeats 4000000
section
def tU (n:Nat) (x:C):List C:=au n x
def oX {x} (hx:x.n=1): ∀n,bu (tU n x)=n
 |0=>rfl
 |n+1=>by show x.n+bu (tU n x)=n+1;rw[hx,oX hx n];omega
def te {x v ρ} (hx:x.cells ρ=[v]): ∀n,af ρ (tU n x)=au n v
 |0=>rfl
 |n+1=>by show af ρ (x::tU n x)=_;rw[cO,hx,te hx n];rfl
def Bk z n:madeCells #[z] n=(au n z).toArray:=by apply Array.ext;rw[size_madeCells];simp;intro i e d;have:i % 1=0:=Nat.mod_one i;simp[madeCells,this]
def Mn (T:TypeId->Option TI) (o:Oper) (d:List SV) (hp:List aY) (K:List SV->List aY->Prop):Prop:=
 match o.op with
 | .makeSlice t l c=>(match T t,gv d l,gv d c with
  |some {sh:= .slice e _ [x], .. },.c (.int a _),.c (.int b _)=>x.n=1/\ ∃n m:Nat,a=n/\b=m/\n<=m/\m<=1000000000/\
   ∀g:bZ false n m,jQ hp ⟨e,false,tU n x,m-n⟩ λf=>pE hp λk=>fI o.dst (.c (.sli false k 0 n m g)) d λd=>K d f
  |_,_,_=>sQ o 31 (kU o d))
 |_=>rY T o d hp K
section
variable {P:Program} {T:TypeId->Option TI} (hT:Fw P T)
include hT
omit hT in
def KG {o:Oper} {t:TypeId} {l c:Operand} (ho:o.op= .makeSlice t l c) {a:Act} {w:World} {next:Act->World->Prop} {Q:Exit->Act->World->Prop} {v:Value} {w':World} (d:(Instr.makeSlice t (a.eval l) (a.eval c)).run P w= .ok v w') (e:next (a.put o.dst v) w'):o.wp P a w next Q:=by unfold Oper.wp execOp;simp only[ho,aX,bc,aB,d];exact e
def G7:yl P (Mn T):=by
 intro o L p K h N w0 a w next Q E hn
 unfold Mn at h;split at h;rename_i t l c a1;split at h;rename_i sz ag z e a6 x eq la ha ca hb F W hc;obtain⟨hx,n,m,rfl,rfl,a0,hm,h⟩:=h;obtain⟨i,z0,hu,hi,hz,a4,U,h0,Y⟩:=EU hT F;obtain⟨f,hh,I,hd⟩:=E;have V: ∀d,gt (an p) d f->a.eval=gI (gv L) d:=λd u=>fP (I d u);have q:=V f (gt.refl _ _);have G: ∀d,(i.zero.map Value.cells)=some (af d [x]).toArray:=λd=>by obtain⟨-,-,-,-,-,R⟩:=ia hT F;have:=(R d).1;rw[hi] at this;simpa using this
 have J:z0.cells.toList=af f [x]:=by have:=G f;rw[hz] at this;simp only[dA,bL.injEq] at this;rw[this]
 have O: ∀d,∃v,x.cells d=[v]:=λd=>by
  (have W:(x.cells d).length=1:=by rw[<-hx];exact(C.cells_length d x))
  match hc:x.cells d,W with
  |[v],_=>exact⟨v,rfl⟩
 obtain⟨B,Z⟩:=O f;have r:z0.cells= #[B]:=by apply dz.1;rw[J,cO,Z];rfl
 have M: ∀d,x.cells d=[B]:=λd=>by have:=G d;rw[hz] at this;simp only[dA,bL.injEq] at this;rw[r,cO] at this;have h3:=congrArg Array.toList this;simpa[af] using h3.symm
 have D:i.size=1:=by rw[<-a4,r];rfl
 have h2:bZ false n m:=⟨a0,om,λh=>by cases h⟩;have A:=h h2;rw[eW,gq,dp] at A;have X:a.eval l= .int .i64 n:=by rw[q];show(gv L l).den f=_;rw[W];rfl
 have a2:a.eval c= .int .i64 m:=by rw[q];show(gv L c).den f=_;rw[hc];rfl
 have a7:i.bytes*m<=281474976710656:=by (have h1:i.bytes<=24:=by rw[<-U,D] at Y;omega);have:=gd h1 hm;omega
 have H:(i.bytes:Int)*(m:Int)<=281474976710656:=by have:((i.bytes*m:Nat):Int)<=281474976710656:=om;rwa[Int.natCast_mul] at this
 have E:=run_make (P:=P) w t e i z0 hu hi hz .i64 .i64 n m om om H om;simp only[bW,D,gE,r] at E;have g:an p (ln p)=none:=fY p;have s: ∀(b:aY),an (p++[b])=df (an p) (ln p) b:=λb=>fi _ _;have y:(w.alloc (.cells (madeCells #[B] m) e)).heap[w.heap.size]? =some (.cells (au n B++au (m-n) B).toArray e (0,0)):=by rw[Fq,show n+(m-n)=m by omega,<-Bk];exact heap_alloc_new w _
 refine KG a1 (by rw[X,a2];exact E) (hn _ _ _ _ A (iN.put (ρ1:=ig f (ln p) (w.heap.size,0)) I hd ?_ (λj hj=> ?_) o.dst λd u=> ?_));rw[s];exact hh.app g (World.grownBy_alloc w _ none) (λk A=>by cases A) (λk A=>by cases A) (.inr rfl) rfl y sp (λd _=>te (M d) n);rw[s];exact n7 g j hj;have a5:d (ln p)=(w.heap.size,0):=by rw[u _ (by rw[s];unfold df;rw[if_pos rfl];rfl)];unfold ig;rw[if_pos rfl]
 simp[SV.den,C.den,C.cells,jK,a5];cases h;exact pK hT o L p K h E hn
end
def JT (T:TypeId->Option TI) (o:Oper) (f:List SV) (hp:List aY) (K:List SV->List aY->Prop):Prop:=
 match o.op with
 | .call c=>(match c.callee,c.args.toList,c.argTypes.toList with
  | .builtin .append,[s,x],[t,t']=>if t=t' then(match T t with
   |some {sh:= .slice e esz _, .. }=>YE esz (gv f x) hp λm k=>(match gv f s with
    | .c (.sli p b i len g h)=>(len=0/\g=0/\m*esz<=5000000000000)/\(m=0->fI o.dst (.c (.sli p b i len g h)) f λf=>K f hp)/\
     (0<m-> ∀d h2,jQ hp ⟨e,false,k,(d-m)*esz⟩ λj=>pE hp λn=>fI o.dst (.c (.sli false n 0 m d h2)) f λf=>K f j)
    |_=>False)
   |_=>False) else False
  |_,_,_=>False)
 |_=>False
section
variable {P:Program} {T:TypeId->Option TI} (hT:Fw P T)
def sr w sz a:(Builtin.firstCells sz 0 (.slice a 0 0)).run P w= .ok #[] w:=by
 cases a with
 |none=>exact run_firstCells_none w sz 0 0 0
 |some a=>exact run_firstCells_some w sz 0 a 0 0 [] sp (λj u d=>by simp at d)
include hT
def OO:yl P (JT T):=by
 intro o tm y K h N w0 a w next Q L hn
 unfold JT at h;split at h;rename_i c W;split at h;rename_i s x t t' Z q E;split at h;rename_i a4;subst a4;split at h;rename_i sz ag z e b8 ez eq a9;obtain⟨i,z0,hu,hi,hz,a8,a5,h0,a6⟩:=EU hT a9;subst a5;obtain⟨m,ms,h,X,D⟩:=MT hT hu h;split at h;rename_i nl b F len b7 hl hs;obtain⟨⟨rfl,rfl,hm⟩,a2,a1⟩:=h;obtain⟨d,hh,I,hd⟩:=L;have H: ∀p,gt (an y) p d->a.eval=gI (gv tm) p:=λp f=>fP (I p f);have R:=H d (gt.refl _ _);have hS:Src P i.size t (a.eval x) m (af d ms) w:=by rw[R];exact D (hh.holds d (gt.refl _ _))
 have V: ∀p,gt (an y) p d->af p ms=af d ms:=λp f=>by (have h1:Src P i.size t (a.eval x) m (af p ms) w:=by rw[H p f];exact D (hh.holds p f));exact HJ h1 hS
 have r: ∀{k},k*i.size<=5000000000000->k*i.bytes<=140737488355328/\k<=maxLen:=λ{k} A=>by have h1:k*i.bytes<=k*(24*i.size):=eu _ a6;(have h2:k*(24*i.size)=24*(k*i.size):=by rw[Nat.mul_left_comm]);have h3:k*1<=k*i.size:=eu _ h0;unfold maxLen;omega
 have B: ∀p,gt (an y) p d->a.eval s= .slice (jK nl ⟨(p b).1,(p b).2+F,none⟩) 0 0:=λp f=>by rw[H p f];show(gv tm s).den p=_;rw[hs];rfl
 by_cases hm0:m=0;subst hm0;have A:=a2 rfl;rw[dp] at A;rw[jw] at X;have b2:=ws X;subst b2;have L:=run_append_nothing (P:=P) w t t o.type e i hu hi (jK nl ⟨(d b).1,(d b).2+F,none⟩) 0 0 (ai _) (a.eval x) hS;refine kS W Z q E (by rw[B d (gt.refl _ _)];exact L) (hn _ _ _ _ A (iN.put (ρ1:=d) I hd hh (λj hj=>⟨hj,rfl⟩) o.dst λp f=> ?_));have e1:=B p f;rw[B d (gt.refl _ _)] at e1;exact e1;obtain⟨w',g,M,O,L,hg,U,b6,b5,a0,a7,J⟩:=C9 (P:=P) w t t o.type e i z0 hu hi hz a8 (jK nl ⟨(d b).1,(d b).2+F,none⟩) 0 0 [] sp (sr _ _ _) hS om (by have:=(r hm).2;omega) (by rw[aN];exact(r hm).1) none;simp only[aN,ge] at L U a0;have A:=a1 om M ⟨U,by simpa[maxLen] using b6,λh=>by cases h⟩;rw[eW,gq,dp] at A;have Y:O=(af d ms++O.toList.drop (m*i.size)).toArray:=by rw[<-a0,List.take_append_drop]
 rw[Y] at hg;have u:an y (ln y)=none:=fY y;have G: ∀b,an (y++[b])=df (an y) (ln y) b:=λb=>fi _ _;refine kS W Z q E (by rw[B d (gt.refl _ _)];exact L) (hn _ _ _ _ A (iN.put (ρ1:=ig d (ln y) (g,0)) I hd ?_ (λj hj=> ?_) o.dst λp f=> ?_));rw[G];refine hh.app u J (λk A=>by cases A) (λk A=>by cases A) a7 rfl hg ?_ (λp f=>V p f);rw[bN,dg,b5,<-Nat.sub_mul];rw[G];exact n7 u j hj;have b3:p (ln y)=(g,0):=by rw[f _ (by rw[G];unfold df;rw[if_pos rfl];rfl)];unfold ig;rw[if_pos rfl]
 simp[SV.den,C.den,C.cells,jK,b3];exact h.elim;exact h.elim;exact h.elim;exact h.elim;exact h.elim
end
def lR (T:TypeId->Option TI) (o:Oper) (e:List SV) (hp:List aY) (K:List SV->List aY->Prop):Prop:=
 match o.op with
 | .call c=>(match c.callee,c.args.toList,c.argTypes.toList with
  | .builtin .append,_,_=>rY T o e hp K\/JT T o e hp K
  | .builtin .clear,[s],[t]=>(match T t,gv e s with
   |some {sh:= .slice _ _ [x], .. },.c (.sli false b off n _ _)=>(match an hp b with
    |some ⟨f,false,cs,tl⟩=>x.n=1/\gJ [x]=true/\ ∃A m B,cs=A++(m++B)/\bu A=off/\bu m=n/\fU hp b ⟨f,false,A++(tU n x++B),tl⟩ λhp=>fI o.dst (.tup []) e λe=>K e hp
    |_=>sQ o 32 (kU o e))
   |_,_=>sQ o 33 (kU o e))
  | .builtin .copy,[d,s],[t,_]=>(match T t,gv e d,gv e s with
   |some {sh:= .slice _ _ [x], .. },.c (.sli false b off n _ _),.c (.sli false b2 off2 n2 _ _)=>(match an hp b,an hp b2 with
    |some ⟨f,false,cs,tl⟩,some blk2=>x.n=1/\ ∃k hk A m B ms,k=min n2 n/\cs=A++(m++B)/\bu A=off/\bu m=k/\dk blk2.cs off2 k=some ms/\gJ ms=true/\
     fU hp b ⟨f,false,A++(ms++B),tl⟩ λhp=>fI o.dst (.c (.int k hk)) e λe=>K e hp
    |_,_=>sQ o 34 (kU o e))
   |_,_,_=>sQ o 35 (kU o e))
  |_,_,_=>Mn T o e hp K)
 |_=>Mn T o e hp K
def zZ {ρ w b ty A m B f} (h:fq ρ ⟨ty,false,A++(m++B),f⟩ b w) {M} (i:ln M=bu m): ∃t:List Value,ln t=f/\(w.setCells (ρ b).1 (bu A) M).heap[(ρ b).1]? =some (.cells (af ρ A++(M++af ρ B)++t).toArray ty (0,0)):=by
 obtain⟨t,g,d⟩:=(h.2 rfl).2;refine⟨t,g,?_⟩;have e:af ρ (A++(m++B))++t=af ρ A++(af ρ m++(af ρ B++t)):=by simp only[bp,aJ]
 have d:w.heap[(ρ b).1]? =some (.cells (af ρ A++(af ρ m++(af ρ B++t))).toArray ty (0,0)):=by rw[<-e];exact d
 have:=kO (W:=w) M (bu A) _ _ _ (cU ρ A).symm (by rw[<-cU ρ m,i]) d;rw[this];simp only[aJ]
section
variable {P:Program} {T:TypeId->Option TI} (hT:Fw P T)
include hT
omit hT in
def Ia {o:Oper} {c:Call} {x:Operand} {t:TypeId} (ho:o.op= .call c) (g:c.callee= .builtin .clear) (e:c.args.toList=[x]) (f:c.argTypes.toList=[t]) {a:Act} {w:World} {next:Act->World->Prop} {Q:Exit->Act->World->Prop} {v:Value} {w':World} (m:(Builtin.clear_ #[t] o.type #[a.eval x]).run P w= .ok v w') (k:next (a.put o.dst v) w'):o.wp P a w next Q:=by obtain⟨p,d,h⟩:=c;simp only at g e f;subst g;have i:d= #[x]:=dz.1 (by rw[e]);have j:h= #[t]:=dz.1 (by rw[f]);subst i;subst j;unfold Oper.wp execOp;simp only[ho,resolve,invoke,builtin,aX,bc,aB,a8U,aI,dj,m];exact k
omit hT in
def KF {o:Oper} {c:Call} {x y:Operand} {t e:TypeId} (ho:o.op= .call c) (h:c.callee= .builtin .copy) (f:c.args.toList=[x,y]) (g:c.argTypes.toList=[t,e]) {a:Act} {w:World} {next:Act->World->Prop} {Q:Exit->Act->World->Prop} {v:Value} {w':World} (p:(Builtin.copy_ #[t,e] o.type #[a.eval x,a.eval y]).run P w= .ok v w') (m:next (a.put o.dst v) w'):o.wp P a w next Q:=by obtain⟨q,d,i⟩:=c;simp only at h f g;subst h;have j:d= #[x,y]:=dz.1 (by rw[f]);have k:i= #[t,e]:=dz.1 (by rw[g]);subst j;subst k;unfold Oper.wp execOp;simp only[ho,resolve,invoke,builtin,aX,bc,aB,a8U,aI,dj,p];exact m
omit hT in
def EJ w t e ty z d (k:P.underlying t=some (.slice e)) (hv: ∀w,(zeroValue e).run P w= .ok z w) (p:z.cells= #[d]) (h1:d.oneCell'=true) b o n c (u:0<n) (q: ∀j,j<n->(w.cell? ⟨b,o+j,none⟩).isSome=true) (r: ∀j,j<n->w.frozen? ⟨b,o+j,none⟩=false): (Builtin.clear_ #[t] ty #[.slice (some ⟨b,o,none⟩) n c]).run P w= .ok (.tuple #[]) (w.setCells b o (au n d)):=by
 have g:(Builtin.zeroCells z.cells n).toList=au n d:=by rw[p];simp[Builtin.zeroCells];apply jg;simp;intro i h1 s;simp[Nat.mod_one]
 have f:=run_storeCells_cells (P:=P) b o (au n d) 0 w (by simpa using q) (by simpa using r) (by intro v h;rw[a6J h];exact h1);simp only[fM] at f;obtain⟨m,rfl⟩: ∃m,n=m+1:=⟨n-1,om⟩;simp[Builtin.clear_,run_underlying k,hv,g,f]
def Tx {t e j x sz p z eq} (h:T t=some ⟨sz,p,z,.slice e j [x],eq⟩) (hx:x.n=1): ∃i v0,P.underlying t=some (.slice e)/\P.info? e=some i/\i.size=1/\(∃z0,i.zero=some z0/\z0.cells= #[v0])/\ ∀ρ,x.cells ρ=[v0]:=by
 obtain⟨i,z0,s,o,m,k,y,A,r⟩:=EU hT h;have f: ∀ρ,z0.cells=(af ρ [x]).toArray:=λρ=>by obtain⟨-,-,-,-,-,g⟩:=ia hT h;have:=(g ρ).1;rw[o] at this;simpa[m] using this
 have q: ∀ρ,(x.cells ρ).length=1:=λρ=>by rw[<-hx];exact C.cells_length ρ x
 obtain⟨v0,hv0⟩: ∃v,x.cells (λ_=>(0,0))=[v]:=by
  match hc:x.cells (λ_=>(0,0)),q (λ_=>(0,0)) with
  |[v],_=>exact⟨v,rfl⟩
 have d:z0.cells= #[v0]:=by rw[f (λ_=>(0,0)),cO,hv0];rfl
 refine⟨i,v0,s,o,by rw[<-k,d];rfl,⟨z0,m,d⟩,λρ=> ?_⟩;have:=f ρ;rw[d,cO] at this;have u:=congrArg Array.toList this;simpa[af] using u.symm
def gy:yl P (lR T):=by
 intro o W hp K h N w0 a w next Q I hn
 unfold lR at h;split at h;rename_i c b8;split at h;rcases h with h|h;exact pK hT o W hp K h I hn;exact OO hT o W hp K h I hn;rename_i s t b3 D O;split at h;rename_i sz ag z e c7 x eq b c4 n J hl a7 hs;split at h;rename_i ty cs tl H;obtain⟨hx,h1,A,m,B,rfl,rfl,rfl,h⟩:=h;obtain⟨i,v0,hu,hi,b7,⟨z0,hz,d0⟩,a0⟩:=Tx hT a7 hx;obtain⟨f,hh,V,hd⟩:=I;have a4: ∀q,gt (an hp) q f->a.eval=gI (gv W) q:=λq g=>fP (V q g);have F:=a4 f (gt.refl _ _);rw[dR,dp] at h;have hH:=hh.holds f (gt.refl _ _) b _ H;have h0:=(hH.2 rfl).1;have b6:a.eval s= .slice (some ⟨(f b).1,bu A,none⟩) (bu m) J:=by rw[F];show(gv W s).den f=_;rw[hs];simp[SV.den,C.den,C.cells,jK,h0]
 have c8:v0.oneCell'=true:=by have:=oa f h1 v0 (by rw[cO,a0 f];simp[af]);exact this
 have G:(Builtin.clear_ #[t] o.type #[.slice (some ⟨(f b).1,bu A,none⟩) (bu m) J]).run P w= .ok (.tuple #[]) (w.setCells (f b).1 (bu A) (au (bu m) v0)):=by rcases cX (bu m) with a6|a6;rw[a6];simp[Builtin.clear_,run_underlying hu,World.setCells];obtain⟨-,t0,c2,r⟩:=hH.2 rfl;(have E: ∀j,j<bu m-> ∃u,w.cell? ⟨(f b).1,bu A+j,none⟩=some u:=λj L=>by rw[cell_of_row _ _ _ _ _ _ r];simp only[cf];(have p:bu A+j<(af f (A++(m++B))++t0).length:=by rw[aa,<-cU,cw,cw];omega);exact⟨_,ae p⟩);refine EJ w t e o.type z0 v0 hu (λw=> ?_) d0 c8 _ _ _ _ a6 (λj L=> ?_) (λj L=>frozen_of_row _ _ _ _ _ r);simp[zeroValue,typeInfo,hi,hz];obtain⟨u,c5⟩:=E j L;rw[c5];rfl
 have a5:(au (bu m) v0).length=bu m:=bb;refine Ia b8 b3 D O (by rw[b6];exact G) (hn _ _ _ _ h (iN.put (ρ1:=f) V hd ?_ (λj L=> ?_) o.dst λq g=>rfl));rw[dt _ _ _ _ H];exact hh.put (blk:=⟨ty,false,A++(m++B),tl⟩) H rfl λq g=>by have b5:q b=f b:=g b (by rw[H];rfl);obtain⟨t1,a8,hk⟩:=zZ (hh.holds q g b _ H) a5;rw[b5] at hk;refine⟨t1,a8,?_⟩;rw[hk,bp,bp,te (a0 q)]
 rw[dt _ _ _ _ H];refine⟨?_,rfl⟩;unfold df;split;rfl;exact L;cases h;cases h;rename_i d s t t' b3 D O;split at h;rename_i sz ag z e c7 x eq b c4 n J hl Z U n2 Y d4 a7 c9 hs;split at h;rename_i ty cs tl b9 H c0;obtain⟨hx,k,d3,A,m,B,ms,d1,rfl,rfl,d2,c1,h1,h⟩:=h;obtain⟨i,v0,hu,hi,b7,-,a0⟩:=Tx hT a7 hx;obtain⟨f,hh,V,hd⟩:=I;have a4: ∀q,gt (an hp) q f->a.eval=gI (gv W) q:=λq g=>fP (V q g);have F:=a4 f (gt.refl _ _);rw[dR,dp] at h;have hH:=hh.holds f (gt.refl _ _) b _ H;have h0:=(hH.2 rfl).1;have c3:a.eval d= .slice (some ⟨(f b).1,bu A,none⟩) n J:=by rw[F];show(gv W d).den f=_;rw[c9];simp[SV.den,C.den,C.cells,jK,h0]
 have b6:a.eval s= .slice (some ⟨(f Z).1,(f Z).2+U,none⟩) n2 Y:=by rw[F];show(gv W s).den f=_;rw[hs];simp[SV.den,C.den,C.cells,jK]
 have c6:(P.info? e).map (·.size)=some 1:=by rw[hi];simp[b7]
 obtain⟨X,R,e1,e2,e3⟩:=gr c1;have y: ∀q,gt (an hp) q f-> ∀j v,(af q ms)[j]? =some v->w.cell? ((Addr.mk (f Z).1 ((f Z).2+U) none).add j)=some v:=λq g j v L=>by have I:=(hh.holds q g Z b9 c0).1;rw[e1,bp,bp,g Z (by rw[c0];rfl)] at I;have I:=oQ I;rw[<-cU,e2] at I;rw[Addr.add_mid];exact I j v L
 have p: ∀q,(af q ms).length=k:=λq=>by rw[<-cU];exact e3
 have a9: ∀q,gt (an hp) q f->af q ms=af f ms:=λq g=>by apply jg (by rw[p,p]);intro j h1 h2;have a1:=y q g j _ (ae h1);have a2:=y f (gt.refl _ _) j _ (ae h2);rw[a1] at a2;exact bL.inj a2
 obtain⟨-,t0,c2,r⟩:=hH.2 rfl;have E: ∀j,j<(af f ms).length->(w.cell? ⟨(f b).1,bu A+j,none⟩).isSome=true:=λj L=>by rw[p] at L;rw[cell_of_row _ _ _ _ _ _ r];simp only[cf];(have p:bu A+j<(af f (A++(m++B))++t0).length:=by rw[aa,<-cU,cw,cw];omega);rw[ae p];rfl
 have G:=run_copy_cells (P:=P) w t t' o.type e (f b).1 (bu A) n J ⟨(f Z).1,(f Z).2+U,none⟩ n2 Y (af f ms) hu c6 (by rw[p,d1]) (y f (gt.refl _ _)) E (λj _=>frozen_of_row _ _ _ _ _ r) (oa f h1);rw[p] at G;refine KF b8 b3 D O (by rw[c3,b6];exact G) (hn _ _ _ _ h (iN.put (ρ1:=f) V hd ?_ (λj L=> ?_) o.dst λq g=>rfl));rw[dt _ _ _ _ H];exact hh.put (blk:=⟨ty,false,A++(m++B),tl⟩) H rfl λq g=>by have b5:q b=f b:=g b (by rw[H];rfl);obtain⟨t1,a8,hk⟩:=zZ (hh.holds q g b _ H) (M:=af f ms) (by rw[p,d2]);rw[b5] at hk;refine⟨t1,a8,?_⟩;rw[hk,bp,bp,a9 q g]
 rw[dt _ _ _ _ H];refine⟨?_,rfl⟩;unfold df;split;rfl;exact L;cases h;cases h;exact G7 hT o W hp K h I hn;exact G7 hT o W hp K h I hn
end
end
section
def bsC (l:List UInt8):List C:=l.map λb=> .val (.int .u8 (b.toNat:Int))
def oe ρ: ∀l:List UInt8,af ρ (bsC l)=l.map λb=>Value.int .u8 (b.toNat:Int)
 |[]=>rfl
 |b::l=>by rw[bsC,aI,cO,aI,<-oe ρ l];rfl
def JS (T:TypeId->Option TI) (o:Oper) (f:List SV) (hp:List aY) (K:List SV->List aY->Prop):Prop:=
 match o.op with
 | .binOp h t x y _=>(match h,T t,gv f x,gv f y with
  | .eql,some {sh:= .slice _ _ _, .. },.c (.sli nl _ _ _ _ _),.c (.val (.slice none 0 0))=>fI o.dst (.c (.val (.bool nl))) f λf=>K f hp
  | .neq,some {sh:= .slice _ _ _, .. },.c (.sli nl _ _ _ _ _),.c (.val (.slice none 0 0))=>fI o.dst (.c (.val (.bool (!nl)))) f λf=>K f hp
  |_,_,_,_=>sQ o 41 (kU o f))
 | .convert s d x=>(match T s,T d,gv f x with
  |some {sh:= .slice e _ _, .. },some {sh:= .string, .. },.c (.sli nl b off n _ _)=>(match T e,an hp b with
   |some {sh:= .int .u8, .. },some blk=> ∃l:List UInt8,ln l=n/\(nl=false\/n=0)/\dk blk.cs off n=some (bsC l)/\fI o.dst (.c (.val (.string ⟨l.toArray⟩))) f λf=>K f hp
   |_,_=>sQ o 42 (kU o f))
  |some {sh:= .string, .. },some {sh:= .slice e _ _, .. },.c (.val (.string s))=>(match T e with
   |some {sh:= .int .u8, .. }=>s.size<=9223372036854775807/\ ∀g h2,jQ hp ⟨e,true,bsC s.data.toList,0⟩ λi=>pE hp λk=>fI o.dst (.c (.sli false k 0 s.size g h2)) f λf=>K f i
   |_=>sQ o 43 (kU o f))
  |_,_,_=>sQ o 44 (kU o f))
 |_=>lR T o f hp K
section
variable {P:Program} {T:TypeId->Option TI} (hT:Fw P T)
def wL {o:Oper} {d:BinOp} {t e:TypeId} {x y:Operand} (ho:o.op= .binOp d t x y e) {a:Act} {w:World} {next:Act->World->Prop} {Q:Exit->Act->World->Prop} {v:Value} {w':World} (f:(eqGuard d t x y (a.eval x) (a.eval y)).run P w= .ok () w) (g:(binOp d t (a.eval x) (a.eval y)).run P w= .ok v w') (h:next (a.put o.dst v) w'):o.wp P a w next Q:=by unfold Oper.wp execOp;simp only[ho,aX,bc,aB,f,g];exact h
def AO {o:Oper} {s d:TypeId} {x:Operand} (ho:o.op= .convert s d x) {a:Act} {w:World} {next:Act->World->Prop} {Q:Exit->Act->World->Prop} {v:Value} {w':World} (e:(convert s d (a.eval x)).run P w= .ok v w') (f:next (a.put o.dst v) w'):o.wp P a w next Q:=by unfold Oper.wp execOp;simp only[ho,aX,bc,aB,e];exact f
def dv.addRo {N w0 u ρ0 w w'} (h:dv N w0 u ρ0 w) (hb:Below w.heap.size w w') (hlt:w.heap.size<w'.heap.size) {n} (J:u n=none) {v} (hro:v.ro=true) (r:v.mapOf=none) (H:v.famOf=none) (hp:cC v.cs) (O:w'.rangeAt w.heap.size 0 (af ρ0 v.cs)):dv N w0 (df u n v) (ig ρ0 n (w.heap.size,0)) w':=by
 have o:=h.below hb;have f: ∀{i c},i≠n->df u n v i=some c->u i=some c:=λd g=>by unfold df at g;rwa[if_neg d] at g
 have hat: ∀{c},df u n v n=some c->c=v:=λg=>by unfold df at g;rw[if_pos rfl] at g;cases g;rfl
 have E:ig ρ0 n (w.heap.size,0) n=(w.heap.size,0):=by unfold ig;rw[if_pos rfl]
 have m: ∀{i},i≠n->ig ρ0 n (w.heap.size,0) i=ρ0 i:=λd=>by unfold ig;rw[if_neg d]
 refine⟨λi b d F=> ?_,λi b d p=> ?_,λi j b c d p s F q=> ?_,λB y i b d=> ?_,o.bel,o.big,λi d=> ?_,λi b e d D=> ?_,λi j b c d s hb g q=> ?_,o.fam.up (λi b d M=> ?_) λj c s g=> ?_⟩;by_cases e:i=n;subst e;rw[E];exact hlt;rw[m e];exact o.old i b (f e d) F;by_cases e:i=n;subst e;rw[hat d,hro] at p;cases p;rw[m e];exact o.own i b (f e d) p;by_cases ei:i=n;subst ei;rw[hat d,hro] at p;cases p;by_cases ej:j=n;subst ej;rw[E,m ei];have:=h.old i b (f ei d) (fH p);show w.heap.size≠_;omega;rw[m ei,m ej];exact o.apart i j b c (f ei d) p (f ej s) F q;by_cases e:i=n;subst e;have:=hat d;subst this;have A:B i=(w.heap.size,0):=by rw[y i (by rw[d];rfl),E]
 refine⟨?_,λL=>by rw[hro] at L;cases L⟩;have G:af B b.cs=af ρ0 b.cs:=hp B ρ0;rw[A,G];exact O;exact o.holds B (λk I=>by (have z:k≠n:=λe=>by rw[e,J] at I;cases I);rw[y k (by unfold df;rw[if_neg z];exact I),m z]) i b (f e d);have:=o.ext i d;have x:i≠n:=λe=>by rw[e,J] at this;exact absurd this.1 sp
 exact⟨by unfold df;rw[if_neg x];exact this.1,by rw[m x];exact this.2⟩;by_cases e2:i=n;subst e2;rw[hat d,r] at D;cases D;rw[m e2];exact o.maps i b e (f e2 d) D;by_cases ei:i=n;subst ei;rw[hat d,r] at hb;cases hb;by_cases ej:j=n;subst ej;rw[hat s,r] at g;cases g;rw[m ei,m ej];exact o.mapA i j b c (f ei d) (f ej s) hb g q;by_cases ei:i=n;subst ei;rw[hat d,H] at M;cases M;exact⟨i,b,f ei d,rfl⟩;by_cases ej:j=n;subst ej;rw[hat s,hro] at g;cases g;exact .inl ⟨j,c,f ej s,g,by rw[m ej]⟩
def zT nl a:(jK nl a).isNone=nl:=by cases nl<;>rfl
include hT
def o0 {t e d f sz g z eq} (h:T t=some ⟨sz,g,z,.slice e d f,eq⟩):P.underlying t=some (.slice e):=(hT _ _ h).sh.1
def wH {t k sz d z eq} (h:T t=some ⟨sz,d,z,.int k,eq⟩):P.underlying t=some (.int k):=(hT _ _ h).sh
def wI {t sz d z eq} (h:T t=some ⟨sz,d,z,.string,eq⟩):P.underlying t=some .string:=(hT _ _ h).sh
def u4:yl P (JS T):=by
 intro o E B K h N w0 a w next Q F hn
 unfold JS at h;split at h;rename_i c0 t x y yt D;split at h;rename_i sz ag z e Y ez eq M b r n q hl Z hx hy;obtain⟨f,O,p,V⟩:=F;have u: ∀k,gt (an B) k f->a.eval=gI (gv E) k:=λk m=>fP (p k m);have g:=u f (gt.refl _ _);rw[dp] at h;have I:a.eval x= .slice (jK M ⟨(f b).1,(f b).2+r,none⟩) n q:=by rw[g];show(gv E x).den f=_;rw[hx];rfl
 have ey:a.eval y= .slice none 0 0:=by rw[g];show(gv E y).den f=_;rw[hy];rfl
 have i:=run_eql_slice_nil (P:=P) w t e (jK M ⟨(f b).1,(f b).2+r,none⟩) n q (o0 hT Z);rw[zT] at i;refine wL D (by rw[I,ey];simp[eqGuard]) (by rw[I,ey];exact i) (hn _ _ _ _ h (iN.put (ρ1:=f) p V O (λj A=>⟨A,rfl⟩) o.dst λk m=>rfl));rename_i sz ag z e Y ez eq M b r n q hl Z hx hy;obtain⟨f,O,p,V⟩:=F;have u: ∀k,gt (an B) k f->a.eval=gI (gv E) k:=λk m=>fP (p k m);have g:=u f (gt.refl _ _);rw[dp] at h;have I:a.eval x= .slice (jK M ⟨(f b).1,(f b).2+r,none⟩) n q:=by rw[g];show(gv E x).den f=_;rw[hx];rfl
 have ey:a.eval y= .slice none 0 0:=by rw[g];show(gv E y).den f=_;rw[hy];rfl
 have i:=run_neq_slice_nil (P:=P) w t e (jK M ⟨(f b).1,(f b).2+r,none⟩) n q (o0 hT Z);rw[zT] at i;refine wL D (by rw[I,ey];simp[eqGuard]) (by rw[I,ey];exact i) (hn _ _ _ _ h (iN.put (ρ1:=f) p V O (λj A=>⟨A,rfl⟩) o.dst λk m=>rfl));cases h;rename_i s d x D;split at h;rename_i sz ag z e Y ez eq a4 a2 z2 a9 M b r n q hl H J hx;split at h;rename_i b8 a1 z3 a7 blk L hb;obtain⟨l,b5,a5,a0,h⟩:=h;obtain⟨f,O,p,V⟩:=F;have u: ∀k,gt (an B) k f->a.eval=gI (gv E) k:=λk m=>fP (p k m);have g:=u f (gt.refl _ _);rw[dp] at h;have I:a.eval x= .slice (jK M ⟨(f b).1,(f b).2+r,none⟩) n q:=by rw[g];show(gv E x).den f=_;rw[hx];rfl
 obtain⟨X,R,e1,e2,e3⟩:=gr a0;have W: ∀j (A:j<ln l),w.cell? ((Addr.mk (f b).1 ((f b).2+r) none).add j)=some (.int .u8 (l[j].toNat:Int)):=λj A=>by have F:=(O.holds f (gt.refl _ _) b blk hb).1;rw[e1,bp,bp] at F;have F:=oQ F;rw[<-cU,e2] at F;rw[Addr.add_mid];exact F j _ (by rw[oe,gA,ae A];rfl)
 have i:(convert s d (a.eval x)).run P w= .ok (.string ⟨l.toArray⟩) w:=by
  rw[I]
  cases M with
  |false=>rw[<-b5];exact run_convert_bytes_back w s d e _ q l (o0 hT H) (wH hT L) (wI hT J) W
  |true=>have b6:l=[]:=aU (by rcases a5 with h|h;cases h;omega);subst b6;rw[show jK true _=none from rfl,run_convert_bytes_string w s d e none n q (o0 hT H) (wH hT L) (wI hT J)];simp[Conv.bytesToString];rfl
 exact AO D i (hn _ _ _ _ h (iN.put (ρ1:=f) p V O (λj A=>⟨A,rfl⟩) o.dst λk m=>rfl));cases h;rename_i sz ag z eq a4 a2 z2 e Y ez a9 str H J hx;split at h;rename_i b8 a1 z3 a7 L;obtain⟨b9,h⟩:=h;obtain⟨f,O,p,V⟩:=F;have u: ∀k,gt (an B) k f->a.eval=gI (gv E) k:=λk m=>fP (p k m);have g:=u f (gt.refl _ _);have I:a.eval x= .string str:=by rw[g];show(gv E x).den f=_;rw[hx];rfl
 have i:=run_bytes_of_string (P:=P) w s d e str (wI hT H) (o0 hT J) (wH hT L);have b2:=grownCap_ge w str.size 0 e;have a8:=grownCap_le_maxLen w str.size 0 e (by simp only[maxLen];omega);have h2:bZ false str.size (grownCap w str.size 0 e):=⟨b2,by simpa only[maxLen] using a8,λh=>by cases h⟩;have hk:=h _ h2;rw[eW,gq,dp] at hk;have G:an B (ln B)=none:=fY B;have U: ∀(b:aY),an (B++[b])=df (an B) (ln B) b:=λb=>fi _ _;refine AO D (by rw[I];exact i) (hn _ _ _ _ hk (iN.put (ρ1:=ig f (ln B) (w.heap.size,0)) p V ?_ (λj A=> ?_) o.dst λk m=> ?_));rw[U];refine O.addRo ?_ ?_ G rfl (hW rfl) (iB rfl) (λk a6=> ?_) ?_;exact((Below.refl w.heap.size w).drew).alloc (ai _) _;simp;show af k _=af a6 _;rw[oe,oe];show World.rangeAt _ _ _ (af f (bsC _));rw[oe];intro j v A;have b7:=(aw.1 A).1;rw[aN,cell_of_row _ w.heap.size j _ _ _ (heap_alloc_new w.drew _),bytesRow,Array.getElem?_append_left (by simpa using b7),<-Array.getElem?_toList,a8E];exact A;rw[U];exact n7 G j A;have b3:k (ln B)=(w.heap.size,0):=by rw[m _ (by rw[U];unfold df;rw[if_pos rfl];rfl)];unfold ig;rw[if_pos rfl]
 simp[SV.den,C.den,C.cells,jK,b3];cases h;cases h;exact gy hT o E B K h F hn
end
end
section
section
variable {N:Nat} {w0:ip} {hf:Nat->Option aY} {ρ0:fF} {w:World}
def dv.addAt (h:dv N w0 hf ρ0 w) {n} (M:hf n=none) {v} (hro:v.ro=true) (r:v.tl=0) (hp:cC v.cs) p (hv:v.void=true\/(p.1<w.heap.size/\(∀j c,hf j=some c->c.ro=false->(ρ0 j).1≠p.1)/\w.rangeAt p.1 p.2 (af ρ0 v.cs))):dv N w0 (df hf n v) (ig ρ0 n p) w:=by
 have f: ∀{i c},i≠n->df hf n v i=some c->hf i=some c:=λd m=>by unfold df at m;rwa[if_neg d] at m
 have hat: ∀{c},df hf n v n=some c->c=v:=λm=>by unfold df at m;rw[if_pos rfl] at m;cases m;rfl
 have H:ig ρ0 n p n=p:=by unfold ig;rw[if_pos rfl]
 have o: ∀{i},i≠n->ig ρ0 n p i=ρ0 i:=λd=>by unfold ig;rw[if_neg d]
 refine⟨λi b d g=> ?_,λi b d s=> ?_,λi j b c d s u g x=> ?_,λD y i b d=> ?_,h.bel,h.big,λi d=> ?_,λi b e d E=> ?_,λi j b c d u I m x=> ?_,h.fam.up (λi b d L=> ?_) λj c u m=> ?_⟩;by_cases e:i=n;subst e;rw[H];rcases hv with q|q;rw[hat d,q] at g;cases g;exact q.1;rw[o e];exact h.old i b (f e d) g;by_cases e:i=n;subst e;rw[hat d,hro] at s;cases s;rw[o e];exact h.own i b (f e d) s;by_cases ei:i=n;subst ei;rw[hat d,hro] at s;cases s;by_cases ej:j=n;subst ej;rw[H,o ei];rcases hv with q|q;rw[hat u,q] at g;cases g;exact(q.2.1 i b (f ei d) s).symm;rw[o ei,o ej];exact h.apart i j b c (f ei d) s (f ej u) g x;by_cases e:i=n;subst e;have:=hat d;subst this;have B:D i=p:=by rw[y i (by rw[d];rfl),H]
 rcases hv with q|q;exact fq.void q D i w;refine⟨?_,λJ=>by rw[hro] at J;cases J⟩;have F:af D b.cs=af ρ0 b.cs:=hp D ρ0;rw[B,F];exact q.2.2;exact h.holds D (λk G=>by (have A:k≠n:=λe=>by rw[e,M] at G;cases G);rw[y k (by unfold df;rw[if_neg A];exact G),o A]) i b (f e d);have:=h.ext i d;have z:i≠n:=λe=>by rw[e,M] at this;exact absurd this.1 sp
 exact⟨by unfold df;rw[if_neg z];exact this.1,by rw[o z];exact this.2⟩;by_cases e2:i=n;subst e2;rw[hat d,hW r] at E;cases E;rw[o e2];exact h.maps i b e (f e2 d) E;by_cases ei:i=n;subst ei;rw[hat d,hW r] at I;cases I;by_cases ej:j=n;subst ej;rw[hat u,hW r] at m;cases m;rw[o ei,o ej];exact h.mapA i j b c (f ei d) (f ej u) I m x;by_cases ei:i=n;subst ei;rw[hat d,iB r] at L;cases L;exact⟨i,b,f ei d,rfl⟩;by_cases ej:j=n;subst ej;rw[hat u,hro] at m;cases m;exact .inl ⟨j,c,f ej u,m,by rw[o ej]⟩
def dv.turn (h:dv N w0 hf ρ0 w) {x c d} (hx:hf x=some c) (s:c.ro=false) (r:d.ty=c.ty/\d.ro=false/\d.tl=c.tl) (D: ∀ρ,gt hf ρ ρ0->af ρ d.cs=af ρ c.cs):dv N w0 (df hf x d) ρ0 w:=by
 have g: ∀i b,df hf x d i=some b->(i=x/\b=d)\/(i≠x/\hf i=some b):=λi b f=>by unfold df at f;split at f;rename_i e;cases f;exact .inl ⟨e,rfl⟩;rename_i e;exact .inr ⟨e,f⟩
 have m: ∀ρ,gt (df hf x d) ρ ρ0->gt hf ρ ρ0:=λρ o i f=>o i (by unfold df;split;rfl;exact f);refine⟨λi b f B=> ?_,λi b f A=> ?_,λi j b e f A p B k=> ?_,λρ o i b f=> ?_,h.bel,h.big,λi f=> ?_,λi b e f q=> ?_,λi j b e f p z q k=> ?_,h.fam.up (λi b f E=> ?_) λj b p z=> ?_⟩;rcases g i b f with⟨rfl,rfl⟩|⟨_,f⟩;exact h.old i c hx (fH s);exact h.old i b f B;rcases g i b f with⟨rfl,rfl⟩|⟨_,f⟩;exact h.own i c hx s;exact h.own i b f A;rcases g i b f with⟨rfl,rfl⟩|⟨_,u⟩<;>rcases g j e p with⟨rfl,rfl⟩|⟨_,y⟩;exact absurd rfl k;exact h.apart i j c e hx s y B k;exact h.apart i j b c u A hx (fH s) k;exact h.apart i j b e u A y B k;rcases g i b f with⟨rfl,rfl⟩|⟨_,f⟩;have:=h.holds ρ (m ρ o) i c hx;unfold fq at this⊢;rw[D ρ (m ρ o),r.1,r.2.2];exact⟨this.1,λ_=>this.2 s⟩;exact h.holds ρ (m ρ o) i b f;obtain⟨G,F⟩:=h.ext i f;refine⟨?_,F⟩;unfold df;split;rfl;exact G;rcases g i b f with⟨rfl,rfl⟩|⟨_,f⟩;rw[l5 r.2.1] at q;cases q;exact h.maps i b e f q;rcases g i b f with⟨rfl,rfl⟩|⟨_,f⟩;rw[l5 r.2.1] at z;cases z;rcases g j e p with⟨rfl,rfl⟩|⟨_,p⟩;rw[l5 r.2.1] at q;cases q;exact h.mapA i j b e f p z q k;rcases g i b f with⟨rfl,rfl⟩|⟨_,f⟩;rw[y9 r.2.1] at E;cases E;exact⟨i,b,f,rfl⟩;rcases g j b p with⟨rfl,rfl⟩|⟨_,p⟩;exact .inl ⟨j,c,hx,s,rfl⟩;exact .inl ⟨j,b,p,z,rfl⟩
def dv.ghost (h:dv N w0 hf ρ0 w) {fb l} (hl: ∀e∈l,iV N w true e/\ ∀j c,j≠fb->hf j=some c->c.ro=false->(ρ0 j).1≠e.a.1):dv N w0 (df hf fb ⟨.x l,true,[],2⟩) ρ0 w:=by
 have f: ∀i b,df hf fb ⟨.x l,true,[],2⟩ i=some b->(i=fb/\b=⟨.x l,true,[],2⟩)\/(i≠fb/\hf i=some b):=λi b d=>by unfold df at d;split at d;rename_i e;cases d;exact .inl ⟨e,rfl⟩;rename_i e;exact .inr ⟨e,d⟩
 have u: ∀q,gt (df hf fb ⟨.x l,true,[],2⟩) q ρ0->gt hf q ρ0:=λq p i d=>p i (by unfold df;split;rfl;exact d);refine⟨λi b d y=> ?_,λi b d s=> ?_,λi j b e d s g y r=> ?_,λq p i b d=> ?_,h.bel,h.big,λi d=> ?_,λi b e d k=> ?_,λi j b e d g B k r=> ?_,λi b o E e d A k=> ?_⟩;rcases f i b d with⟨rfl,rfl⟩|⟨_,d⟩;cases y;exact h.old i b d y;rcases f i b d with⟨rfl,rfl⟩|⟨_,d⟩;cases s;exact h.own i b d s;rcases f i b d with⟨rfl,rfl⟩|⟨_,d⟩;cases s;rcases f j e g with⟨rfl,rfl⟩|⟨_,g⟩;cases y;exact h.apart i j b e d s g y r;rcases f i b d with⟨rfl,rfl⟩|⟨_,d⟩;exact fq.void rfl q i w;exact h.holds q (u q p) i b d;obtain⟨z,D⟩:=h.ext i d;refine⟨?_,D⟩;unfold df;split;rfl;exact z;rcases f i b d with⟨rfl,rfl⟩|⟨_,d⟩;cases k;exact h.maps i b e d k;rcases f i b d with⟨rfl,rfl⟩|⟨_,d⟩;cases B;rcases f j e g with⟨rfl,rfl⟩|⟨_,g⟩;cases k;exact h.mapA i j b e d g B k r;have own: ∀j c,df hf fb ⟨.x l,true,[],2⟩ j=some c->c.ro=false->j≠fb/\hf j=some c:=λj c g m=>by rcases f j c g with⟨rfl,rfl⟩|⟨z,g⟩;cases m;exact⟨z,g⟩
 rcases f i b d with⟨rfl,rfl⟩|⟨_,d⟩;cases A;exact⟨(hl e k).1,λj c g m=>(hl e k).2 j c (own j c g m).1 (own j c g m).2 m⟩;have:=h.fam i b o E e d A k;exact⟨this.1,λj c g m=>this.2 j c (own j c g m).2 m⟩
end
def a1Q (b r:Nat):C->C
 | .sli nl b' off len cap h=>(match nu b' b with
  |true=> .val (.slice (jK nl ⟨r,off,none⟩) len cap)
  |false=> .sli nl b' off len cap h)
 |x=>x
def DW (b r:Nat):List C->List C
 |[]=>[]
 |x::l=>a1Q b r x::DW b r l
def Jy {b r ρ} (h:ρ b=(r,0)) x:(a1Q b r x).cells ρ=x.cells ρ:=by unfold a1Q;split;split;rename_i e;have:=gH e;subst this;simp only[C.cells,h,aN];rfl;rfl
def tu {b r ρ} (h:ρ b=(r,0)): ∀l:List C,af ρ (DW b r l)=af ρ l
 |[]=>rfl
 |x::l=>by rw[DW,cO,cO,Jy h,tu h l]
def Sq (hp:List aY) (fb b x:Nat) (K:List aY->Prop):Prop:=
 match an hp fb,an hp b,an hp x with
 |some ⟨.x l,true,[],2⟩,some ⟨.t ty1,false,cs,tl1⟩,some ⟨ty2,false,cs2,tl2⟩=>(cC cs/\nu b x=false/\nu fb x=false)/\ ∀r,fU hp fb ⟨.x (l++[⟨(r,0),cs,ty1,tl1⟩]),true,[],2⟩ λhp=>fU hp b ⟨.t 0,true,[],0⟩ λhp=>kE (DW b r cs2) λd=>fU hp x ⟨ty2,false,d,tl2⟩ K
 |_,_,_=>False
def Frz (N:Nat) (w0:ip) (ρ0:fF) (w:World) (hp d:List aY):Prop:=dv N w0 (an d) ρ0 w/\ ∀i,(an d i).isSome=(an hp i).isSome
def WV {hp fb b x K} (h:Sq hp fb b x K) {N w0 ρ0 w} (D:dv N w0 (an hp) ρ0 w): ∃hp',K hp'/\Frz N w0 ρ0 w hp hp':=by
 unfold Sq at h;split at h;rename_i l t f r A s B q p M;obtain⟨⟨m,k,g⟩,h⟩:=h;have k:b≠x:=λe=>by subst e;rw[Nat.beq_refl] at k;cases k
 have g:fb≠x:=λe=>by subst e;rw[Nat.beq_refl] at g;cases g
 have y:fb≠b:=λe=>by subst e;rw[q] at p;cases p
 have h:=h (ρ0 b).1;simp only[dR,bV] at h;obtain⟨G,W,J,o⟩:=(D.holds ρ0 (gt.refl _ _) b _ p).2 rfl;have V:=D.old b _ p rfl;have E:iV N w true ⟨((ρ0 b).1,0),f,t,r⟩:=by have P:af (λ_=>(0,0)) f=af ρ0 f:=m _ _;refine⟨m,⟨_,o,rfl⟩,λ_=>⟨D.own b _ p rfl,rfl,W,J,by rw[P];exact o⟩,?_,λh=>(by cases h)⟩;have O:=(D.holds ρ0 (gt.refl _ _) b _ p).1;show w.rangeAt (ρ0 b).1 0 (af (λ_=>(0,0)) f);rw[P];rw[G] at O;exact O
 have U:=D.kill (b:=b) (v:=⟨.t 0,true,[],0⟩) rfl (hW rfl) (iB rfl)
 have R:=U.ghost (fb:=fb) (l:=l++[⟨((ρ0 b).1,0),f,t,r⟩]) (λe F=>by
  have own: ∀j c,df (an hp) b ⟨.t 0,true,[],0⟩ j=some c->c.ro=false->j≠b/\an hp j=some c:=λj c u z=>by unfold df at u;split at u;cases u;cases z;rename_i e;exact⟨e,u⟩
  rcases aT.1 F with F|F
  have:=D.fam fb _ true l e q rfl F
  exact⟨this.1,λj c _ u z=>this.2 j c (own j c u z).2 z⟩
  rw[bq.1 F]
  exact⟨E,λj c _ u z=>D.apart b j _ c p rfl (own j c u z).2 (fH z) (own j c u z).1|>λh=>h⟩)
 have L:df (df (an hp) b ⟨.t 0,true,[],0⟩) fb ⟨.x (l++[⟨((ρ0 b).1,0),f,t,r⟩]),true,[],2⟩ x=some ⟨A,false,s,B⟩:=by unfold df;rw[if_neg (Ne.symm g),if_neg (Ne.symm k)];exact M
 have T:=R.turn (d:=⟨A,false,DW b (ρ0 b).1 s,B⟩) L rfl ⟨rfl,rfl,rfl⟩ (λX I=>by refine tu ?_ s;have:X b=ρ0 b:=I b (by unfold df;split;rfl;split;rfl;rw[p];rfl);rw[this,<-G]);have s1:an (hp.set fb ⟨.x (l++[⟨((ρ0 b).1,0),f,t,r⟩]),true,[],2⟩)=df (an hp) fb ⟨.x (l++[⟨((ρ0 b).1,0),f,t,r⟩]),true,[],2⟩:=dt _ _ _ _ q;have s2:=dt (hp.set fb ⟨.x (l++[⟨((ρ0 b).1,0),f,t,r⟩]),true,[],2⟩) b ⟨.t 0,true,[],0⟩ _ (by rw[s1];unfold df;rw[if_neg (Ne.symm y)];exact p);have Q:=dt ((hp.set fb ⟨.x (l++[⟨((ρ0 b).1,0),f,t,r⟩]),true,[],2⟩).set b ⟨.t 0,true,[],0⟩) x ⟨A,false,DW b (ρ0 b).1 s,B⟩ _ (by rw[s2,s1];unfold df;rw[if_neg (Ne.symm k),if_neg (Ne.symm g)];exact M);have H:df (df (an hp) fb ⟨.x (l++[⟨((ρ0 b).1,0),f,t,r⟩]),true,[],2⟩) b ⟨.t 0,true,[],0⟩=df (df (an hp) b ⟨.t 0,true,[],0⟩) fb ⟨.x (l++[⟨((ρ0 b).1,0),f,t,r⟩]),true,[],2⟩:=by funext i;unfold df;by_cases E:i=b;rw[if_pos E,if_neg (λe=>y (e.symm.trans E)),if_pos E];rw[if_neg E];split<;>rfl
 refine⟨_,h,?_,λi=> ?_⟩;rw[Q,s2,s1,H];exact T;rw[Q,s2,s1];unfold df;split;rename_i e;rw[e,M];rfl;split;rename_i e;rw[e,p];rfl;split;rename_i e;rw[e,q];rfl;rfl;exact h.elim
def Frz.agr {N w0 ρ0 w hp d} (h:Frz N w0 ρ0 w hp d) {ρ} (e:gt (an d) ρ ρ0):gt (an hp) ρ ρ0:=λi f=>e i (by rw[h.2 i];exact f)
def hfz (H:FuncId->List SV->List aY->(SV->List aY->Prop)->Prop):Nat->FuncId->List SV->List aY->(SV->List aY->Prop)->Prop
 |0,f,args,hp,K=>H f args hp K
 |n+1,f,args,hp,K=>H f args hp K\/ ∃e b x,Sq hp e b x λd=>hfz H n f args d K
def SH {P H} (p:ko P H): ∀n,ko P (hfz H n)
 |0=>p
 |n+1=>λf d u K h=>by rcases h with h|⟨A,b,x,h⟩;exact p f d u K h;have key: ∀g,hfz H n f d g K->eK P f/\_:=λg h=>SH p n f d g K h;refine⟨?_,λN r k w s j=> ?_⟩;unfold Sq at h;split at h;have h:=h.2 0;simp only[dR,bV] at h;exact(key _ h).1;exact h.elim;obtain⟨g,q,o⟩:=WV h s;refine((key g q).2 N r k w o.1 λz m=>j z (o.agr m)).mono ?_;rintro e B ⟨v,hp2,ρ1,h1,h2,h3,h4⟩;exact⟨v,hp2,ρ1,h1,h2,λi y=>h3 i (by rw[o.2 i];exact y),h4⟩
def ofz (O:Oper->List SV->List aY->(List SV->List aY->Prop)->Prop):Nat->Oper->List SV->List aY->(List SV->List aY->Prop)->Prop
 |0,o,tm,hp,K=>O o tm hp K
 |n+1,o,tm,hp,K=>O o tm hp K\/ ∃e b x,Sq hp e b x λd=>ofz O n o tm d K
def Jv (hp:List aY) (fb:Nat) (a:Nat×Nat) (cs:List C):Prop:= ∃b o l,an hp fb=some b/\b.famOf=some (o,l)/\pg l a cs
def a4K (hp:List aY) (v:Value) (K:Nat->List aY->SV->Prop):Prop:=∃d r o len cap h ty cs fb,v= .slice (jK d ⟨r,o,none⟩) len cap/\(cs=[]\/Jv hp fb (r,o) cs)/\jQ hp ⟨.t ty,true,cs,0⟩ λe=>pE hp λn=>K n e (.c (.sli d n 0 len cap h))
def Xh {hp v K} (h:a4K hp v K) {N w0 ρ0 w} (g:dv N w0 (an hp) ρ0 w): ∃hp' s p,K (ln hp) hp' s/\dv N w0 (an hp') (ig ρ0 (ln hp) p) w/\(∀i,(an hp i).isSome=true->(an hp' i).isSome=true/\ig ρ0 (ln hp) p i=ρ0 i)/\ ∀ρ,gt (an hp') ρ (ig ρ0 (ln hp) p)->s.den ρ=v:=by
 obtain⟨A,r,o,len,q,z,k,m,x,rfl,u,h⟩:=h;rw[eW,gq] at h;have j:=fY hp;have d:an (hp++[(⟨.t k,true,m,0⟩:aY)])=df (an hp) (ln hp) ⟨.t k,true,m,0⟩:=fi _ _;refine⟨_,_,(r,o),h,?_,λi y=>by rw[d];exact n7 j i y,λρ f=> ?_⟩;rw[d];rcases u with rfl|⟨b,o',l,h1,h2,⟨⟨r',o1⟩,cs',ty1,tl1⟩,h3,h4,h5⟩;exact g.addAt j rfl rfl ff (r,o) (.inl rfl);simp only at h4 h5;cases h4;subst h5;have e:=g.fam x b o' l _ h1 h2 h3;refine g.addAt j rfl rfl e.1.pure (r,o) (.inr ⟨e.1.lt,e.2,?_⟩);have:af ρ0 cs'=af (λ_=>(0,0)) cs':=e.1.pure _ _;show w.rangeAt r o (af ρ0 cs');rw[this];exact e.1.holds;have:ρ (ln hp)=(r,o):=by rw[f _ (by rw[d];unfold df;rw[if_pos rfl];rfl)];unfold ig;rw[if_pos rfl]
 simp[SV.den,C.den,C.cells,this]
def Da (hp:List aY):List SV->Nat->(List SV->List aY->Prop)->Prop
 |[],_,_=>False
 |x::l,0,K=>(match x with
  | .c (.val v)=>a4K hp v λ_ d s=>K (s::l) d
  |_=>False)
 |x::l,k+1,K=>Da hp l k λl d=>K (x::l) d
def Db {hp}: ∀{l k K},Da hp l k K-> ∀{N w0 ρ0 w},dv N w0 (an hp) ρ0 w->
  ∃hp' l' p,K l' hp'/\dv N w0 (an hp') (ig ρ0 (ln hp) p) w/\(∀i,(an hp i).isSome=true->(an hp' i).isSome=true/\ig ρ0 (ln hp) p i=ρ0 i)/\ ∀ρ,gt (an hp') ρ (ig ρ0 (ln hp) p)->l'.map (SV.den ρ)=l.map (SV.den ρ)
 |[],_,_,h=>h.elim
 |x::l,k+1,K,h=>λm=>by have h:Da hp l k λl hp'=>K (x::l) hp':=h;obtain⟨hp',l',p,g,f,j,e⟩:=Db h m;exact⟨hp',x::l',p,g,f,j,λρ d=>by rw[aI,aI,e ρ d]⟩
 |x::l,0,K,h=>λm=>by unfold Da at h;split at h;obtain⟨hp',s,p,g,f,j,e⟩:=Xh h m;exact⟨hp',s::l,p,g,f,j,λρ d=>by rw[aI,aI,e ρ d];rfl⟩;exact h.elim
def KZ {hp}: ∀{l k K},Da hp l k K-> ∃l' hp',K l' hp'
 |[],_,_,h=>h.elim
 |x::l,k+1,K,h=>by have h:Da hp l k λl hp'=>K (x::l) hp':=h;obtain⟨l',hp',e⟩:=KZ h;exact⟨x::l',hp',e⟩
 |x::l,0,K,h=>by unfold Da at h;split at h;obtain⟨j,r,o,len,d,i,f,g,m,-,-,h⟩:=h;rw[eW,gq] at h;exact⟨_,_,h⟩;exact h.elim
def SI (H:FuncId->List SV->List aY->(SV->List aY->Prop)->Prop):Nat->FuncId->List SV->List aY->(SV->List aY->Prop)->Prop
 |0,f,d,hp,K=>H f d hp K
 |n+1,f,d,hp,K=>H f d hp K\/ ∃k,Da hp d k λd e=>SI H n f d e K
def uM {P H} (y:ko P H): ∀n,ko P (SI H n)
 |0=>y
 |n+1=>λf q x K h=>by rcases h with h|⟨k,h⟩;exact y f q x K h;refine⟨?_,λN E j w F d=> ?_⟩;obtain⟨s,o,z⟩:=KZ h;exact(uM y n f s o K z).1;obtain⟨o,s,p,z,D,u,A⟩:=Db h F;have g: ∀r,gt (an o) r (ig j (ln x) p)->gt (an x) r j:=λr m=>m.sub u;(have G:s.map (SV.den (ig j (ln x) p))=q.map (SV.den j):=by rw[A _ (gt.refl _ _)];exact d _ (g _ (gt.refl _ _)));rw[<-G];refine((uM y n f s o K z).2 N E _ w D λr m=> ?_).mono ?_;rw[A r m,A _ (gt.refl _ _),d r (g r m),d _ (g _ (gt.refl _ _))];rintro e I ⟨v,hp2,ρ1,k1,k2,k3,k4⟩;exact⟨v,hp2,ρ1,k1,k2,λi B=>⟨(k3 i (u i B).1).1,(k3 i (u i B).1).2.trans (u i B).2⟩,k4⟩
def Tt (E:ic) (H:FuncId->List SV->List aY->(SV->List aY->Prop)->Prop) (O:Oper->List SV->List aY->(List SV->List aY->Prop)->Prop):Nat->Oper->List SV->List aY->(List SV->List aY->Prop)->Prop
 |0,o,d,hp,K=>O o d hp K
 |n+1,o,d,hp,K=>O o d hp K\/ ∃k,Da hp d k λd e=>wJ {E with O:=Tt E H O n} H o d e K
def Es {P E} (d:iU P E) {H} (q:ko P H) {O} (g:yl P O): ∀n,yl P (Tt E H O n)
 |0=>g
 |n+1=>λo A F K h N L a w next Q j i=>by rcases h with h|⟨k,h⟩;exact g o A F K h j i;obtain⟨u,G,r,I⟩:=j;obtain⟨z,J,p,y,s,B,x⟩:=Db h G;have f:iU P {E with O:=Tt E H O n}:=⟨d.T,d.D,Es d q g n,d.R,d.X⟩;exact kQ f q y ⟨_,s,λm e=>by rw[x m e];exact r m (e.sub B),I⟩ i
def w7 (H:FuncId->List SV->List aY->(SV->List aY->Prop)->Prop) (f:FuncId) (args:List SV) (hp:List aY) (K:SV->List aY->Prop):Prop:=H f args hp K\/jQ hp ⟨.x [],true,[],2⟩ λd=>H f args d K
def SG {P H} (q:ko P H):ko P (w7 H):=λf d j K h=>by
 rcases h with h|h;exact q f d j K h;rw[eW] at h;refine⟨(q f d _ K h).1,λN s k w z g=> ?_⟩;have m:an (j++[(⟨.x [],true,[],2⟩:aY)])=df (an j) (ln j) ⟨.x [],true,[],2⟩:=fi _ _;have y:dv N s (an (j++[(⟨.x [],true,[],2⟩:aY)])) k w:=by rw[m];exact z.ghost λe u=>by simp at u
 have r: ∀i,(an j i).isSome=true->(an (j++[(⟨.x [],true,[],2⟩:aY)]) i).isSome=true:=λi o=>by rw[m];unfold df;split;rfl;exact o
 refine((q f d _ K h).2 N s k w y λA p=>g A λi o=>p i (r i o)).mono ?_;rintro e B ⟨v,hp2,ρ1,k1,k2,k3,k4⟩;exact⟨v,hp2,ρ1,k1,k2,λi o=>k3 i (r i o),k4⟩
def wq:List aY->Prop
 |[]=>True
 |b::l=>(b.ro=true/\b.mapOf=none)/\wq l
def iG: ∀{l:List aY} (_:wq l) {i:Nat} {b:aY},an l i=some b->b.ro=true/\b.mapOf=none
 |[],_,i,b,h=>by simp[an] at h
 |x::l,hp,0,b,h=>by simp[an] at h;subst h;exact hp.1
 |x::l,hp,i+1,b,h=>iG hp.2 (by simpa[an] using h)
def pd (P:Program) (f:FuncId) (c:cP):Prop:=eK P f/\ ∀h d K,c h d K->wq d->jB d-> ∀j w,(∀i b,an d i=some b->w.rangeAt (j i).1 (j i).2 (af j b.cs))->
 (∀i b o l e,an d i=some b->b.famOf=some (o,l)->e∈l->iV w.heap.size w false e)->(∀i b o l,an d i=some b->b.famOf=some (o,l)->o=false)->
 Calls P f (h.map (SV.den j)).toArray w λe p=> ∃v g m,K v g/\pI g/\dv w.heap.size ⟨w,λ_=>False,j,0⟩ (an (d++g)) m p/\(∀i,i<ln d->m i=j i)/\ ∀k,gt (an (d++g)) k m->e= .returned (v.den k)
def iA {P:Program} {E:ic} (Z:iU P E) (hm:P.follows .mixedOrders=true) {H:FuncId->List SV->List aY->(SV->List aY->Prop)->Prop} (hH:ko P H) {f:FuncId} {fn:Func} (T:iM P f fn) {c:cP} (h: ∀args ros K,c args ros K->(∀ρ ρ',(∀i,i<ln ros->ρ i=ρ' i)->args.map (SV.den ρ)=args.map (SV.den ρ'))/\A5 E H fn args ros (XU ros K)):pd P f c:=by
 refine⟨T.callable,λargs ros K M k B ρ w W m G=> ?_⟩;obtain⟨u,A⟩:=h args ros K M;have r: ∀{i:Nat},(an ros i).isSome=true↔i<ln ros:=λ{i}=>by rw[cD];constructor;intro h;obtain⟨x,hx⟩:=aK.1 h;exact(aw.1 hx).1;intro h;rw[ae h];rfl
 have hh:dv w.heap.size ⟨w,λi=>(an ros i).isSome=true,ρ,0⟩ (an ros) ρ w:=by
  refine⟨λi b d N=> ?_,λi b d p=> ?_,λi j b c d p=> ?_,λρ' z i b d=> ?_,sR.refl _ _,ai _,λi h=>⟨h,rfl⟩,λi b e d s=>(by rw[(iG k d).2] at s;cases s),λi j b c d X hm hk a0=>(by rw[(iG k d).2] at hm;cases hm),λi b o l e d hm s=>⟨⟨(m i b o l e d hm s).pure,(m i b o l e d hm s).row,λp=>(by have:=(iG k d);exact absurd p (by rw[(G i b o l d hm)];decide)),(m i b o l e d hm s).holds,λ_=>(m i b o l e d hm s).lt⟩,λj c X p=>(by rw[(iG k X).1] at p;cases p)⟩⟩
  have U:0<bu b.cs:=by
   cases M:b.cs with
   |nil=>unfold aY.void at N;rw[M,(iG k d).1] at N;cases N
   |cons x l=>cases x<;>simp[bu,C.n]<;>omega
  rw[cU ρ] at U;exact block_lt_of_cell (W i b d 0 _ (ae U));rw[(iG k d).1] at p;cases p;rw[(iG k d).1] at p;cases p;refine⟨?_,λp=>by rw[(iG k d).1] at p;cases p⟩;have D:af ρ' b.cs=af ρ b.cs:=(jr B d) ρ' ρ;rw[z i (by rw[d];rfl),D];exact W i b d
 refine(sG Z hm hH T A w.heap.size _ ρ w hh (λρ' z=>u ρ' ρ λi d=>z i (r.2 d))).mono ?_;rintro e w' ⟨v,hp',ρ1,⟨sel,pf,hout⟩,hh',-,s⟩;have I:=s ρ1 (gt.refl _ _);have J:iN w.heap.size ⟨w,λi=>(an ros i).isSome=true,ρ,0⟩ [v] hp' {tmps:= #[v.den ρ1],defers:=[]} w':=⟨ρ1,hh',λρ' q=>by have:=s ρ' q;rw[I] at this;(have:v.den ρ1=v.den ρ':=by simpa using this);simp[this],KO.nil _ _ (ah _)⟩;obtain⟨a1,D,⟨v2,F,rfl,y,hn,V,Q,Y⟩,R⟩:=uG (n0:=ln ros) (λi d=>r.1 d) J (hout _);have O:=R.same (tm2:=[V]) ⟨Q,trivial⟩ y;obtain⟨σ,g,L,-⟩:=O;refine⟨V,F,σ,Y,hn,⟨g.old,g.own,g.apart,g.holds,g.bel,g.big,λi d=>d.elim,g.maps,g.mapA,g.fam⟩,λi d=>(g.ext i (r.2 d)).2,λρ' q=> ?_⟩;have:=L ρ' q;simp only[aI,dj,AV.injEq,and_true] at this;rw[I,this]
def LV (l:List (FuncId×cP)) (H:FuncId->List SV->List aY->(SV->List aY->Prop)->Prop) (f:FuncId) (args:List SV) (hp:List aY) (K:SV->List aY->Prop):Prop:=
 match ZL l f with
 |some c=> ∃j,(match an hp j with
  |some ⟨.x k,true,[],t⟩=>(t=2\/t=3)/\yp hp 0 args λe d h=>jB d/\jQ d ⟨.x k,true,[],3⟩ λd=>c e d λv g=>pE hp λn=>Is hp g λi=>jQ h j λh=>K (v.mv h n) i
  |_=>False)
 |none=>H f args hp K
def vB (P:Program) (l:List (FuncId×cP)):Prop:= ∀x∈l,pd P x.1 x.2
def vB.nil {P}:vB P []:=λx d=>by simp at d
def vB.cons {P f c l} (h:pd P f c) (hl:vB P l):vB P ((f,c)::l):=λx d=>by rcases br.1 d with rfl|d;exact h;exact hl x d
def pL {b} (hb:cC b.cs): ∀{l},jB l->jB (l++[b])
 |[],_=>⟨hb,trivial⟩
 |_::_,h=>⟨h.1,pL hb h.2⟩
def ri {b} (hb:b.ro=true/\b.mapOf=none): ∀{l},xu l->wq (l++[b])
 |[],_=>⟨hb,trivial⟩
 |_::_,h=>⟨⟨h.1.1,hW h.1.2⟩,ri hb h.2⟩
def qJ {P l} (hl:vB P l) {H} (hH:ko P H):ko P (LV l H):=by
 intro f u q K h;unfold LV at h;split at h;rename_i c hc;have Z:=hl _ (uX hc);obtain⟨fb,h⟩:=h;split at h;rename_i W t Q;obtain⟨ht,h⟩:=h;refine⟨Z.1,λN w0 m w hh _=> ?_⟩;obtain⟨l',s,bs0,B,F,D,Y,J⟩:=rE h;obtain⟨z,B⟩:=B;rw[eW] at B;have a2: ∃o,(⟨.x W,true,[],t⟩:aY).famOf=some (o,W):=by rcases ht with rfl|rfl<;>exact⟨_,rfl⟩
 obtain⟨j,hros⟩: ∃j,j=s++[⟨.x W,true,[],3⟩]:=⟨_,rfl⟩;obtain⟨p,hbsd⟩: ∃p,p=bs0++[fb]:=⟨_,rfl⟩;rw[<-hros] at B;have a6:ln j=ln p:=by rw[hros,hbsd];simp[F]
 have y:jB j:=by rw[hros];exact pL ff z
 have a0:wq j:=by rw[hros];exact ri ⟨rfl,rfl⟩ D
 have R: ∀i b,p[i]? =some b-> ∃c d,an q b=some c/\an j i=some d/\d.cs=c.cs:=λi b g=>by rw[hbsd] at g;by_cases hlt:i<ln bs0;rw[dN hlt] at g;obtain⟨c',d',M,h2,h3⟩:=Y i b g;refine⟨c',d',M,?_,h3⟩;rw[hros,cQ,if_pos om];exact h2;rw[fe om] at g;(have e:i-ln bs0=0:=by have:=(aw.1 g).1;simp at this;omega);rw[e] at g;simp at g;subst g;refine⟨_,⟨.x W,true,[],3⟩,Q,?_,rfl⟩;rw[hros,cQ,if_neg om,show i-ln s=0 by omega];rfl
 have X: ∀r A:fF,(∀i b,p[i]? =some b->A (0+i)=r b)->u.map (SV.den r)=l'.map (SV.den A):=λr A h=>J r A λi b g=>h i b (by rw[hbsd,dN (aw.1 g).1];exact g);let r:fF:=λi=>m (p[i]?.getD 0);have G: ∀i b,p[i]? =some b->r i=m b:=λi b g=>by show m (p[i]?.getD 0)=m b;rw[g];rfl
 have I:u.map (SV.den m)=l'.map (SV.den r):=X m r (λi b g=>by rw[aN];exact G i b g);rw[I];have w7: ∀i b o l,an j i=some b->b.famOf=some (o,l)->o=false/\l=W:=λi b o l g L=>by rw[hros,cQ] at g;split at g;rw[iB (kd D g).2] at L;cases L;(have e:i-ln s=0:=by rw[cD] at g;have:=(aw.1 g).1;simp at this;omega);rw[e] at g;cases g;cases L;exact⟨rfl,rfl⟩
 refine(Z.2 l' j _ B a0 y r w (λi d hd=> ?_) (λi b o l e g L he=> ?_) (λi b o l g L=>(w7 i b o l g L).1)).mono ?_;have g:i<ln j:=by rw[cD] at hd;exact(aw.1 hd).1
 obtain⟨b,hb⟩: ∃b,p[i]? =some b:=⟨_,ae om⟩;obtain⟨c',d',M,h2,h3⟩:=R i b hb;rw[hd] at h2;cases h2;have:=(hh.holds m (gt.refl _ _) b c' M).1;have a4:af r d.cs=af m d.cs:=(jr y hd) r m;rw[G i b hb,a4,h3];exact this;obtain⟨rfl,rfl⟩:=w7 i b o l g L;obtain⟨o',a1⟩:=a2;have:=(hh.fam fb _ o' _ e Q a1 he).1;exact⟨this.pure,this.row,λh=>(by cases h),this.holds,λ_=>this.lt⟩;rintro e w' ⟨v,news,σ,B,hn,hc,hσ,he⟩;rw[gq,uj,eW,<-hbsd] at B;refine⟨_,_,_,B,hh.join hc hn,λi g=> ?_,λT E=> ?_⟩;have U:i<ln q:=by obtain⟨x,O⟩:=aK.1 g;rw[cD] at O;exact(aw.1 O).1
 exact⟨by rw[cQ,if_pos U];exact g,if_pos U⟩;rw[Ek];refine he _ (λk hk=> ?_);have hkl:k<(j++news).length:=by obtain⟨x,O⟩:=aK.1 hk;rw[cD] at O;exact(aw.1 O).1
 show T (If p (ln q) k)=σ k;unfold If;by_cases hkr:k<ln j;have a5:k<ln p:=om;obtain⟨b,hb⟩: ∃b,p[k]? =some b:=⟨_,ae a5⟩;rw[cD,hb];obtain⟨c',d',M,-⟩:=R k b hb;have V:b<ln q:=by rw[cD] at M;exact(aw.1 M).1
 rw[hσ k hkr,G k b hb];have:=E b (by rw[cQ,if_pos V,M];rfl);rw[this];exact if_pos V;rw[cD,bi om];have O:(an (q++news) (ln q+(k-ln p))).isSome=true:=by rw[cQ,if_neg om];rw[cQ,if_neg hkr] at hk;rw[show (ln q)+(k-ln p)-ln q=k-(ln j) by omega];exact hk
 have:=E _ O;show T (ln q+(k-ln p))=σ k;rw[this];show(if (ln q)+(k-ln p)<(ln q) then _ else σ (ln q+(k-ln p)-ln q+ln j))=σ k;rw[if_neg om];congr 1;omega;exact h.elim;exact hH f u q K h
end

section
def dv.same {N w0 hp o ρ0 w} (q:dv N w0 (an hp) ρ0 w) (m:gx hp o):dv N w0 (an o) ρ0 w/\ ∀i,(an o i).isSome=(an hp i).isSome:=by
 have D: ∀r,gt (an o) r ρ0->gt (an hp) r ρ0:=λr y i P=>by obtain⟨b,g⟩:=aK.1 P;obtain⟨c,f⟩:=m.some' i b g;exact y i (by rw[f];rfl)
 have p: ∀i b c,an hp i=some b->an o i=some c->b.ro=c.ro->(∀r,af r b.cs=af r c.cs)->c.void=false->b.void=false:=λi b c _ _ k F E=>by
  rcases kR b with h|h;obtain⟨V,A⟩:=lE h;have z:=F ρ0;rw[A] at z;(have Q:bu c.cs=0:=by rw[cU ρ0,<-z];rfl)
  have U:c.cs=[]:=by
   cases f:c.cs with
   |nil=>rfl
   |cons x l=>rw[f] at Q;cases x<;>simp[bu,C.n] at Q
  unfold aY.void at E;rw[U,<-k,V] at E;cases E;exact h
 refine⟨⟨λi c f E=> ?_,λi c f B=> ?_,λi j c d f B R J=> ?_,λr y i c f=> ?_,q.bel,q.big,λi P=> ?_,λi c e f T=> ?_,λi j c d f M u k O=> ?_,q.fam.up (λi c f W=> ?_) λj c f B=> ?_⟩,λi=> ?_⟩;obtain⟨b,g,-,k,-,F,-⟩:=m.get i c f;exact q.old i b g (p i b c g f k F E);obtain⟨b,g,-,k,-⟩:=m.get i c f;exact q.own i b g (k.trans B);obtain⟨b,g,-,k,-⟩:=m.get i c f;obtain⟨G,s,-,L,-,I,-⟩:=m.get j d R;exact q.apart i j b G g (k.trans B) s (p j G d s R L I J);obtain⟨b,g,u,k,A,F,-⟩:=m.get i c f;have:=q.holds r (D r y) i b g;unfold fq at this⊢;rw[<-F r,<-u,<-k,<-A];exact this;have:=q.ext i P;refine⟨?_,this.2⟩;obtain⟨b,g⟩:=aK.1 this.1;obtain⟨c,f⟩:=m.some' i b g;rw[f];rfl;obtain⟨b,g,-,-,-,-,z⟩:=m.get i c f;exact q.maps i b e g (z.trans T);obtain⟨b,g,-,-,-,-,z⟩:=m.get i c f;obtain⟨G,s,-,-,-,-,H⟩:=m.get j d M;exact q.mapA i j b G g s (by rw[z];exact u) (by rw[H];exact k) O;obtain⟨b,g,u,k,A,-⟩:=m.get i c f;exact⟨i,b,g,by unfold aY.famOf;rw[u,k,A]⟩;obtain⟨b,g,-,k,-⟩:=m.get j c f;exact .inl ⟨j,b,g,k.trans B,rfl⟩
 cases u:an hp i with
 |none=>
  cases k:an o i with
  |none=>rfl
  |some c=>obtain⟨b,g,-⟩:=m.get i c k;rw[u] at g;cases g
 |some b=>obtain⟨c,f⟩:=m.some' i b u;rw[f];rfl
def hsm (H:FuncId->List SV->List aY->(SV->List aY->Prop)->Prop) (f:FuncId) (args:List SV) (hp:List aY) (K:SV->List aY->Prop):Prop:=H f args hp K\/ ∃d e,iw args d/\gx hp e/\H f d e K
def a2a {P H} (p:ko P H):ko P (hsm H):=λf j y K h=>by rcases h with h|⟨d,hp',e1,e2,h⟩;exact p f j y K h;refine⟨(p f d hp' K h).1,λN u g w x k=> ?_⟩;obtain⟨s,q⟩:=x.same e2;have z:j.map (SV.den g)=d.map (SV.den g):=e1.den g;rw[z];refine((p f d hp' K h).2 N u g w s λr m=> ?_).mono ?_;rw[<-e1.den r,<-e1.den g];exact k r λi o=>m i (by rw[q i];exact o);rintro e A ⟨v,hp2,ρ1,k1,k2,k3,k4⟩;exact⟨v,hp2,ρ1,k1,k2,λi o=>k3 i (by rw[q i];exact o),k4⟩
def XO:List aY->Prop
 |[]=>True
 |b::l=>(b.ro=false\/b.void=true)/\XO l
def zU: ∀{l:List aY} (_:XO l) {i:Nat} {b:aY},an l i=some b->b.ro=false\/b.void=true
 |[],_,i,b,h=>by simp[an] at h
 |x::l,hp,0,b,h=>by simp[an] at h;subst h;exact hp.1
 |x::l,hp,i+1,b,h=>zU hp.2 (by simpa[an] using h)
def a1H (r:Nat) (b:aY):Prop:=
 match b.ty with
 | .x l=>(match b.tl with
  |3=>True
  |_=> ∀e,e∈l->e.a.1≠r)
 |_=>True
def Gb {r b} (h:a1H r b) {l} (hm:b.famOf=some (true,l)): ∀e,e∈l->e.a.1≠r:=by obtain⟨i,j,k,m⟩:=b;unfold aY.famOf GC at hm;split at hm;rename_i f g d;cases hm;simp only at f d;subst f d;exact h;cases hm;cases hm
def WL (r fb:Nat):Nat->List aY->Prop
 |_,[]=>True
 |i,b::l=>(match nu i fb with
  |true=>True
  |false=>a1H r b)/\WL r fb (i+1) l
def yT {r fb:Nat}: ∀{l:List aY} {k:Nat} (_:WL r fb k l) {i:Nat} {b:aY},an l i=some b->k+i≠fb->a1H r b
 |[],_,_,i,b,h,_=>by simp[an] at h
 |x::l,k,hp,0,b,h,hne=>by simp[an] at h;subst h;have d:=hp.1;(have e:nu k fb=false:=by cases hb:nu k fb;rfl;exact absurd (gH hb) (by simpa using hne));rw[e] at d;exact d
 |x::l,k,hp,i+1,b,h,hne=>yT hp.2 (by simpa[an] using h) om
section
variable {N:Nat} {w0:ip} {hf:Nat->Option aY} {ρ0:fF} {w:World}
def dv.thaw (h:dv N w0 hf ρ0 w) {fb n} (J:hf n=none) {s p e} (m:hf fb=some ⟨.x (s++e::p),true,[],2⟩) (r: ∀i b,hf i=some b->b.ro=false\/b.void=true) (u: ∀i b l,hf i=some b->i≠fb->b.famOf=some (true,l)-> ∀e',e'∈l->e'.a.1≠e.a.1) (E: ∀e',e'∈s++p->e'.a.1≠e.a.1): dv N w0 (df (df hf fb ⟨.x (s++p),true,[],2⟩) n ⟨.t e.ty,false,e.cs,e.tl⟩) (ig ρ0 n (e.a.1,0)) w:=by
 have A:e∈s++e::p:=sp;have F:=h.fam fb _ true _ e m rfl A;obtain⟨P,-,t,O,g⟩:=F.1.own rfl;have I:n≠fb:=λz=>by rw[<-z,J] at m;cases m
 have M:=h.ghost (fb:=fb) (l:=s++p) (λe' f=>by
  have:=h.fam fb _ true _ e' m rfl (by
   rcases aT.1 f with q|q
   exact gc _ q
   exact gG _ (aD _ q))
  exact⟨this.1,λj c _ Q L=>this.2 j c Q L⟩)
 have y: ∀i b,df hf fb ⟨.x (s++p),true,[],2⟩ i=some b->(i=fb/\b=⟨.x (s++p),true,[],2⟩)\/(i≠fb/\hf i=some b):=λi b d=>by unfold df at d;split at d;rename_i z;cases d;exact .inl ⟨z,rfl⟩;rename_i z;exact .inr ⟨z,d⟩
 refine M.app (w':=w) (g0:=some e.a.1) (c:=⟨.t e.ty,false,e.cs,e.tl⟩) (by unfold df;rw[if_neg I];exact J) (World.grownBy.refl _ _) (λk B=> ?_) (λk B i b o l e' d D f=> ?_) (.inl rfl) rfl g O (λR _=>F.1.pure _ _);cases B;refine⟨P,⟨_,_,_,g⟩,λi b d G=> ?_⟩;rcases y i b d with⟨rfl,rfl⟩|⟨_,d⟩;cases G;rcases r i b d with q|q;exact F.2 i b d q;rw[q] at G;cases G;cases B;rcases y i b d with⟨rfl,rfl⟩|⟨H,d⟩;cases D;exact E e' f
 cases o with
 |true=>exact u i b l d H D e' f
 |false=>have:=(h.fam i b false l e' d D f).1.old rfl;omega
def dv.refrz (h:dv N w0 hf ρ0 w) {fb n ty cs u} (o:hf n=some ⟨.t ty,false,cs,u⟩) (d:cC cs) {s q} (p:hf fb=some ⟨.x (s++q),true,[],2⟩): dv N w0 (df (df hf n ⟨.t 0,true,[],0⟩) fb ⟨.x (s++⟨((ρ0 n).1,0),cs,ty,u⟩::q),true,[],2⟩) ρ0 w:=by
 obtain⟨y,E,r,f⟩:=(h.holds ρ0 (gt.refl _ _) n _ o).2 rfl;have A:af (λ_=>(0,0)) cs=af ρ0 cs:=d _ _;have B:iV N w true ⟨((ρ0 n).1,0),cs,ty,u⟩:=by refine⟨d,⟨_,f,rfl⟩,λ_=>⟨h.own n _ o rfl,rfl,E,r,by rw[A];exact f⟩,?_,λh=>(by cases h)⟩;have z:=(h.holds ρ0 (gt.refl _ _) n _ o).1;show w.rangeAt (ρ0 n).1 0 (af (λ_=>(0,0)) cs);rw[A];rw[y] at z;exact z
 have D:=h.kill (b:=n) (v:=⟨.t 0,true,[],0⟩) rfl (hW rfl) (iB rfl);have own: ∀j c,df hf n ⟨.t 0,true,[],0⟩ j=some c->c.ro=false->j≠n/\hf j=some c:=λj c i k=>by unfold df at i;split at i;cases i;cases k;rename_i e;exact⟨e,i⟩
 refine D.ghost λe g=> ?_;have m: ∀e,e∈s++q->iV N w true e/\ ∀j c,j≠fb->df hf n ⟨.t 0,true,[],0⟩ j=some c->c.ro=false->(ρ0 j).1≠e.a.1:=λe g=>by have:=h.fam fb _ true _ e p rfl g;exact⟨this.1,λj c _ i k=>this.2 j c (own j c i k).2 k⟩
 rcases aT.1 g with g|g;exact m e (gc _ g);rcases br.1 g with rfl|g;exact⟨B,λj c _ i k=>h.apart n j _ c o rfl (own j c i k).2 (fH k) (own j c i k).1⟩;exact m e (gG _ g)
end
def okl (E:ic) (H:FuncId->List SV->List aY->(SV->List aY->Prop)->Prop) (O:Oper->List SV->List aY->(List SV->List aY->Prop)->Prop):Nat->Oper->List SV->List aY->(List SV->List aY->Prop)->Prop
 |0,o,tm,hp,K=>O o tm hp K
 |n+1,o,tm,hp,K=>O o tm hp K\/ ∃b,(match an hp b with
  |some _=>fU hp b ⟨.t 0,true,[],0⟩ λd=>wJ {E with O:=okl E H O n} H o tm d K
  |none=>False)
def a2E {P E} (d:iU P E) {H} (r:ko P H) {O} (k:yl P O): ∀n,yl P (okl E H O n)
 |0=>k
 |n+1=>λo u p K h N F a w next Q q m=>by rcases h with h|⟨b,h⟩;exact k o u p K h q m;split at h;rename_i c y;rw[dR] at h;obtain⟨f,x,s,z⟩:=q;have g:iU P {E with O:=okl E H O n}:=⟨d.T,d.D,a2E d r k n,d.R,d.X⟩;have e:=dt p b (⟨.t 0,true,[],0⟩:aY) _ y;refine kQ g r h ⟨f,by rw[e];exact x.kill rfl (hW rfl) (iB rfl),λB j=>s B λi A=>j i ?_,z⟩ m;rw[e];unfold df;split;rfl;exact A;exact h.elim
def a5W (hp:List aY) (v:Value) (K:Nat->List aY->SV->Prop):Prop:=
 ∃g r len cap h fb l1 e l2,v= .slice (jK g ⟨r,0,none⟩) len cap/\e.a.1=r/\an hp fb=some ⟨.x (l1++e::l2),true,[],2⟩/\
  (XO hp/\WL r fb 0 hp/\ ∀i,i∈l1++l2->i.a.1≠r)/\fU hp fb ⟨.x (l1++l2),true,[],2⟩ λd=>jQ d ⟨.t e.ty,false,e.cs,e.tl⟩ λf=>pE hp λn=>K n f (.c (.sli g n 0 len cap h))
def YI {hp:List aY} {v:Value} {K:Nat->List aY->SV->Prop} (h:a5W hp v K) {N:Nat} {w0:ip} {ρ0:fF} {w:World} (L:dv N w0 (an hp) ρ0 w): ∃hp' s p,K (ln hp) hp' s/\dv N w0 (an hp') (ig ρ0 (ln hp) p) w/\(∀i,(an hp i).isSome=true->(an hp' i).isSome=true/\ig ρ0 (ln hp) p i=ρ0 i)/\ ∀ρ,gt (an hp') ρ (ig ρ0 (ln hp) p)->s.den ρ=v:=by
 obtain⟨O,r,len,G,M,y,u,e,k,rfl,rfl,g,⟨I,D,J⟩,h⟩:=h;rw[dR,eW,gq] at h;have A:=fY hp;have o:=dt hp y (⟨.x (u++k),true,[],2⟩:aY) _ g;have f:an (hp.set y (⟨.x (u++k),true,[],2⟩:aY)++[(⟨.t e.ty,false,e.cs,e.tl⟩:aY)])=df (df (an hp) y ⟨.x (u++k),true,[],2⟩) (ln hp) ⟨.t e.ty,false,e.cs,e.tl⟩:=by rw[fi,o,aZ]
 have B:=L.thaw A g (λi b d=>zU I d) (λi b l d z H F j=>Gb (yT D d (by rw[aN];exact z)) H F j) J;have q: ∀i,(an hp i).isSome=true->i≠ln hp:=λi d E=>by rw[E,A] at d;cases d
 refine⟨_,_,(e.a.1,0),h,by rw[f];exact B,λi d=>⟨?_,if_neg (q i d)⟩,λρ m=> ?_⟩;rw[f];unfold df;split;rfl;split;rfl;exact d;have:ρ (ln hp)=(e.a.1,0):=by rw[m _ (by rw[f];unfold df;rw[if_pos rfl];rfl)];unfold ig;rw[if_pos rfl]
 simp[SV.den,C.den,C.cells,this]
def Qd (hp:List aY):List SV->Nat->(List SV->List aY->Prop)->Prop
 |[],_,_=>False
 |x::l,0,K=>(match x with
  | .c (.val v)=>a5W hp v λ_ d s=>K (s::l) d
  |_=>False)
 |x::l,k+1,K=>Qd hp l k λl d=>K (x::l) d
def K0 {hp}: ∀{l:List SV} {k:Nat} {K:List SV->List aY->Prop},Qd hp l k K-> ∀{N:Nat} {w0:ip} {ρ0:fF} {w:World},dv N w0 (an hp) ρ0 w->
  ∃hp' l' p,K l' hp'/\dv N w0 (an hp') (ig ρ0 (ln hp) p) w/\(∀i,(an hp i).isSome=true->(an hp' i).isSome=true/\ig ρ0 (ln hp) p i=ρ0 i)/\ ∀ρ,gt (an hp') ρ (ig ρ0 (ln hp) p)->gt (an hp) ρ ρ0->l'.map (SV.den ρ)=l.map (SV.den ρ)
 |[],_,_,h=>h.elim
 |x::l,k+1,K,h=>λm=>by have h:Qd hp l k λl hp'=>K (x::l) hp':=h;obtain⟨hp',l',p,g,f,j,e⟩:=K0 h m;exact⟨hp',x::l',p,g,f,j,λρ d o=>by rw[aI,aI,e ρ d o]⟩
 |x::l,0,K,h=>λm=>by unfold Qd at h;split at h;obtain⟨hp',s,p,g,f,j,e⟩:=YI h m;exact⟨hp',s::l,p,g,f,j,λρ d _=>by rw[aI,aI,e ρ d];rfl⟩;exact h.elim
def XT (E:ic) (H:FuncId->List SV->List aY->(SV->List aY->Prop)->Prop) (O:Oper->List SV->List aY->(List SV->List aY->Prop)->Prop):Nat->Oper->List SV->List aY->(List SV->List aY->Prop)->Prop
 |0,o,d,hp,K=>O o d hp K
 |n+1,o,d,hp,K=>O o d hp K\/ ∃k,Qd hp d k λd e=>wJ {E with O:=XT E H O n} H o d e K
def Mr {P E} (e:iU P E) {H} (r:ko P H) {O} (g:yl P O): ∀n,yl P (XT E H O n)
 |0=>g
 |n+1=>λo B F K h N L a w next Q m j=>by rcases h with h|⟨k,h⟩;exact g o B F K h m j;obtain⟨x,G,s,I⟩:=m;obtain⟨A,J,p,z,u,i,y⟩:=K0 h G;have f:iU P {E with O:=XT E H O n}:=⟨e.T,e.D,Mr e r g n,e.R,e.X⟩;exact kQ f r z ⟨_,u,λq d=>by rw[y q d (d.sub i)];exact s q (d.sub i),I⟩ j
def En (T:TypeId->Option TI) (O:Oper->List SV->List aY->(List SV->List aY->Prop)->Prop) (o:Oper) (g:List SV) (hp:List aY) (K:List SV->List aY->Prop):Prop:=
 O o g hp K\/match o.op with
 | .indexAddr t x i=>(match T t with
  |some {sh:= .slice _ esz _, .. }=> ∃r d len q j,gv g x= .c (.val (.slice (some ⟨r,d,none⟩) len q))/\oH (gv g i)=some j/\j<len/\fI o.dst (.c (.val (.pointer (some ⟨r,d+j*esz,none⟩)))) g λg=>K g hp
  |some {sh:= .array n esz _, .. }=> ∃r d j,gv g x= .c (.val (.pointer (some ⟨r,d,none⟩)))/\oH (gv g i)=some j/\j<n/\fI o.dst (.c (.val (.pointer (some ⟨r,d+j*esz,none⟩)))) g λg=>K g hp
  |_=>False)
 | .fieldAddr t x f=>(match T t with
  |some {sh:= .struct fs, .. }=> ∃r d D n a,gv g x= .c (.val (.pointer (some ⟨r,d,none⟩)))/\an fs f=some (D,n,a)/\n≠0/\fI o.dst (.c (.val (.pointer (some ⟨r,d+D,none⟩)))) g λg=>K g hp
  |_=>False)
 | .load t x=>(match T t with
  |some m=> ∃r E d k F v,gv g x= .c (.val (.pointer (some ⟨r,E+d,none⟩)))/\Jv hp k (r,E) F/\(jP m.agg F d m.size=some v/\ ∀G u:fF,v.den G=v.den u)/\v.force λv=>fI o.dst v g λg=>K g hp
  |none=>False)
 | .store t x y=>(match(gv g y).ch,T t with
  |some l,some m=> ∃r d k A e p h,gv g x= .c (.val (.pointer (some ⟨r,d,none⟩)))/\(bu l=m.size/\gJ l=true/\e.a.1=r)/\an hp k=some ⟨.x (A++e::p),true,[],2⟩/\(TL e.cs d l=some h/\cC h)/\
   (XO hp/\WL r k 0 hp/\ ∀B,B∈A++p->B.a.1≠r)/\fU hp k ⟨.x (A++⟨(r,0),h,e.ty,e.tl⟩::p),true,[],2⟩ λz=>jQ z ⟨.t 0,true,[],0⟩ λs=>fI o.dst uv g λg=>K g s
  |_,_=>False)
 |_=>False
open Classical in
def nH {P T} (hT:Fw P T) {O} (hO:yl P O):yl P (En T O):=λo V k K h N w0 a w next Q hr hn=>by
 rcases h with h|h
 ·exact hO o V k K h hr hn
 obtain⟨d,hh,ht,hd⟩:=hr
 have Y: ∀I,gt (an k) I d->a.eval=gI (gv V) I:=λI a7=>fP (ht I a7)
 have A:=Y d (gt.refl _ _)
 have hN:=fY k
 have fin: ∀sv:SV,(∀I b5:fF,sv.den I=sv.den b5)->(execOp a.eval o).run P w= .ok (.value (sv.den d)) w->(fI o.dst sv V λV=>K V k)->o.wp P a w next Q:=λsv L H B=>by unfold Oper.wp;rw[H];rw[dp] at B;exact hn _ _ _ _ B (iN.put ht hd hh (λi q=>⟨q,rfl⟩) o.dst λI _=>L d I)
 have turn: ∀(x:Operand) (r b m:Nat),gv V x= .c (.val (.pointer (some ⟨r,b+m,none⟩)))->a.eval=gI (λz=>if z=x then .c (.ptr (ln k) m) else gv V z) (ig d (ln k) (r,b)):=λx r b m G=>by
  have L:=Y (ig d (ln k) (r,b)) λi q=>if_neg λe=>by rw[e,hN] at q;cases q
  funext z
  by_cases e:z=x
  ·subst e
   rw[L]
   simp only[gI,G,if_true,SV.den,C.den,C.cells,lF,ig,List.headD_cons]
  ·rw[L]
   simp only[gI,if_neg e]
 split at h
 ·rename_i t x i u
  split at h
  ·rename_i sz ag z e b8 ez eq s
   obtain⟨r,m,len,a2,j,G,q,c2,B⟩:=h
   refine fin _ ff ?_ B
   obtain⟨hu,he,D,-⟩:=ia hT s
   obtain⟨ie,D⟩:=aK.1 D
   have X:=run_sizeOf w D
   have Z:(SV.c (C.val (.slice (some ⟨r,m,none⟩) len a2))).den d= .slice (some ⟨r,m,none⟩) len a2:=rfl
   have hj:(0:Int)<=(j:Int)/\(j:Int)<(len:Int):=⟨om,om⟩
   rw[A]
   simp only[execOp,u,gI,G,kH q d,Z,Instr.indexAt,asIntOf,aX,bc,aB,run_underlying hu w]
   rw[if_pos hj]
   simp only[aX,X,aB,bc,Addr.add_mid,bW,he]
   simp[SV.den,C.den,C.cells]
  ·rename_i sz ag z n b8 eg eq s
   obtain⟨r,m,j,G,q,c2,B⟩:=h
   refine fin _ ff ?_ B
   obtain⟨e,hu,he,hr,-⟩:=ia hT s
   obtain⟨ie,D⟩:=fw hr
   have X:=run_sizeOf w D
   have Z:(SV.c (C.val (.pointer (some ⟨r,m,none⟩)))).den d= .pointer (some ⟨r,m,none⟩):=rfl
   have hj:(0:Int)<=(j:Int)/\(j:Int)<(n:Int):=⟨om,om⟩
   rw[A]
   simp only[execOp,u,gI,G,kH q d,Z,Instr.indexAt,asIntOf,aX,bc,aB,run_underlying hu w,Instr.sureAddr]
   rw[if_pos hj]
   simp only[aX,X,aB,bc,Addr.add_mid,bW,he]
   simp[SV.den,C.den,C.cells]
  ·exact h.elim
 ·rename_i t x f u
  split at h
  ·rename_i sz ag z fs eq s
   obtain⟨r,m,so,n,c5,G,hf,b6,B⟩:=h
   refine fin _ ff ?_ B
   obtain⟨fd,hu,hm,-⟩:=ia hT s
   obtain⟨g,hg,rfl,rfl,hr⟩:=tp hm hf
   obtain⟨i,q⟩:=fw hr
   have e:(SV.c (C.val (.pointer (some ⟨r,m,none⟩)))).den d= .pointer (some ⟨r,m,none⟩):=rfl
   have X:=run_sizeOf w q
   rw[A]
   simp only[execOp,u,gI,G,e,Instr.fieldAt,aX,run_underlying hu w,aB,hg,Instr.sureAddr,bc,fieldPlace,X]
   rw[if_neg b6]
   simp only[bc,aB,Addr.add_mid]
   simp[SV.den,C.den,C.cells]
  ·exact h.elim
 ·rename_i t x u
  split at h
  ·rename_i ti s
   obtain⟨r,o1,m,F,cs,v,G,⟨b,o',l,L,h2,⟨⟨r',o2⟩,p,c4,c6⟩,h3,h4,h5⟩,⟨hv,a6⟩,B⟩:=h
   simp only at h4 h5
   cases h4;subst h5
   rw[SV.force_eq] at B
   have hf:=hh.fam F b o' l _ L h2 h3
   have c1:af d p=af (λ_=>(0,0)) p:=hf.1.pure _ _
   have a5:=hh.addAt (n:=ln k) (v:=⟨.t 0,true,p,0⟩) hN rfl rfl hf.1.pure (r,o1) (.inr ⟨hf.1.lt,hf.2,by rw[c1];exact hf.1.holds⟩)
   refine fin v a6 ?_ B
   rw[turn x r o1 m G,a6 d (ig d (ln k) (r,o1))]
   refine pr hT (hp:=df (an k) (ln k) ⟨.t 0,true,p,0⟩) ?_ _ w λi c q=>a5.holds _ (gt.refl _ _) i c q
   rw[u]
   have hb:df (an k) (ln k) ⟨.t 0,true,p,0⟩ (ln k)=some ⟨.t 0,true,p,0⟩:=by unfold df;rw[if_pos rfl]
   simp only[mf,if_true,s,hb,hv]
  ·exact h.elim
 ·rename_i t x y u
  split at h
  ·rename_i l ti hy s
   obtain⟨r,m,F,l1,e,l2,p,G,⟨X,a9,rfl⟩,J,⟨hc,E⟩,⟨k1,k2,k3⟩,B⟩:=h
   rw[dR,eW,dp] at B
   have a4:=hh.thaw hN J (λi b q=>zU k1 q) (λi b l q b9 hm e' b7=>Gb (yT k2 q (by rw[aN];exact b9)) hm e' b7) k3
   have a0:ln k≠F:=λR=>by rw[<-R,hN] at J;cases J
   have a8:gt (an k) (ig d (ln k) (e.a.1,0)) d:=λi q=>if_neg λe=>by rw[e,hN] at q;cases q
   have U:df (df (an k) F ⟨.x (l1++l2),true,[],2⟩) (ln k) ⟨.t e.ty,false,e.cs,e.tl⟩ (ln k)=some ⟨.t e.ty,false,e.cs,e.tl⟩:=by unfold df;rw[if_pos rfl]
   have rn:ig d (ln k) (e.a.1,0) (ln k)=(e.a.1,0):=by unfold ig;rw[if_pos rfl]
   obtain⟨L,tt,b3,h2⟩:=vd hT s (a4.holds _ (gt.refl _ _) _ _ U) rfl (off:=m) hy X a9 hc
   have b2:=a4.put (cs:=p) (M:=af (ig d (ln k) (e.a.1,0)) l) (off:=m) U rfl (λI _=>⟨tt,b3,by rw[show af I p=af (ig d (ln k) (e.a.1,0)) p from E _ _];exact h2⟩)
   have a1:df (df (df (an k) F ⟨.x (l1++l2),true,[],2⟩) (ln k) ⟨.t e.ty,false,e.cs,e.tl⟩) (ln k) ⟨.t e.ty,false,p,e.tl⟩ F=some ⟨.x (l1++l2),true,[],2⟩:=by unfold df;rw[if_neg (Ne.symm a0),if_neg (Ne.symm a0),if_pos rfl]
   have hz:=b2.refrz (by unfold df;rw[if_pos rfl]) E a1
   rw[rn] at hz
   have W:an (k.set F (⟨.x (l1++⟨(e.a.1,0),p,e.ty,e.tl⟩::l2),true,[],2⟩:aY)++[(⟨.t 0,true,[],0⟩:aY)])=df (df (df (df (df (an k) F ⟨.x (l1++l2),true,[],2⟩) (ln k) ⟨.t e.ty,false,e.cs,e.tl⟩) (ln k) ⟨.t e.ty,false,p,e.tl⟩) (ln k) ⟨.t 0,true,[],0⟩) F ⟨.x (l1++⟨(e.a.1,0),p,e.ty,e.tl⟩::l2),true,[],2⟩:=by
    rw[fi,dt k F _ _ J,aZ]
    funext i
    unfold df
    by_cases R:i=F
    ·rw[if_neg (λe2=>a0 (e2.symm.trans R)),if_pos R,if_pos R]
    ·rw[if_neg R,if_neg R]
     by_cases e2:i=ln k
     ·rw[if_pos e2,if_pos e2]
     ·simp only[if_neg e2,if_neg R]
   have c0:a.eval x=lF (ig d (ln k) (e.a.1,0)) (ln k) m:=by rw[A];simp only[gI,G,SV.den,C.den,C.cells,lF,rn,List.headD_cons,aN]
   have c3:a.eval y=(gv V y).den (ig d (ln k) (e.a.1,0)):=by rw[Y _ a8];rfl
   unfold Oper.wp
   have H:(execOp a.eval o).run P w= .ok .skip (w.setCells (ig d (ln k) (e.a.1,0) (ln k)).1 m (af (ig d (ln k) (e.a.1,0)) l)):=by simp only[execOp,u,c0,c3,aX,L,aB,bc]
   rw[H]
   refine hn _ _ _ _ B (iN.put (ρ1:=ig d (ln k) (e.a.1,0)) ht hd ?_ (λi q=>⟨?_,a8 i q⟩) o.dst λI a7=>rfl)
   ·rw[W,rn];exact hz
   ·rw[W];unfold df
    (repeat' split)<;>first|rfl|exact q
  ·exact h.elim
 ·exact h.elim
end
section
variable {φ:Nat->Prop}
def a1M (φ:Nat->Prop) (b:aY):Prop:=
 match b.ty with
 | .x l=>(match b.ro,b.tl with
  |true,2=> ∀e,e∈l->φ e.a.1
  |true,3=> ∀e,e∈l->φ e.a.1
  |_,_=>True)
 |_=>True
def WS {b} (h: ∀o l e,b.famOf=some (o,l)->e∈l->φ e.a.1):a1M φ b:=by obtain⟨f,g,i,j⟩:=b;unfold a1M;simp only;split;split;exact λe d=>h true _ e rfl d;exact λe d=>h false _ e rfl d;trivial;trivial
def a0z (φ:Nat->Prop):List aY->Prop
 |[]=>True
 |b::l=>a1M φ b/\a0z φ l
def KV {φ}: ∀l,(∀i b o m e,an l i=some b->b.famOf=some (o,m)->e∈m->φ e.a.1)->a0z φ l
 |[],_=>trivial
 |b::l,h=>⟨WS λo m e f d=>h 0 b o m e rfl f d,KV l λi c o m e g f d=>h (i+1) c o m e g f d⟩
def a1R (hp:List aY) (fb b x:Nat) (K:List aY->Prop):Prop:=
 match an hp fb,an hp b,an hp x with
 |some ⟨.x l,true,[],2⟩,some ⟨.t ty1,false,cs,tl1⟩,some ⟨ty2,false,cs2,tl2⟩=>(cC cs/\nu b x=false/\nu fb x=false)/\ ∀r,a0z (λa=>a≠r) hp->fU hp fb ⟨.x (l++[⟨(r,0),cs,ty1,tl1⟩]),true,[],2⟩ λhp=>fU hp b ⟨.t 0,true,[],0⟩ λhp=>kE (DW b r cs2) λd=>fU hp x ⟨ty2,false,d,tl2⟩ K
 |_,_,_=>False
def WU {hp fb b x K} (h:a1R hp fb b x K) {N w0 ρ0 w} (A:dv N w0 (an hp) ρ0 w): ∃hp',K hp'/\Frz N w0 ρ0 w hp hp':=by
 unfold a1R at h;split at h;rename_i l t f s E u F r m O;obtain⟨⟨p,k,g⟩,h⟩:=h;have k:b≠x:=λe=>by subst e;rw[Nat.beq_refl] at k;cases k
 have g:fb≠x:=λe=>by subst e;rw[Nat.beq_refl] at g;cases g
 have z:fb≠b:=λe=>by subst e;rw[r] at m;cases m
 have h:=h (ρ0 b).1 (KV _ λi c o l e hi W D=>λU=>(A.fam i c o l e hi W D).2 b _ m rfl U.symm);simp only[dR,bV] at h;obtain⟨H,Z,L,q⟩:=(A.holds ρ0 (gt.refl _ _) b _ m).2 rfl;have Y:=A.old b _ m rfl;have G:iV N w true ⟨((ρ0 b).1,0),f,t,s⟩:=by have Q:af (λ_=>(0,0)) f=af ρ0 f:=p _ _;refine⟨p,⟨_,q,rfl⟩,λ_=>⟨A.own b _ m rfl,rfl,Z,L,by rw[Q];exact q⟩,?_,λh=>(by cases h)⟩;have P:=(A.holds ρ0 (gt.refl _ _) b _ m).1;show w.rangeAt (ρ0 b).1 0 (af (λ_=>(0,0)) f);rw[Q];rw[H] at P;exact P
 have X:=A.kill (b:=b) (v:=⟨.t 0,true,[],0⟩) rfl (hW rfl) (iB rfl)
 have T:=X.ghost (fb:=fb) (l:=l++[⟨((ρ0 b).1,0),f,t,s⟩]) (λe D=>by
  have own: ∀j c,df (an hp) b ⟨.t 0,true,[],0⟩ j=some c->c.ro=false->j≠b/\an hp j=some c:=λj c y B=>by unfold df at y;split at y;cases y;cases B;rename_i e;exact⟨e,y⟩
  rcases aT.1 D with D|D
  have:=A.fam fb _ true l e r rfl D
  exact⟨this.1,λj c _ y B=>this.2 j c (own j c y B).2 B⟩
  rw[bq.1 D]
  exact⟨G,λj c _ y B=>A.apart b j _ c m rfl (own j c y B).2 (fH B) (own j c y B).1|>λh=>h⟩)
 have M:df (df (an hp) b ⟨.t 0,true,[],0⟩) fb ⟨.x (l++[⟨((ρ0 b).1,0),f,t,s⟩]),true,[],2⟩ x=some ⟨E,false,u,F⟩:=by unfold df;rw[if_neg (Ne.symm g),if_neg (Ne.symm k)];exact O
 have V:=T.turn (d:=⟨E,false,DW b (ρ0 b).1 u,F⟩) M rfl ⟨rfl,rfl,rfl⟩ (λρ J=>by refine tu ?_ u;have:ρ b=ρ0 b:=J b (by unfold df;split;rfl;split;rfl;rw[m];rfl);rw[this,<-H]);have s1:an (hp.set fb ⟨.x (l++[⟨((ρ0 b).1,0),f,t,s⟩]),true,[],2⟩)=df (an hp) fb ⟨.x (l++[⟨((ρ0 b).1,0),f,t,s⟩]),true,[],2⟩:=dt _ _ _ _ r;have s2:=dt (hp.set fb ⟨.x (l++[⟨((ρ0 b).1,0),f,t,s⟩]),true,[],2⟩) b ⟨.t 0,true,[],0⟩ _ (by rw[s1];unfold df;rw[if_neg (Ne.symm z)];exact m);have R:=dt ((hp.set fb ⟨.x (l++[⟨((ρ0 b).1,0),f,t,s⟩]),true,[],2⟩).set b ⟨.t 0,true,[],0⟩) x ⟨E,false,DW b (ρ0 b).1 u,F⟩ _ (by rw[s2,s1];unfold df;rw[if_neg (Ne.symm k),if_neg (Ne.symm g)];exact O);have I:df (df (an hp) fb ⟨.x (l++[⟨((ρ0 b).1,0),f,t,s⟩]),true,[],2⟩) b ⟨.t 0,true,[],0⟩=df (df (an hp) b ⟨.t 0,true,[],0⟩) fb ⟨.x (l++[⟨((ρ0 b).1,0),f,t,s⟩]),true,[],2⟩:=by funext i;unfold df;by_cases G:i=b;rw[if_pos G,if_neg (λe=>z (e.symm.trans G)),if_pos G];rw[if_neg G];split<;>rfl
 refine⟨_,h,?_,λi=> ?_⟩;rw[R,s2,s1,I];exact V;rw[R,s2,s1];unfold df;split;rename_i e;rw[e,O];rfl;split;rename_i e;rw[e,m];rfl;split;rename_i e;rw[e,r];rfl;rfl;exact h.elim
def XS (O:Oper->List SV->List aY->(List SV->List aY->Prop)->Prop):Nat->Oper->List SV->List aY->(List SV->List aY->Prop)->Prop
 |0,o,tm,hp,K=>O o tm hp K
 |n+1,o,tm,hp,K=>O o tm hp K\/ ∃e b x,a1R hp e b x λd=>XS O n o tm d K
def Er {P O} (g:yl P O): ∀n,yl P (XS O n)
 |0=>g
 |n+1=>λo i s K h N z a w next Q k j=>by rcases h with h|⟨A,b,x,h⟩;exact g o i s K h k j;obtain⟨d,u,p,r⟩:=k;obtain⟨f,q,m⟩:=WU h u;exact Er g n o i f K q ⟨d,m.1,λy e=>p y (m.agr e),r⟩ j
end
def hkl (H:FuncId->List SV->List aY->(SV->List aY->Prop)->Prop) (f:FuncId) (args:List SV) (hp:List aY) (K:SV->List aY->Prop):Prop:=
 H f args hp K\/ ∃b,match an hp b with
  |some _=>fU hp b ⟨.t 0,true,[],0⟩ λd=>H f args d K
  |none=>False
section
variable {P:Program} {H:FuncId->List SV->List aY->(SV->List aY->Prop)->Prop}
def roK (hp:List aY):List Nat->(List aY->Prop)->Prop
 |[],K=>K []
 |b::l,K=>(match an hp b with
  |some ⟨e,_,cs,_⟩=>roK hp l λd=>K (⟨e,true,cs,0⟩::d)
  |none=>False)
def EG {hp}: ∀{l K},roK hp l K-> ∃ros,K ros/\ln ros=ln l/\xu ros/\ ∀i b,l[i]? =some b-> ∃c d,an hp b=some c/\an ros i=some d/\d.cs=c.cs
 |[],K,h=>⟨[],h,rfl,trivial,λi b h=>by simp at h⟩
 |b::l,K,h=>by
  unfold roK at h;split at h;rename_i p q r s k;obtain⟨ros,o,e,f,j⟩:=EG h;refine⟨_,o,by simp[e],⟨⟨rfl,rfl⟩,f⟩,λi m g=> ?_⟩
  cases i with
  |zero=>simp at g;subst g;exact⟨_,_,k,rfl,rfl⟩
  |succ i=>exact j i m (by simpa using g)
  exact h.elim
def Y5 (g:List Nat) (args d:List SV):Prop:= ∀f e:fF,(∀i b,an g i=some b->e i=f b)->args.map (SV.den f)=d.map (SV.den e)
def LU (l:List (FuncId×cP)) (H:FuncId->List SV->List aY->(SV->List aY->Prop)->Prop) (f:FuncId) (args:List SV) (hp:List aY) (K:SV->List aY->Prop):Prop:=
 match ZL l f with
 |some c=> ∃j h d,Y5 h args d/\(match an hp j with
  |some ⟨.x k,true,[],t⟩=>(t=2\/t=3)/\roK hp h λe=>jB e/\jQ e ⟨.x k,true,[],3⟩ λe=>c d e λv g=>pE hp λn=>Is hp g λi=>jQ h j λh=>K (v.mv h n) i
  |_=>False)
 |none=>H f args hp K
def lP {l} (hl:vB P l) (hH:ko P H):ko P (LU l H):=by
 intro f s u K h;unfold LU at h;split at h;rename_i c hc;have a0:=hl _ (uX hc);obtain⟨fb,bs0,l',G,h⟩:=h;split at h;rename_i X t R;obtain⟨ht,h⟩:=h;refine⟨a0.1,λN w0 m w hh _=> ?_⟩;obtain⟨y,B,F,D,Z⟩:=EG h;have L: ∀r p:fF,(∀i b,bs0[i]? =some b->p (0+i)=r b)->s.map (SV.den r)=l'.map (SV.den p):=λr p h=>G r p λi b g=>by rw[cD] at g;have:=h i b g;rw[aN] at this;exact this
 obtain⟨A,B⟩:=B;rw[eW] at B;have a4: ∃o,(⟨.x X,true,[],t⟩:aY).famOf=some (o,X):=by rcases ht with rfl|rfl<;>exact⟨_,rfl⟩
 obtain⟨j,hros⟩: ∃j,j=y++[⟨.x X,true,[],3⟩]:=⟨_,rfl⟩;obtain⟨q,hbsd⟩: ∃q,q=bs0++[fb]:=⟨_,rfl⟩;rw[<-hros] at B;have a7:ln j=ln q:=by rw[hros,hbsd];simp[F]
 have z:jB j:=by rw[hros];exact pL ff A
 have a1:wq j:=by rw[hros];exact ri ⟨rfl,rfl⟩ D
 have T: ∀i b,q[i]? =some b-> ∃c d,an u b=some c/\an j i=some d/\d.cs=c.cs:=λi b g=>by rw[hbsd] at g;by_cases hlt:i<ln bs0;rw[dN hlt] at g;obtain⟨c',d',O,h2,h3⟩:=Z i b g;refine⟨c',d',O,?_,h3⟩;rw[hros,cQ,if_pos om];exact h2;rw[fe om] at g;(have e:i-ln bs0=0:=by have:=(aw.1 g).1;simp at this;omega);rw[e] at g;simp at g;subst g;refine⟨_,⟨.x X,true,[],3⟩,R,?_,rfl⟩;rw[hros,cQ,if_neg om,show i-ln y=0 by omega];rfl
 have Y: ∀r p:fF,(∀i b,q[i]? =some b->p (0+i)=r b)->s.map (SV.den r)=l'.map (SV.den p):=λr p h=>L r p λi b g=>h i b (by rw[hbsd,dN (aw.1 g).1];exact g);let r:fF:=λi=>m (q[i]?.getD 0);have I: ∀i b,q[i]? =some b->r i=m b:=λi b g=>by show m (q[i]?.getD 0)=m b;rw[g];rfl
 have J:s.map (SV.den m)=l'.map (SV.den r):=Y m r (λi b g=>by rw[aN];exact I i b g);rw[J];have w7: ∀i b o l,an j i=some b->b.famOf=some (o,l)->o=false/\l=X:=λi b o l g M=>by rw[hros,cQ] at g;split at g;rw[iB (kd D g).2] at M;cases M;(have e:i-ln y=0:=by rw[cD] at g;have:=(aw.1 g).1;simp at this;omega);rw[e] at g;cases g;cases M;exact⟨rfl,rfl⟩
 refine(a0.2 l' j _ B a1 z r w (λi d hd=> ?_) (λi b o l e g M he=> ?_) (λi b o l g M=>(w7 i b o l g M).1)).mono ?_;have g:i<ln j:=by rw[cD] at hd;exact(aw.1 hd).1
 obtain⟨b,hb⟩: ∃b,q[i]? =some b:=⟨_,ae om⟩;obtain⟨c',d',O,h2,h3⟩:=T i b hb;rw[hd] at h2;cases h2;have:=(hh.holds m (gt.refl _ _) b c' O).1;have a5:af r d.cs=af m d.cs:=(jr z hd) r m;rw[I i b hb,a5,h3];exact this;obtain⟨rfl,rfl⟩:=w7 i b o l g M;obtain⟨o',a2⟩:=a4;have:=(hh.fam fb _ o' _ e R a2 he).1;exact⟨this.pure,this.row,λh=>(by cases h),this.holds,λ_=>this.lt⟩;rintro e w' ⟨v,news,σ,B,hn,hc,hσ,he⟩;rw[gq,uj,eW,<-hbsd] at B;refine⟨_,_,_,B,hh.join hc hn,λi g=> ?_,λU E=> ?_⟩;have V:i<ln u:=by obtain⟨x,Q⟩:=aK.1 g;rw[cD] at Q;exact(aw.1 Q).1
 exact⟨by rw[cQ,if_pos V];exact g,if_pos V⟩;rw[Ek];refine he _ (λk hk=> ?_);have hkl:k<(j++news).length:=by obtain⟨x,Q⟩:=aK.1 hk;rw[cD] at Q;exact(aw.1 Q).1
 show U (If q (ln u) k)=σ k;unfold If;by_cases hkr:k<ln j;have a6:k<ln q:=om;obtain⟨b,hb⟩: ∃b,q[k]? =some b:=⟨_,ae a6⟩;rw[cD,hb];obtain⟨c',d',O,-⟩:=T k b hb;have W:b<ln u:=by rw[cD] at O;exact(aw.1 O).1
 rw[hσ k hkr,I k b hb];have:=E b (by rw[cQ,if_pos W,O];rfl);rw[this];exact if_pos W;rw[cD,bi om];have Q:(an (u++news) (ln u+(k-ln q))).isSome=true:=by rw[cQ,if_neg om];rw[cQ,if_neg hkr] at hk;rw[show (ln u)+(k-ln q)-ln u=k-(ln j) by omega];exact hk
 have:=E _ Q;show U (ln u+(k-ln q))=σ k;rw[this];show(if (ln u)+(k-ln q)<(ln u) then _ else σ (ln u+(k-ln q)-ln u+ln j))=σ k;rw[if_neg om];congr 1;omega;exact h.elim;exact hH f s u K h
inductive At (X:Prop):Prop
 |mk (h:X)
def At.out {X:Prop}:At X->X
 | .mk h=>h
def a1q (n:Nat) (K:SV->List aY->Prop) (v:SV) (hp:List aY):Prop:=K v hp\/lK n [v] hp λd hp=>(match d with|[v]=>K v hp|_=>False)
def a2p:List FuncId->FuncId->Bool
 |[],_=>false
 |g::l,f=>(match nu g f with|true=>true|false=>a2p l f)
def hat (l:List FuncId) (H:FuncId->List SV->List aY->(SV->List aY->Prop)->Prop) (f:FuncId) (args:List SV) (hp:List aY) (K:SV->List aY->Prop):Prop:=
 match a2p l f with
 |true=>At (H f args hp λv d=>a1q (ln hp) K v d)
 |false=>H f args hp K
def ze {l} (D:ko P H):ko P (hat l H):=λf j r K h=>by unfold hat at h;split at h;have h:=h.out;refine⟨(D f j _ _ h).1,λN F m w e p=> ?_⟩;have A:dv N ⟨F.w,λi=>(an r i).isSome=true,m,0⟩ (an r) m w:=⟨e.old,e.own,e.apart,e.holds,e.bel,e.big,λi g=>⟨g,rfl⟩,e.maps,e.mapA,e.fam⟩;refine((D f j _ _ h).2 N _ m w A p).mono ?_;rintro x R ⟨v,hp2,ρ1,q,k2,k3,k4⟩;rcases q with q|⟨L,keep,pf,q⟩;exact⟨v,hp2,ρ1,q,⟨k2.old,k2.own,k2.apart,k2.holds,k2.bel,k2.big,λi g=>⟨(k3 i (e.ext i g).1).1,(k3 i (e.ext i g).1).2.trans (e.ext i g).2⟩,k2.maps,k2.mapA,k2.fam⟩,k3,k4⟩;have s:=k4 ρ1 (gt.refl _ _);have u:iN N ⟨F.w,λi=>(an r i).isSome=true,m,0⟩ [v] hp2 {tmps:= #[v.den ρ1],defers:=[]} R:=⟨ρ1,k2,λo k=>by have:=k4 o k;rw[s] at this;(have:v.den ρ1=v.den o:=by simpa using this);simp[this],KO.nil _ _ (ah _)⟩;obtain⟨T,J,⟨O,z,G,I,y⟩,E⟩:=uG (n0:=ln r) (λi g=>x8 g) u (q _);obtain⟨Q,d,B,-⟩:=E.same G I;split at y;rename_i M;refine⟨M,z,Q,y,⟨d.old,d.own,d.apart,d.holds,d.bel,d.big,λi g=>⟨(d.ext i (e.ext i g).1).1,(d.ext i (e.ext i g).1).2.trans (e.ext i g).2⟩,d.maps,d.mapA,d.fam⟩,λi g=>d.ext i g,λo k=> ?_⟩;have:=B o k;simp only[aI,dj,AV.injEq,and_true] at this;rw[s,this];exact y.elim;exact D f j r K h
end
section
variable {P:Program}
abbrev Pst:=List SV->List aY->(List SV->List aY->Prop)->Prop
def wO (j:Pst):Prop:= ∀h f K,j h f K-> ∀{N w0 ρ0 w},dv N w0 (an f) ρ0 w-> ∃e d,K e d/\dv N w0 (an d) ρ0 w/\(∀i,(an f i).isSome=true->(an d i).isSome=true)/\
 ∀g,gt (an d) g ρ0->h.map (SV.den g)=e.map (SV.den g)
def a2C (e:Pst) (O:Oper->List SV->List aY->(List SV->List aY->Prop)->Prop) (o:Oper) (d:List SV) (hp:List aY) (K:List SV->List aY->Prop):Prop:=O o d hp λd hp=>K d hp\/e d hp K
def Mp {q} (p:wO q) {O} (I:yl P O):yl P (a2C q O):=λo D E K h N L a w next Q G r=>by refine I o D E _ h G λA B M R e d=> ?_;rcases e with e|e;exact r _ _ _ _ e d;obtain⟨j,F,u,y⟩:=d;obtain⟨H,z,k,m,x,g⟩:=p _ _ _ e F;exact r _ _ _ _ k ⟨j,m,λs f=>by rw[<-g s f];exact u s λi J=>f i (x i J),y⟩
def Xc (e:Pst) (H:FuncId->List SV->List aY->(SV->List aY->Prop)->Prop) (f:FuncId) (args:List SV) (hp:List aY) (K:SV->List aY->Prop):Prop:=H f args hp λv hp=>K v hp\/e [v] hp λd hp=>(match d with|[v]=>K v hp|_=>False)
def D0 {z} (s:wO z) {H} (D:ko P H):ko P (Xc z H):=λf d A K h=>by refine⟨(D f d A _ h).1,λN E o w J e=>((D f d A _ h).2 N E o w J e).mono ?_⟩;rintro x L ⟨v,hp2,ρ1,k,k2,k3,k4⟩;rcases k with k|k;exact⟨v,hp2,ρ1,k,k2,k3,k4⟩;obtain⟨I,q,p,r,y,j⟩:=s _ _ _ k k2;split at p;rename_i F;refine⟨F,q,ρ1,p,r,λi m=>⟨y i (k3 i m).1,(k3 i m).2⟩,λB g=> ?_⟩;have G:=k4 B λi m=>g i (y i m);have u:=j B g;simp only[aI,dj,AV.injEq,and_true] at u;rw[G,u];exact p.elim
def m3 (l d:List mq):Prop:= ∃m,d=l++m
def m3.refl l:m3 l l:=⟨[],(bk l).symm⟩
def m3.trans {a b c} (h:m3 a b) (k:m3 b c):m3 a c:=by obtain⟨m,rfl⟩:=h;obtain⟨n,rfl⟩:=k;exact⟨m++n,aJ _ _ _⟩
def m3.inF {a b} (h:m3 a b) {x cs} (k:pg a x cs):pg b x cs:=by obtain⟨m,rfl⟩:=h;exact k.left
def OQ (d:List SV) (hp:List aY) (K:List SV->List aY->Prop):Prop:=
 ∃f b t,match an hp f,an hp b,ij uv d t with
 |some ⟨.x l,true,[],2⟩,some ⟨.t _,ro,cs,_⟩,.c (.sli nl b' 0 len cap _)=>(b'=b/\ro=nl/\cC cs/\(nl=true->cs=[]))/\t<ln d/\ ∀r e,m3 l e->(cs=[]\/pg e (r,0) cs)->
  fU hp f ⟨.x e,true,[],2⟩ λhp=>fU hp b ⟨.t 0,true,[],0⟩ λhp=>fU d t (.c (.val (.slice (jK nl ⟨r,0,none⟩) len cap))) λd=>K d hp
 |_,_,_=>False
def uY {d g:Type} (f:d->g) (l:List d) (i:Nat) (x:d) (h: ∀y,l[i]? =some y->f y=f x):(l.set i x).map f=l.map f:=by rw[List.map_set];by_cases hi:i<ln l;have e:=h _ (ae hi);rw[<-e];apply jg sp;intro j m k;by_cases hj:i=j;subst hj;simp;simp[hj];rw[a6K su]
def yb:wO OQ:=λtm m K h N w0 f w E=>by
 obtain⟨q,b,t,h⟩:=h;split at h;rename_i l A ro k B nl d len T Q g u W;obtain⟨⟨rfl,rfl,o,H⟩,a1,h⟩:=h;have D:q≠d:=λe=>by subst e;rw[g] at u;cases u
 have L: ∀y,tm[t]? =some y->y= .c (.sli ro d 0 len T Q):=λy I=>by rw[iE,I] at W;exact W
 cases ro with
 |true=>have U:=H rfl;subst U;have h:=h 0 l (m3.refl l) (.inl rfl);simp only[dR] at h;(have s:an (m.set q ⟨.x l,true,[],2⟩)=an m:=by rw[dt _ _ _ _ g];funext i;unfold df;split;rename_i e;rw[e];exact g.symm;rfl);(have Y:an ((m.set q ⟨.x l,true,[],2⟩).set d ⟨.t 0,true,[],0⟩)=df (an m) d ⟨.t 0,true,[],0⟩:=by rw[dt _ _ _ _ (by rw[s];exact u),s]);refine⟨_,_,h,by rw[Y];exact E.kill rfl (hW rfl) (iB rfl),λi V=> ?_,λZ _=> ?_⟩;rw[Y];unfold df;split;rfl;exact V;refine(uY _ _ _ _ λy I=> ?_).symm;rw[L y I];rfl
 |false=>
  have hnew: ∀r,(f d).1=r->_:=λr hr=>h r (l++[⟨(r,0),k,A,B⟩]) ⟨_,rfl⟩ (.inr pg.last)
  have h:=hnew _ rfl
  simp only[dR] at h
  obtain⟨J,t0,R,p⟩:=(E.holds f (gt.refl _ _) d _ u).2 rfl
  have a0:=E.old d _ u rfl
  have s:iV N w true ⟨((f d).1,0),k,A,B⟩:=by have h3:af (λ_=>(0,0)) k=af f k:=o _ _;refine⟨o,⟨_,p,rfl⟩,λ_=>⟨E.own d _ u rfl,rfl,t0,R,by rw[h3];exact p⟩,?_,λh=>(by cases h)⟩;have X:=(E.holds f (gt.refl _ _) d _ u).1;show w.rangeAt (f d).1 0 (af (λ_=>(0,0)) k);rw[h3];rw[J] at X;exact X
  have k1:=E.kill (b:=d) (v:=⟨.t 0,true,[],0⟩) rfl (hW rfl) (iB rfl)
  have k2:=k1.ghost (fb:=q) (l:=l++[⟨((f d).1,0),k,A,B⟩]) (λe G=>by
   have own: ∀j c,df (an m) d ⟨.t 0,true,[],0⟩ j=some c->c.ro=false->j≠d/\an m j=some c:=λj c z F=>by unfold df at z;split at z;cases z;cases F;rename_i e;exact⟨e,z⟩
   rcases aT.1 G with G|G
   have:=E.fam q _ true l e g rfl G
   exact⟨this.1,λj c _ z F=>this.2 j c (own j c z F).2 F⟩
   rw[bq.1 G]
   exact⟨s,λj c _ z F=>E.apart d j _ c u rfl (own j c z F).2 (fH F) (own j c z F).1|>λh=>h⟩)
  have s1:an (m.set q ⟨.x (l++[⟨((f d).1,0),k,A,B⟩]),true,[],2⟩)=df (an m) q ⟨.x (l++[⟨((f d).1,0),k,A,B⟩]),true,[],2⟩:=dt _ _ _ _ g
  have s2:=dt (m.set q ⟨.x (l++[⟨((f d).1,0),k,A,B⟩]),true,[],2⟩) d ⟨.t 0,true,[],0⟩ _ (by rw[s1];unfold df;rw[if_neg (Ne.symm D)];exact u)
  have M:df (df (an m) q ⟨.x (l++[⟨((f d).1,0),k,A,B⟩]),true,[],2⟩) d ⟨.t 0,true,[],0⟩=df (df (an m) d ⟨.t 0,true,[],0⟩) q ⟨.x (l++[⟨((f d).1,0),k,A,B⟩]),true,[],2⟩:=by funext i;unfold df;by_cases s:i=d;rw[if_pos s,if_neg (λe=>D (e.symm.trans s)),if_pos s];rw[if_neg s];split<;>rfl
  refine⟨_,_,h,by rw[s2,s1,M];exact k2,λi V=> ?_,λZ O=> ?_⟩
  rw[s2,s1]
  unfold df
  split
  rfl
  split
  rfl
  exact V
  refine(uY _ _ _ _ λy I=> ?_).symm
  rw[L y I]
  have e:Z d=f d:=O d (by rw[s2];unfold df;rw[if_pos rfl];rfl)
  simp only[SV.den,C.den,C.cells,jK,e,J,fM]
 exact h.elim
end
section
open Go Go.RowKit
def inN:List Nat->Nat->Bool
 |[],_=>false
 |a::l,i=>(match nu a i with|true=>true|false=>inN l i)
def Fj (keep:List Nat) (d:Nat->Value):Nat->List SV->List SV
 |_,[]=>[]
 |i,x::l=>(match inN keep i with|true=>x|false=> .c (.val (d i)))::Fj keep d (i+1) l
def LM (keep:List Nat) (ρ:fF): ∀(tm:List SV) (i:Nat) (f:Nat->Value),(∀j x,tm[j]? =some x->f (i+j)=x.den ρ)->(Fj keep f i tm).map (SV.den ρ)=tm.map (SV.den ρ)
 |[],_,_,_=>rfl
 |x::l,i,f,h=>by
  unfold Fj;rw[aI,aI,LM keep ρ l (i+1) f λj y d=>by have:=h (j+1) y d;rwa[show i+1+j=i+(j+1) by omega]];have e:f i=x.den ρ:=h 0 x rfl
  cases inN keep i with
  |true=>rfl
  |false=>show(SV.c (.val (f i))).den ρ::_=_;rw[e];rfl
def Jo (ρ:fF) (d:List SV) (i:Nat):Value:=match an d i with|some x=>x.den ρ|none=>undef
def za (keep:List Nat) (ρ:fF) (d:List SV):(Fj keep (Jo ρ d) 0 d).map (SV.den ρ)=d.map (SV.den ρ):=LM keep ρ d 0 _ λj x e=>by unfold Jo;rw[aN,cD,e]
def yOp (o:Oper) (d:List SV):Option (Nat×List SV):=
 match o.op with
 | .call c=>(match c.callee with
  | .value f=>(match gv d f with
   | .c (.val (.func (.yield m) ⟨[]⟩ ⟨[]⟩))=>some (m,c.args.toList.map (gv d))
   |_=>none)
  |_=>none)
 |_=>none
section
variable (E:ic) (H:FuncId->List SV->List aY->(SV->List aY->Prop)->Prop) (l:Nat) (xs:List (List SV)) (hpI:List aY)
def U7 (hp:List aY) (e:List SV):Prop:= ∀f d,gt (an hp) f d->e.map (SV.den f)=e.map (SV.den d)
def U7.put {hp:List aY} {g:List SV} (h:U7 hp g) (d:Option Tmp) (b:Bool):U7 hp (match d with|some t=>g.set t (.c (.val (.bool b)))|none=>g):=λi f e=>by
 cases d with
 |none=>exact h i f e
 |some t=>simp only[List.map_set,h i f e];rfl
def Pi (o:Oper) (h:Bool) (k:Nat) (d:List SV) (hp:List aY) (K:Bool->Nat->List SV->List aY->Prop):Prop:=
 match yOp o d with
 |some (m,args)=>(m=l/\h=false/\k<ln xs/\ ∀i,args.map (SV.den i)=(ij [] xs k).map (SV.den i))/\ ∃keep,∀g,U7 hpI (Fj keep g 0 d)/\
  (fI o.dst (.c (.val (.bool true))) (Fj keep g 0 d) λd=>K false (k+1) d hpI)/\
  ∃e,∀f,U7 [] (Fj e f 0 (Fj keep g 0 d))/\fI o.dst (.c (.val (.bool false))) (Fj e f 0 (Fj keep g 0 d)) λd=>K true k d []
 |none=>wJ E H o d hp λd hp=>K h k d hp
def nk (all:Array Oper):List Oper->Bool->Nat->List SV->List aY->(Bool->Nat->List SV->List aY->Prop)->Prop
 |[],f,k,d,e,K=>K f k d e
 |o::os,f,k,d,e,K=>
  match o.guard with
  |none=>Pi E H l xs hpI o f k d e λf k d e=>nk all os f k d e K
  |some (j,want)=>(match lh all j with
   |some t=>(match ij uv d t with
    | .c (.val (.bool b))=>(match want with
     |true=>mX b (fU d t (.c (.val (.bool true))) λd=>Pi E H l xs hpI o f k d e λf k d e=>nk all os f k d e K) (fU d t (.c (.val (.bool false))) λd=>fI o.dst uv d λd=>nk all os f k d e K)
     |false=>mX b (fU d t (.c (.val (.bool true))) λd=>fI o.dst uv d λd=>nk all os f k d e K) (fU d t (.c (.val (.bool false))) λd=>Pi E H l xs hpI o f k d e λf k d e=>nk all os f k d e K))
    | .c (.val (.tuple _))=>fI o.dst uv d λd=>nk all os f k d e K
    |_=>False)
   |none=>False)
def Nj:Code->Bool->Nat->List SV->List aY->(SE->Bool->Nat->List SV->List aY->Prop)->Prop
 | .skip,f,k,d,g,Q=>Q .normal f k d g
 | .ret,f,k,d,g,Q=>Q .ret f k d g
 | .exit id,f,k,d,g,Q=>Q (.exit id) f k d g
 | .seq a b,f,k,d,g,Q=>Nj a f k d g λe f k d g=>(match e with| .normal=>Nj b f k d g Q| .exit id=>Q (.exit id) f k d g| .ret=>Q .ret f k d g)
 | .cond c x y,f,k,d,g,Q=>(match gv d c with
  | .c (.val (.bool b))=>mX b (Nj x f k d g Q) (Nj y f k d g Q)
  |_=>False)
 | .block id c,f,k,d,g,Q=>Nj c f k d g λe f k d g=>(match e with| .normal=>Q .normal f k d g| .exit i=>if i=id then Q .normal f k d g else Q (.exit i) f k d g| .ret=>Q .ret f k d g)
 | .region _ ops false,f,k,d,g,Q=>nk E H l xs hpI ops ops.toList f k d g λf k d g=>Q .normal f k d g
 | .region id ops true,f,k,d,g,Q=>vcR E H id ops.toList ops.toList d g λd g=>Q .normal f k d g
 | .loop c,f,k,d,_,Q=>f=false/\ ∃I:Nat->Nat->List SV->Prop,
   (∃keep,∀h,U7 hpI (Fj keep h 0 d)/\ ∃m,I m k (Fj keep h 0 d))/\
   ∀m k d,I m k d->Nj c false k d hpI λe f k d g=>(match e with
    | .normal=>f=false/\ ∃keep,∀h,U7 hpI (Fj keep h 0 d)/\ ∃j,j<m/\I j k (Fj keep h 0 d)
    | .exit id=>Q (.exit id) f k d g
    | .ret=>Q .ret f k d g)
 |_,_,_,_,_,_=>False
end
def Tu:Code->Bool
 | .region _ ops true=>okR ops.toList ops.toList&&ops.toList.all nD
 | .region _ ops false=>ops.toList.all nD
 | .seq a b=>Tu a&&Tu b
 | .cond _ a b=>Tu a&&Tu b
 | .block _ c=>Tu c
 | .loop c=>Tu c
 | .skip=>true
 | .ret=>true
 | .exit _=>true
 |_=>false
def KJ {o:Oper} {c:Call} {f:Operand} (ho:o.op= .call c) (d:c.callee= .value f) {ρ:Operand->Value} {l:Nat} (e:ρ f= .func (.yield l) #[] #[]) {xs:Array Value} (hx:c.args.map ρ=xs) (P:Program) (w:World):(execOp ρ o).run P w=(Instr.yield l xs).run P w:=by subst hx;obtain⟨h,xs,g⟩:=c;simp only at d;subst d;simp only[execOp,ho,resolve,e,Deferred.ofValue,aX,bc,aB,invoke];simp
section
variable {P:Program} {E:ic} (hE:iU P E) (hm:P.follows .mixedOrders=true) {H:FuncId->List SV->List aY->(SV->List aY->Prop)->Prop} (hH:ko P H)
variable {l:Nat} {xs:List (List SV)} {hpI:List aY} {ρI:fF} {J:Nat->World->Prop} {Jx:World->Prop}
def Fo (hpI:List aY) (ρI:fF) (w:World):Prop:= ∀i b,an hpI i=some b->b.ro=true/\b.mapOf=none/\(∀d,gt (an hpI) d ρI->fq d b i w)/\(b.void=false->(ρI i).1<w.heap.size)/\ ∀o l,b.famOf=some (o,l)-> ∀e∈l,iV w.heap.size w o e
variable (hJ: ∀k A B,J k A->A.grownBy B none->J k B) (hX: ∀A B,Jx A->A.grownBy B none->Jx B) (hG: ∀k A,J k A->Fo hpI ρI A)
 (hY: ∀k A,J k A->k<xs.length->YieldAt Fence.wide 0 P l (((ij [] xs k).map (SV.den ρI)).toArray) A λe B=>(e= .returned (.bool true)/\J (k+1) B)\/(e= .returned (.bool false)/\Jx B))
def bsI (hpI:List aY) (ρI:fF) (d:Bool) (w:World):ip:=⟨w,λi=>d=false/\(an hpI i).isSome=true,ρI,0⟩
def s6 (J:Nat->World->Prop) (f:World->Prop) (hpI:List aY) (ρI:fF) (e:Bool) (k:Nat) (g:List SV) (hp:List aY) (a:Act) (w:World):Prop:=∃d,(if e=true then f d else J k d)/\iN d.heap.size (bsI hpI ρI e d) g hp a w
def QI (J:Nat->World->Prop) (g:World->Prop) (hpI:List aY) (ρI:fF) (Q:SE->Bool->Nat->List SV->List aY->Prop):Exit->Act->World->Prop
 | .normal,a,w=> ∃f k d e,Q .normal f k d e/\s6 J g hpI ρI f k d e a w
 | .exit id,a,w=> ∃f k d e,Q (.exit id) f k d e/\s6 J g hpI ρI f k d e a w
 | .ret,a,w=> ∃f k d e,Q .ret f k d e/\s6 J g hpI ρI f k d e a w
 |_,_,_=>False
def a0w {Q:SE->Bool->Nat->List SV->List aY->Prop}: ¬LetsOut (QI J Jx hpI ρI Q):=λ⟨_,_,h⟩=>h
def tS {o:Bool} {i:List SV} {hp:List aY} {a:Act} {e w:World} (h:iN e.heap.size (bsI hpI ρI o e) i hp a w):e.grownBy w none/\a.defers=[]:=by
 obtain⟨g,d,q,M,m,-,-,p⟩:=h;refine⟨⟨d.bel.below.os,d.bel.below.tape,d.bel.below.output,d.bel.below.size,λk j _=>d.bel.below.block k j⟩,?_⟩;rw[m]
 cases M with
 |nil=>rfl
 |cons D M=>obtain⟨r,-,f⟩:=p D aP;have:D<e.heap.size:=(aE.1 f).1;omega
def tT {q:List SV} {a:Act} {w:World} (f:Fo hpI ρI w) (m:U7 hpI q) (s:a.tmps.toList=q.map (SV.den ρI)) (x:a.defers=[]):iN w.heap.size (bsI hpI ρI false w) q hpI a w:=by refine⟨ρI,⟨λi b d u=>(f i b d).2.2.2.1 u,λi b d h=> ?_,λi j b c d h=> ?_,λr g i b d=>(f i b d).2.2.1 r g,sR.refl _ _,ai _,λi d=>⟨d.2,rfl⟩,λi b e d k=> ?_,λi j b c d _ p=> ?_,λi b o l e d p k=>⟨(f i b d).2.2.2.2 o l p e k,λj c y m=> ?_⟩⟩,λr g=>s.trans (m ρI r λi d=>(g i d).symm),by rw[x];exact KO.nil _ _ (ah _)⟩;rw[(f i b d).1] at h;cases h;rw[(f i b d).1] at h;cases h;rw[(f i b d).2.1] at k;cases k;rw[(f i b d).2.1] at p;cases p;rw[(f j c y).1] at m;cases m
def OX {g:List SV} {a:Act} {w:World} (r:U7 [] g) (m:a.tmps.toList=g.map (SV.den ρI)) (p:a.defers=[]):iN w.heap.size (bsI hpI ρI true w) g [] a w:=by
 have f: ∀{i:Nat} {b:aY},an ([]:List aY) i=some b->False:=λh=>by simp[an] at h
 exact⟨ρI,⟨λi b d=>(f d).elim,λi b d=>(f d).elim,λi j b c d=>(f d).elim,λk _ i b d=>(f d).elim,sR.refl _ _,ai _,λi d=>(by cases d.1),λi b e d=>(f d).elim,λi j b c d=>(f d).elim,λi b o l e d=>(f d).elim⟩,λk q=>m.trans (r ρI k λi d=>by simp[an] at d),by rw[p];exact KO.nil _ _ (ah _)⟩
variable (hpure: ∀x∈xs,∀y∈x,∀ρ ρ',y.den ρ=y.den ρ')
include hE hH hJ hG hY hpure
def Nk {o:Oper} (p:nD o=true) {L:Bool} {k:Nat} {j:List SV} {hp:List aY} {K:Bool->Nat->List SV->List aY->Prop} (h:Pi E H l xs hpI o L k j hp K) {a:Act} {w:World} (T:s6 J Jx hpI ρI L k j hp a w) {next:Act->World->Prop} {Q:Exit->Act->World->Prop} (hn: ∀L k j hp a w,K L k j hp->s6 J Jx hpI ρI L k j hp a w->next a w):o.wpIn (FR none) 0 P a w next Q:=by
 obtain⟨W0,A,T⟩:=T;unfold Pi at h;split at h;rename_i m a6 g;obtain⟨⟨x,rfl,W,s⟩,keep,h⟩:=h;have x:l=m:=x.symm;subst x;have hj:J k W0:=A;obtain⟨a0,M⟩:=tS T;have a1:J k w:=hJ k _ _ hj a0;obtain⟨d,hh,ht,-⟩:=T;have D:=ht d (gt.refl _ _);obtain⟨q,X,u,z⟩:=h (Jo d j);have Z:gt (an hpI) d ρI:=λi hi=>(hh.ext i ⟨rfl,hi⟩).2;have r:a.tmps.toList=(Fj keep (Jo d j) 0 j).map (SV.den ρI):=D.trans ((za keep d j).symm.trans (q d ρI Z));unfold yOp at g;split at g;rename_i c a2;split at g;rename_i f R;split at g;rename_i m' hf;cases g;obtain⟨fn,I,Y,G,a5,V⟩:=hY k w a1 W;have he:o.semAt (FR none).round a.eval=execOp a.eval o:=by unfold nD at p;unfold Oper.semAt;split;rename_i X z;rw[z] at p;cases p;rfl
 have N:(ij [] xs k).map (SV.den ρI)=(ij [] xs k).map (SV.den d):=by (have hx:ij [] xs k∈xs:=by rw[iE,ae W];exact ak W);exact iK λy hy=>hpure _ hx y hy ρI d
 have O:((o.semAt (FR none).round a.eval).run P w)= .ok (.round l fn I Y G) w:=by rw[he,<-a5,fP D];refine KJ (ρ:=gI (gv j) d) a2 R (l:=l) ?_ ?_ P w;show(gv j f).den d=_;rw[hf];rfl;rw[N,<-s d];apply Array.ext';simp[gI]
 refine⟨λ_ _=>trivial,?_⟩;rw[O];refine⟨(λh=>by cases h),RoundIn.mono (F:=Fence.wide) V ?_⟩;rintro e B (⟨rfl,hjb⟩|⟨rfl,hxb⟩);rw[dp] at X;exact hn _ _ _ _ _ _ X ⟨B,hjb,tT (hG _ _ hjb) (q.put _ _) (EC r o.dst (.c (.val (.bool true))) rfl) ((pM _ _ _).trans M)⟩;obtain⟨a4,z⟩:=z (Jo ρI (Fj keep (Jo d j) 0 j));rw[dp] at z;exact hn _ _ _ _ _ _ z ⟨B,hxb,OX (a4.put _ _) (EC (r.trans (za u ρI _).symm) o.dst (.c (.val (.bool false))) rfl) ((pM _ _ _).trans M)⟩;cases g;cases g;cases g;exact tQ none p (kQ hE hH h T λa7 a8 a' w' hK U=>hn _ _ _ _ _ _ hK ⟨W0,A,U⟩)
omit hE hH hJ hG hY hpure in
def Hn {g:Bool} {k:Nat} {f:List SV} {hp:List aY} {a:Act} {w:World} (o:s6 J Jx hpI ρI g k f hp a w) (d:Option Tmp):s6 J Jx hpI ρI g k (match d with|some t=>f.set t uv|none=>f) hp (a.put d undef) w:=by obtain⟨r,e,j,p,h,m⟩:=o;exact⟨r,e,iN.put h m p (λi q=>⟨q,rfl⟩) d λs _=>rfl⟩
def o6 {all:Array Oper} {K:Bool->Nat->List SV->List aY->Prop} {Q:Exit->Act->World->Prop} (r: ∀st k tm hp a w,K st k tm hp->s6 J Jx hpI ρI st k tm hp a w->Q .normal a w):
  ∀(os:List Oper) (_:os.all nD=true) (st:Bool) (k:Nat) (tm:List SV) (hp:List aY),nk E H l xs hpI all os st k tm hp K-> ∀a w,s6 J Jx hpI ρI st k tm hp a w->wpListIn (FR none) 0 P all Q os a w
 |[],_,st,k,tm,hp,h,a,w,hr=>r _ _ _ _ _ _ h hr
 |o::os,hnd,st,k,tm,hp,h,a,w,hr=>by
  simp only[KM,aG] at hnd;unfold nk at h;unfold wpListIn;split at h;rename_i u;rw[if_pos (by simp[Region.wanted,u])];exact Nk hE hH hJ hG hY hpure hnd.1 h hr λst k tm hp a w y g=>o6 r os hnd.2 st k tm hp y a w g;rename_i j d u;split at h;rename_i t q;split at h;rename_i b m;(have z:yielded all a.tmps j=some b:=by obtain⟨_,_,f,-,x,-⟩:=hr;exact p5 q (x f (gt.refl _ _)) m);(have p:Region.wanted o (yielded all a.tmps)=(b==d):=by unfold Region.wanted;rw[u];simp only[z];cases b<;>cases d<;>rfl)
  have s:Pi E H l xs hpI o st k tm hp (λst k tm hp=>nk E H l xs hpI all os st k tm hp K)->o.wpIn (FR none) 0 P a w (wpListIn (FR none) 0 P all Q os) Q:=λh=>
   Nk hE hH hJ hG hY hpure hnd.1 h hr λst k tm hp a w y g=>o6 r os hnd.2 st k tm hp y a w g
  (have skip:fI o.dst uv tm (λtm=>nk E H l xs hpI all os st k tm hp K)->wpListIn (FR none) 0 P all Q os (a.put o.dst undef) w:=λh=>by rw[dp] at h;exact o6 r os hnd.2 st k _ hp h _ _ (Hn hr o.dst));split at h;obtain⟨i,e⟩:=jL h;rw[dR] at i e
  cases b with
  |true=>rw[if_pos (by rw[p];rfl)];exact s (by rw[gj m (gN _)] at i;exact i rfl)
  |false=>rw[if_neg (by rw[p];simp)];exact⟨λ_ _=>trivial,skip (by rw[gj m (gN _)] at e;exact e rfl)⟩
  obtain⟨i,e⟩:=jL h;rw[dR] at i e
  cases b with
  |true=>rw[if_neg (by rw[p];simp)];exact⟨λ_ _=>trivial,skip (by rw[gj m (gN _)] at i;exact i rfl)⟩
  |false=>rw[if_pos (by rw[p];rfl)];exact s (by rw[gj m (gN _)] at e;exact e rfl)
  rename_i l m;(have z:yielded all a.tmps j=none:=by obtain⟨_,_,f,-,x,-⟩:=hr;exact p4 q (x f (gt.refl _ _)) m);(have p:Region.wanted o (yielded all a.tmps)=false:=by unfold Region.wanted;rw[u];simp only[z];cases d<;>rfl);rw[if_neg (by rw[p];simp)];rw[dp] at h;exact⟨λ_ _=>trivial,o6 r os hnd.2 st k _ hp h _ _ (Hn hr o.dst)⟩;cases h;cases h
omit hE hH hY hpure in
def Ah {k:Nat} {g:List SV} {hp:List aY} {a:Act} {w:World} (j:s6 J Jx hpI ρI false k g hp a w) {X:List SV->Prop} (h: ∃keep,∀vs,U7 hpI (Fj keep vs 0 g)/\X (Fj keep vs 0 g)): ∃tm1,X tm1/\s6 J Jx hpI ρI false k tm1 hpI a w:=by obtain⟨u,m,j⟩:=j;obtain⟨keep,h⟩:=h;have z:J k u:=m;obtain⟨p,r⟩:=tS j;have f:J k w:=hJ k _ _ z p;obtain⟨d,y,s,-⟩:=j;have q:=s d (gt.refl _ _);obtain⟨e,x⟩:=h (Jo d g);have o:gt (an hpI) d ρI:=λi A=>(y.ext i ⟨rfl,A⟩).2;exact⟨_,x,w,f,tT (hG _ _ f) e (q.trans ((za keep d g).symm.trans (e d ρI o))) r⟩
include hm in
def t5: ∀(c:Code) (_:Tu c=true) (st:Bool) (k:Nat) (tm:List SV) (hp:List aY) (Q:SE->Bool->Nat->List SV->List aY->Prop),Nj E H l xs hpI c st k tm hp Q-> ∀a w,s6 J Jx hpI ρI st k tm hp a w->c.wpIn (FR none) 0 P (QI J Jx hpI ρI Q) a w
 | .skip,_,st,k,tm,hp,Q,h,a,w,f=>wpIn_skip ⟨st,k,tm,hp,h,f⟩
 | .ret,_,st,k,tm,hp,Q,h,a,w,f=>wpIn_ret ⟨st,k,tm,hp,h,f⟩
 | .exit id,_,st,k,tm,hp,Q,h,a,w,f=>wpIn_exit ⟨st,k,tm,hp,h,f⟩
 | .seq x y,d,st,k,tm,hp,Q,h,a,w,f=>by
  simp only[Tu,aG] at d;refine wpIn_seq (wpIn_mono (t5 x d.1 st k tm hp _ h a w f) λe B D g=> ?_)
  cases e with
  |normal=>obtain⟨q,s,j,o,i,p⟩:=g;exact t5 y d.2 q s j o Q i B D p
  |exit id=>exact g
  |ret=>exact g
  |goto l=>exact g.elim
  |panic c=>exact g.elim
  |outgrown=>exact g.elim
 | .cond c x y,d,st,k,tm,hp,Q,h,a,w,f=>by simp only[Tu,aG] at d;unfold Nj at h;split at h;rename_i b z;(have U:a.eval c= .bool b:=by obtain⟨w1,-,G,-,W,-⟩:=f;rw[fP (W G (gt.refl _ _)),gI,z];rfl);obtain⟨i,p⟩:=jL h;exact wpIn_cond_split U (λz=>t5 x d.1 st k tm hp Q (i z) a w f) (λz=>t5 y d.2 st k tm hp Q (p z) a w f);cases h
 | .block id c,d,st,k,tm,hp,Q,h,a,w,f=>by
  refine wpIn_block (wpIn_mono (t5 c d st k tm hp _ h a w f) λe B D g=> ?_)
  cases e with
  |normal=>exact g
  |exit id'=>obtain⟨q,s,j,o,i,p⟩:=g;simp only at i;show if id'=id then _ else _;split;rename_i e;rw[if_pos e] at i;exact⟨q,s,j,o,i,p⟩;rename_i e;rw[if_neg e] at i;exact⟨q,s,j,o,i,p⟩
  |ret=>exact g
  |goto l=>exact g.elim
  |panic c=>exact g.elim
  |outgrown=>exact g.elim
 | .loop c,d,st,k,tm,hp,Q,h,a,w,f=>by
  simp only[Tu] at d;unfold Nj at h;obtain⟨rfl,I,A,r⟩:=h
  have N: ∀m k tm,I m k tm-> ∀a w,s6 J Jx hpI ρI false k tm hpI a w->Code.roundsIn (FR none) 0 P c (QI J Jx hpI ρI Q) (m+1) a w:=by
   intro m
   induction m using Nat.strongRecOn with
   |_ m R=>
    intro k tm V a w f;rw[roundsIn_succ];refine wpIn_mono (t5 c d false k tm hpI _ (r m k tm V) a w f) λe B D g=> ?_
    cases e with
    |normal=>obtain⟨q,s,j,o,p,h3⟩:=g;obtain⟨rfl,p⟩:=p;obtain⟨u,⟨F,i,T⟩,h4⟩:=Ah hJ hG h3 (X:=λt=> ∃F,F<m/\I F s t) p;exact n4 om (R F i s u T B D h4)
    |exit id=>exact g
    |ret=>exact g
    |goto l=>exact g.elim
    |panic c=>exact g.elim
    |outgrown=>exact g.elim
  obtain⟨u,⟨m,Y⟩,O⟩:=Ah hJ hG f (X:=λt=> ∃m,I m k t) A;exact wpIn_loop_rounds _ (N m k u Y a w O)
 | .region id ops draw,d,st,k,tm,hp,Q,h,a,w,f=>by
  cases draw with
  |true=>unfold Nj at h;have d:(okR ops.toList ops.toList&&ops.toList.all nD)=true:=d;obtain⟨d,M⟩:=Bool.and_eq_true_iff.1 d;obtain⟨Z,L,f⟩:=f;have key:=KD hE hH (Q:=QI J Jx hpI ρI Q) (λ_ _ _ _ h=>h) (λj o B D i p=>⟨st,k,j,o,i,Z,L,p⟩) ops.toList ops.toList d h f.drew;simp only[Array.toArray_toList,dg] at key;exact wpIn_region_any hm (od none a0w M key)
  |false=>unfold Nj at h;exact wpIn_region_list (o6 hE hH hJ hG hY hpure (λst k tm hp a w i p=>⟨st,k,tm,hp,i,p⟩) ops.toList d st k tm hp h a w f)
 | .rangeFunc _ _ _ _,d,_,_,_,_,_,_,_,_,_=>by cases d
 | .scope _,d,_,_,_,_,_,_,_,_,_=>by cases d
 | .label _,d,_,_,_,_,_,_,_,_,_=>by cases d
 | .goto _,d,_,_,_,_,_,_,_,_,_=>by cases d
end
def L7 {P:Program} {E:ic} (hE:iU P E) (hm:P.follows .mixedOrders=true) {H:FuncId->List SV->List aY->(SV->List aY->Prop)->Prop} (hH:ko P H) {f:FuncId} {fn:Func} (hfn:P.funcs[f]? =some fn) {c:Code} (hc:fn.body=some c) (hk:Tu c=true) (hres:fn.results= #[])
  {xs:List (List SV)} (hpure: ∀x∈xs,∀y∈x,∀ρ ρ',y.den ρ=y.den ρ') {hpI:List aY} {ρ ρI:fF} {lb:Array Value} {caps:List SV} {G:World->Prop} (hG: ∀w,G w->Fo hpI ρI w) (hlb:lb.toList=caps.map (SV.den ρI)) (hcl:U7 hpI caps)
  (h: ∀l,Nj E H l xs hpI c false 0 (.c (.val (.func (.yield l) #[] #[]))::(caps++au (fn.ntmps-(ln caps+1)) uv)) hpI λe st k _ _=>(match e with| .exit _=>False|_=>st=true\/k=ln xs)):
  IterOk P f lb (λk=>((ij [] xs k).map (SV.den ρ)).toArray) (ln xs) G:=λl J Jx W hJ hX hGJ hY h0=>by
 refine callsIn_of_wp hfn (c:=c) hc trivial ?_ rfl
 have hg0:=hG _ (hGJ _ _ h0)
 have hrel:s6 J Jx hpI ρI false 0 (.c (.val (.func (.yield l) #[] #[]))::(caps++au (fn.ntmps-(ln caps+1)) uv)) hpI {tmps:= #[.func (.yield l) #[] #[]]++lb++Array.replicate (fn.ntmps-(#[Value.func (.yield l) #[] #[]]++lb).size) undef,defers:=[]} W:=by (have hsz:lb.size=ln caps:=by rw[<-dg,hlb,bO]);refine⟨W,h0,tT hg0 (λρ ρ' hρ=> ?_) ?_ rfl⟩;simp only[aI,aV,List.map_replicate,hcl ρ ρ' hρ];rfl;simp only[Array.toList_append,hlb,aI,aV,List.map_replicate,Array.toList_replicate,Array.size_append,hsz];rw[aJ,show(#[Value.func (.yield l) #[] #[]]:Array Value).size+ln caps=ln caps+1 from fu _ _];rfl
 refine wpIn_mono (t5 hE hm hH hJ (λk A h=>hG _ (hGJ k A h)) (λk A hA hk=> ?_) hpure c hk false 0 _ _ _ (h l) _ _ hrel) λe a' W' hq=> ?_
 have e:(ij [] xs k).map (SV.den ρI)=(ij [] xs k).map (SV.den ρ):=by (have hx:ij [] xs k∈xs:=by rw[iE,ae hk];exact ak hk);exact iK λy hy=>hpure _ hx y hy ρI ρ
 rw[e];exact hY k A hA hk
 have fin: ∀{st k tm hp},s6 J Jx hpI ρI st k tm hp a' W'->(st=true\/k=ln xs)->a'.defers=[]/\ ∃v,(results fn a'.tmps).run P W'= .ok v W'/\(∃v',Ending.returned v= .returned v')/\(J (ln xs) W'\/Jx W'):=λ{st k tm hp} hr hs=>by
  obtain⟨W0,hw0,hr⟩:=hr;obtain⟨hgr,hde⟩:=tS hr;refine⟨hde,_,results_none hres _ _ _,⟨_,rfl⟩,?_⟩
  cases st with
  |true=>exact .inr (hX _ _ hw0 hgr)
  |false=>rcases hs with hs|rfl;cases hs;exact .inl (hJ _ _ _ hw0 hgr)
 cases e with
 |normal=>obtain⟨st,k,tm,hp,h1,h2⟩:=hq;exact fin h2 h1
 |ret=>obtain⟨st,k,tm,hp,h1,h2⟩:=hq;exact fin h2 h1
 |exit id=>obtain⟨_,_,_,_,h1,_⟩:=hq;exact h1.elim
 |goto l=>exact hq.elim
 |panic c=>exact hq.elim
 |outgrown=>exact hq.elim
def ci {b:Nat} {l:List Nat} {hp d:List aY} {ty:TypeId} {g:Bool} {cs e:List C} {f:Nat} (h1:an hp b=some ⟨.t ty,g,cs,f⟩) (h2:an d b=some ⟨.t ty,g,e,f⟩) (i: ∀ρ,af ρ cs=af ρ e) (h:kY l hp d):kY (b::l) hp d:=by unfold kY;rw[h1,h2];exact⟨⟨rfl,rfl,rfl⟩,i,h⟩
def mO {b:Nat} {l:List Nat} {hp d:List aY} {f g:List mq} {k:Nat} (h1:an hp b=some ⟨.x f,true,[],k⟩) (h2:an d b=some ⟨.x g,true,[],k⟩) (e: ∃m,g=f++m) (h:kY l hp d):kY (b::l) hp d:=by unfold kY;rw[h1,h2];exact⟨rfl,e,h⟩
def pN {n0:Nat} {ps:List Tmp} {p:List Nat} {b:List SV->List aY->(SE->List SV->List aY->Prop)->Prop} {f:List SV} {Q:SE->List SV->List aY->Prop} {xs:List (List SV)} {G:Type} (P:Nat->G->Prop) (B:Nat->G->List aY)
  (d: ∀k (hk:k<ln xs) g,P k g-> ∀(R:List aY->Prop),(∀g',P (k+1) g'->R (B (k+1) g'))->Hu ps xs[k] f λtm1=>b tm1 (B k g) λe _ hp'=>(match e with
   | .normal=>Iq n0 hp' λhp'=>kY p (B k g) hp'/\R hp'
   | .exit id=>Q (.exit id) f hp'
   | .ret=>Q .ret f hp'))
  (i: ∀g,P (ln xs) g->Q .normal f (B (ln xs) g)) (g:G) (h:P 0 g):wk n0 ps p b f Q xs (B 0 g):=by
 have key: ∀(m k:Nat),m+k=ln xs-> ∀g,P k g->wk n0 ps p b f Q (xs.drop k) (B k g):=by
  intro m
  induction m with
  |zero=>intro k hk g h;obtain rfl:k=ln xs:=om;rw[a8S];exact i g h
  |succ m ih=>intro k hk g h;have j:k<ln xs:=om;rw[List.drop_eq_getElem_cons j];exact d k j g h _ λg' o=>ih (k+1) om g' o
 exact key (ln xs) 0 rfl g h
end
section
variable {α:Type}
def zi:C:= .int 0 (by unfold IR;omega)
def zw:C:= .wid 0 0 (by unfold Sm;decide)
def zb:C:= .val (.bool false)
def zs:C:= .val (.string ⟨#[]⟩)
theorem Rm (ρ:fF):zw.cells ρ=[.bool false,.string ⟨#[]⟩]:=by simp[zw,C.cells,qQ]
theorem Rk (ρ:fF):zi.cells ρ=[.int .i64 0]:=rfl
theorem Rj (ρ:fF):zb.cells ρ=[.bool false]:=rfl
theorem Rl (ρ:fF):zs.cells ρ=[.string ⟨#[]⟩]:=rfl
theorem NR (ρ:fF) (v:Value):(C.val v).cells ρ=[v]:=rfl
def lk {α:Type}:List (Nat×α)->Nat->Option α
 |[],_=>none
 |(a,x)::l,n=>if a=n then some x else lk l n
theorem S1 {l:List (Nat×α)} {n:Nat} {x:α} (h:lk l n=some x):(n,x)∈l:=by
 induction l with
 |nil=>simp[lk] at h
 |cons p l ih=>
  obtain⟨a,y⟩:=p
  unfold lk at h
  split at h
  rename_i e;cases h;subst e;simp
  simp[ih h]
theorem tkU {P:Prop} (h:P:=by first|exact underlying2|exact underlying3|exact underlying4|exact underlying5|exact underlying9|exact underlying12|exact underlying21|exact underlying22|exact underlying24|exact underlying25|exact underlying27|exact underlying28|exact underlying29|exact underlying30|exact underlying33|exact underlying34|exact underlying35|exact underlying38|exact underlying39|exact underlying50|exact underlying53|exact underlying54|exact underlying55|exact underlying57|exact underlying58|exact underlying59|exact underlying61|exact underlying62|exact underlying63|exact underlying65|exact underlying76|exact underlying77|exact underlying78|exact underlying90|exact underlying91|exact underlying94|exact underlying110|exact underlying113|exact underlying116|exact underlying117|exact underlying119|exact underlying120|exact underlying121|exact underlying123|exact underlying128|exact underlying130|exact underlying135|exact underlying139|exact underlying140|exact underlying144|exact underlying145|exact underlying150|exact underlying153|exact underlying159|exact underlying168|exact underlying180|exact underlying181|exact underlying184|exact underlying186|exact underlying191|exact underlying192|exact underlying196|exact underlying197|exact underlying199|exact underlying201|exact underlying213|exact underlying215|exact underlying216|exact underlying218|exact underlying219|exact underlying220|exact underlying222|exact underlying223|exact underlying255|exact underlying262|exact underlying273|exact underlying300):P:=h
theorem tkZ {P:Prop} (h:P:=by(try simp only[af,aL,bF,Rk,Rm,Rj,Rl,NR,cK,ge]);first|kernel_rfl|rfl):P:=h
theorem tk {t:TypeId} {ti:TI} (h:Vs prog t ti:=by
 refine⟨kr,kr,λρ=>tkZ,?_,?_⟩
 first
 |exact trivial
 |exact tkU
 |exact⟨_,tkU,kr,dc⟩
 |exact⟨_,tkU,kr,kr,dc⟩
 |exact⟨tkU,kr,kr,dc,kr,λρ=>⟨tkZ,tkZ⟩⟩
 intro ks h;cases h<;>exact⟨kr,kr,rfl⟩):Vs prog t ti:=h
def tyL:List (TypeId×TI):=[(2,⟨1,false,[zi],.int .i64,none⟩),(3,⟨1,false,[zi],.int .i64,none⟩),(4,⟨1,false,[zb],.bool,none⟩),(5,⟨1,false,[.val (.int .u8 0)],.int .u8,none⟩),(9,⟨1,false,[zs],.string,none⟩),(12,⟨1,false,[.val (.int .u64 0)],.int .u64,none⟩),(21,⟨1,false,[.val (.int .i32 0)],.int .i32,none⟩),(22,⟨1,false,[.val (.slice none 0 0)],.slice 3 1 [zi],none⟩),(24,⟨3,true,[.val (.slice none 0 0),.val (.int .u8 0),.val (.int .u8 0)],.struct [(0,1,false),(1,1,false),(2,1,false)],none⟩),(25,⟨5,true,[zi,zi,zi,zi,zi],.array 5 1 false,some [.i .i64,.i .i64,.i .i64,.i .i64,.i .i64]⟩),(27,⟨1,false,[.val (.slice none 0 0)],.slice 55 3 [.val (.slice none 0 0),zi,zi],none⟩),(28,⟨1,false,[.val (.slice none 0 0)],.slice 63 8 [zi,.val (.slice none 0 0),.val (.slice none 0 0),.val (.slice none 0 0),zi,zi,zw],none⟩),(29,⟨2,true,[.val (.slice none 0 0),.val (.slice none 0 0)],.struct [(0,1,false),(1,1,false)],none⟩),(30,⟨2,true,[.val (.slice none 0 0),.val (.slice none 0 0)],.struct [(0,1,false),(1,1,false)],none⟩),(33,⟨3,true,[zi,zi,zi],.struct [(0,1,false),(1,1,false),(2,1,false)],some [.i .i64,.i .i64,.i .i64]⟩),(34,⟨5,true,[zi,zi,zi,zi,zi],.struct [(0,3,true),(3,1,false),(4,1,false)],some [.i .i64,.i .i64,.i .i64,.i .i64,.i .i64]⟩),(35,⟨5,true,[zi,zi,zi,zi,zi],.struct [(0,3,true),(3,1,false),(4,1,false)],some [.i .i64,.i .i64,.i .i64,.i .i64,.i .i64]⟩),(38,⟨1,false,[.val (.slice none 0 0)],.slice 4 1 [zb],none⟩),(39,⟨1,false,[.val (.slice none 0 0)],.slice 4 1 [zb],none⟩),(50,⟨2,true,[.val (.int .u8 0),.val (.int .u8 0)],.array 2 1 false,some [.i .u8,.i .u8]⟩),(53,⟨1,false,[.val (.slice none 0 0)],.slice 58 9 [zi,zi,zi,zi,zi,zi,zi,zi,zi],none⟩),(54,⟨3,true,[.val (.slice none 0 0),zi,zi],.struct [(0,1,false),(1,1,false),(2,1,false)],none⟩),(55,⟨3,true,[.val (.slice none 0 0),zi,zi],.struct [(0,1,false),(1,1,false),(2,1,false)],none⟩),(56,⟨1,false,[.val (.pointer none)],.other,none⟩),(57,⟨9,true,[zi,zi,zi,zi,zi,zi,zi,zi,zi],.array 3 3 true,some [.i .i64,.i .i64,.i .i64,.i .i64,.i .i64,.i .i64,.i .i64,.i .i64,.i .i64]⟩),(58,⟨9,true,[zi,zi,zi,zi,zi,zi,zi,zi,zi],.array 3 3 true,some [.i .i64,.i .i64,.i .i64,.i .i64,.i .i64,.i .i64,.i .i64,.i .i64,.i .i64]⟩),(59,⟨1,false,[.val (.slice none 0 0)],.slice 192 6 [zi,zi,zi,zi,zi,zi],none⟩),(61,⟨2,true,[zw],.struct [(0,1,false),(1,1,false)],some [.b,.s]⟩),(62,⟨8,true,[zi,.val (.slice none 0 0),.val (.slice none 0 0),.val (.slice none 0 0),zi,zi,zw],.struct [(0,1,false),(1,1,false),(2,1,false),(3,1,false),(4,1,false),(5,1,false),(6,2,true)],none⟩),(63,⟨8,true,[zi,.val (.slice none 0 0),.val (.slice none 0 0),.val (.slice none 0 0),zi,zi,zw],.struct [(0,1,false),(1,1,false),(2,1,false),(3,1,false),(4,1,false),(5,1,false),(6,2,true)],none⟩),(65,⟨4,true,[zi,zi,zi,zi],.array 4 1 false,some [.i .i64,.i .i64,.i .i64,.i .i64]⟩),(76,⟨1,false,[.val (.slice none 0 0)],.slice 78 5 [zi,zi,zw,zb],none⟩),(77,⟨5,true,[zi,zi,zw,zb],.struct [(0,1,false),(1,1,false),(2,2,true),(4,1,false)],some [.i .i64,.i .i64,.b,.s,.b]⟩),(78,⟨5,true,[zi,zi,zw,zb],.struct [(0,1,false),(1,1,false),(2,2,true),(4,1,false)],some [.i .i64,.i .i64,.b,.s,.b]⟩),(80,⟨1,false,[.val (.pointer none)],.other,none⟩),(85,⟨1,false,[.val (.pointer none)],.other,none⟩),(86,⟨1,false,[.val (.pointer none)],.other,none⟩),(90,⟨7,true,[zi,zi,zi,zi,zi,zi,zi],.struct [(0,3,true),(3,3,true),(6,1,false)],some [.i .i64,.i .i64,.i .i64,.i .i64,.i .i64,.i .i64,.i .i64]⟩),(91,⟨7,true,[zi,zi,zi,zi,zi,zi,zi],.struct [(0,3,true),(3,3,true),(6,1,false)],some [.i .i64,.i .i64,.i .i64,.i .i64,.i .i64,.i .i64,.i .i64]⟩),(94,⟨1,false,[.val (.slice none 0 0)],.slice 53 1 [.val (.slice none 0 0)],none⟩),(110,⟨1,false,[.val (.int .u64 0)],.int .u64,none⟩),(113,⟨1,false,[.val (.slice none 0 0)],.slice 117 1 [.val .nilFunc],none⟩),(115,⟨1,false,[.val .nilFunc],.other,none⟩),(116,⟨1,true,[.val .nilFunc],.struct [(0,1,false)],none⟩),(117,⟨1,true,[.val .nilFunc],.struct [(0,1,false)],none⟩),(118,⟨1,false,[.val (.pointer none)],.other,none⟩),(119,⟨1,false,[.val (.slice none 0 0)],.slice 181 4 [.val (.slice none 0 0),zi,.val (.slice none 0 0),.val (.slice none 0 0)],none⟩),(120,⟨1,true,[.val (.slice none 0 0)],.struct [(0,1,false)],none⟩),(121,⟨1,true,[.val (.slice none 0 0)],.struct [(0,1,false)],none⟩),(123,⟨1,false,[.val (.slice none 0 0)],.slice 22 1 [.val (.slice none 0 0)],none⟩),(128,⟨2,true,[zi,.val (.slice none 0 0)],.struct [(0,1,false),(1,1,false)],none⟩),(130,⟨1,false,[.val (.int .u64 0)],.int .u64,none⟩),(135,⟨2,true,[.val (.slice none 0 0),.val (.slice none 0 0)],.array 2 1 false,none⟩),(138,⟨1,false,[.val (.map none)],.other,none⟩),(139,⟨2,true,[.val (.map none),.val (.map none)],.array 2 1 false,none⟩),(140,⟨2,true,[zi,zi],.array 2 1 false,some [.i .i64,.i .i64]⟩),(144,⟨1,false,[.val (.slice none 0 0)],.slice 110 1 [.val (.int .u64 0)],none⟩),(145,⟨1,false,[.val (.slice none 0 0)],.slice 110 1 [.val (.int .u64 0)],none⟩),(150,⟨1,false,[.val (.slice none 0 0)],.slice 5 1 [.val (.int .u8 0)],none⟩),(153,⟨1,false,[.val (.slice none 0 0)],.slice 33 3 [zi,zi,zi],none⟩),(159,⟨1,false,[zi],.int .i64,none⟩),(168,⟨3,true,[zi,zi,zi],.array 3 1 false,some [.i .i64,.i .i64,.i .i64]⟩),(180,⟨4,true,[.val (.slice none 0 0),zi,.val (.slice none 0 0),.val (.slice none 0 0)],.struct [(0,1,false),(1,1,false),(2,1,false),(3,1,false)],none⟩),(181,⟨4,true,[.val (.slice none 0 0),zi,.val (.slice none 0 0),.val (.slice none 0 0)],.struct [(0,1,false),(1,1,false),(2,1,false),(3,1,false)],none⟩),(184,⟨1,false,[.val (.slice none 0 0)],.slice 186 6 [zi,zi,zi,zi,zi,zi],none⟩),(186,⟨6,true,[zi,zi,zi,zi,zi,zi],.array 2 3 true,some [.i .i64,.i .i64,.i .i64,.i .i64,.i .i64,.i .i64]⟩),(191,⟨6,true,[zi,zi,zi,zi,zi,zi],.struct [(0,3,true),(3,3,true)],some [.i .i64,.i .i64,.i .i64,.i .i64,.i .i64,.i .i64]⟩),(192,⟨6,true,[zi,zi,zi,zi,zi,zi],.struct [(0,3,true),(3,3,true)],some [.i .i64,.i .i64,.i .i64,.i .i64,.i .i64,.i .i64]⟩),(195,⟨1,false,[.val (.pointer none)],.other,none⟩),(196,⟨8,true,[zb,zb,zb,zb,zb,zb,zb,zb],.array 8 1 false,some [.b,.b,.b,.b,.b,.b,.b,.b]⟩),(197,⟨24,true,[zi,zi,zi,zi,zi,zi,zi,zi,zi,zi,zi,zi,zi,zi,zi,zi,zi,zi,zi,zi,zi,zi,zi,zi],.array 24 1 false,some [.i .i64,.i .i64,.i .i64,.i .i64,.i .i64,.i .i64,.i .i64,.i .i64,.i .i64,.i .i64,.i .i64,.i .i64,.i .i64,.i .i64,.i .i64,.i .i64,.i .i64,.i .i64,.i .i64,.i .i64,.i .i64,.i .i64,.i .i64,.i .i64]⟩),(199,⟨32,true,[zb,zb,zb,zb,zb,zb,zb,zb,zi,zi,zi,zi,zi,zi,zi,zi,zi,zi,zi,zi,zi,zi,zi,zi,zi,zi,zi,zi,zi,zi,zi,zi],.struct [(0,8,true),(8,24,true)],some [.b,.b,.b,.b,.b,.b,.b,.b,.i .i64,.i .i64,.i .i64,.i .i64,.i .i64,.i .i64,.i .i64,.i .i64,.i .i64,.i .i64,.i .i64,.i .i64,.i .i64,.i .i64,.i .i64,.i .i64,.i .i64,.i .i64,.i .i64,.i .i64,.i .i64,.i .i64,.i .i64,.i .i64]⟩),(201,⟨24,true,[zb,zb,zb,zb,zb,zb,zb,zb,zb,zb,zb,zb,zb,zb,zb,zb,zb,zb,zb,zb,zb,zb,zb,zb],.array 24 1 false,some [.b,.b,.b,.b,.b,.b,.b,.b,.b,.b,.b,.b,.b,.b,.b,.b,.b,.b,.b,.b,.b,.b,.b,.b]⟩),(213,⟨1,false,[.val (.slice none 0 0)],.slice 219 23 [zi,zi,zi,zw,zw,zw,zw,zw,zw,zw,zw,zw,zw],none⟩),(215,⟨20,true,[zw,zw,zw,zw,zw,zw,zw,zw,zw,zw],.array 10 2 true,some [.b,.s,.b,.s,.b,.s,.b,.s,.b,.s,.b,.s,.b,.s,.b,.s,.b,.s,.b,.s]⟩),(216,⟨20,true,[zw,zw,zw,zw,zw,zw,zw,zw,zw,zw],.array 10 2 true,some [.b,.s,.b,.s,.b,.s,.b,.s,.b,.s,.b,.s,.b,.s,.b,.s,.b,.s,.b,.s]⟩),(218,⟨23,true,[zi,zi,zi,zw,zw,zw,zw,zw,zw,zw,zw,zw,zw],.struct [(0,3,true),(3,20,true)],some [.i .i64,.i .i64,.i .i64,.b,.s,.b,.s,.b,.s,.b,.s,.b,.s,.b,.s,.b,.s,.b,.s,.b,.s,.b,.s]⟩),(219,⟨23,true,[zi,zi,zi,zw,zw,zw,zw,zw,zw,zw,zw,zw,zw],.struct [(0,3,true),(3,20,true)],some [.i .i64,.i .i64,.i .i64,.b,.s,.b,.s,.b,.s,.b,.s,.b,.s,.b,.s,.b,.s,.b,.s,.b,.s,.b,.s]⟩),(220,⟨1,false,[.val (.slice none 0 0)],.slice 223 8 [zi,zi,zi,zi,zi,zi,zw],none⟩),(222,⟨8,true,[zi,zi,zi,zi,zi,zi,zw],.struct [(0,3,true),(3,3,true),(6,2,true)],some [.i .i64,.i .i64,.i .i64,.i .i64,.i .i64,.i .i64,.b,.s]⟩),(223,⟨8,true,[zi,zi,zi,zi,zi,zi,zw],.struct [(0,3,true),(3,3,true),(6,2,true)],some [.i .i64,.i .i64,.i .i64,.i .i64,.i .i64,.i .i64,.b,.s]⟩),(255,⟨6,true,[zw,zw,zw],.array 3 2 true,some [.b,.s,.b,.s,.b,.s]⟩),(262,⟨8,true,[zw,zw,zw,zw],.array 4 2 true,some [.b,.s,.b,.s,.b,.s,.b,.s]⟩),(273,⟨32,true,[.val (.int .u8 0),.val (.int .u8 0),.val (.int .u8 0),.val (.int .u8 0),.val (.int .u8 0),.val (.int .u8 0),.val (.int .u8 0),.val (.int .u8 0),.val (.int .u8 0),.val (.int .u8 0),.val (.int .u8 0),.val (.int .u8 0),.val (.int .u8 0),.val (.int .u8 0),.val (.int .u8 0),.val (.int .u8 0),.val (.int .u8 0),.val (.int .u8 0),.val (.int .u8 0),.val (.int .u8 0),.val (.int .u8 0),.val (.int .u8 0),.val (.int .u8 0),.val (.int .u8 0),.val (.int .u8 0),.val (.int .u8 0),.val (.int .u8 0),.val (.int .u8 0),.val (.int .u8 0),.val (.int .u8 0),.val (.int .u8 0),.val (.int .u8 0)],.array 16 2 true,some [.i .u8,.i .u8,.i .u8,.i .u8,.i .u8,.i .u8,.i .u8,.i .u8,.i .u8,.i .u8,.i .u8,.i .u8,.i .u8,.i .u8,.i .u8,.i .u8,.i .u8,.i .u8,.i .u8,.i .u8,.i .u8,.i .u8,.i .u8,.i .u8,.i .u8,.i .u8,.i .u8,.i .u8,.i .u8,.i .u8,.i .u8,.i .u8]⟩),(300,⟨1,false,[.val (.int .u32 0)],.int .u32,none⟩),(304,⟨1,false,[.val (.pointer none)],.other,none⟩)]
def qo (t:TypeId):Option TI:=lk tyL t
theorem tyA: ∀x∈tyL,Vs prog x.1 x.2:=by
 unfold tyL
 repeat(refine List.forall_mem_cons.2 ⟨tk,?_⟩)
 exact λ_ h=>nomatch h
theorem eD:Fw prog qo:=λ_ _ h=>tyA _ (S1 h)
end
end Go.Proofs.YtlgcobafjbajdaaGreatDoor
