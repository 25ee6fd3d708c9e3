/- w -/
import Derived.Test.YtlgcobafjbajdaaGreatDoorJ01
import Derived.Test.YtlgcobafjbajdaaGreatDoorJ02
import Derived.OrdersIn
import Derived.TacticsIn
import Derived.LoopNIn
import Derived.Deep.AppendSrc
import Derived.Deep.Upon
import Derived.Below
namespace Go.Proofs.YtlgcobafjbajdaaGreatDoor
open Go.RowKit
open Bool renaming not_eq_true'→dE
open List renaming append_assoc→aJ,length→ln,replicate→au,replicate_succ→dZ,setIfInBounds_toArray→cH,take_append_drop→aF,take_left→a0u
open Nat renaming add_mul→s5,strongRecOn→jY
open Option renaming some→bL
open _root_.Array renaming getElem?_setIfInBounds→Pt,length_toList→dg,replicate→eE,toList_inj→dz
set_option linter.all false
section
def nF:List Bool->Nat
 |[]=>0
 |b::l=>(if b=true then 0 else 1)+nF l
def JO: ∀l i,l[i]? =some false->nF (l.set i true)+1=nF l
 |[],i,h=>by simp at h
 |b::l,0,h=>by simp at h;subst h;simp[nF];omega
 |b::l,i+1,h=>by have:=JO l i (by simpa using h);simp only[yj,nF];omega
def Mg: ∀{l},nF l=0-> ∀i:Nat,l[i]? ≠some false
 |[],_,i=>by simp
 |b::l,h,i=>by
  simp only[nF] at h
  cases i with
  |zero=>cases b<;>simp at h⊢
  |succ i=>simpa using Mg (by omega:nF l=0) i
def Cx {ops ev tm0 D D2}: ∀k,(∀j,j<k->(D j↔D2 j))->tY ops ev tm0 D k=tY ops ev tm0 D2 k
 |0,_=>rfl
 |k+1,h=>by have e:=Cx (ops:=ops) (ev:=ev) (tm0:=tm0) k (λj f=>h j om);have d:=h k om;unfold tY;by_cases h1:D k;rw[if_pos h1,if_pos (d.1 h1),e];rw[if_neg h1,if_neg (λh=>h1 (d.2 h)),e]
def Cd {ev h0 D D2}: ∀k,(∀j,j<k->(D j↔D2 j))->nn ev h0 D k=nn ev h0 D2 k
 |0,_=>rfl
 |k+1,h=>by have e:=Cd (ev:=ev) (h0:=h0) k (λj f=>h j om);have d:=h k om;unfold nn;by_cases h1:D k;rw[if_pos h1,if_pos (d.1 h1),e];rw[if_neg h1,if_neg (λh=>h1 (d.2 h)),e]
section
variable {P:Program} {E:ic} (hE:iU P E)
include hE
def R7 {ops:Array Oper} (q:nW ops=true) {p:List aY} {tm0:List SV} {f:Nat->S} {ev:Nat->Ev} (s:f 0=⟨[],tm0,p⟩) (hs: ∀k o,ops[k]? =some o->ug E ops p o k (f k) (ev k) (f (k+1))) {N:Nat} {w0:ip} {Q:Exit->Act->World->Prop} (U: ∀a w,iN N w0 (f ops.size).tm (f ops.size).hp a w->Q .normal a w): ∀(fuel:Nat) (listed:Array Bool) (a:Act) (w:World),listed.size=ops.size->kw ops (λk=>listed.getD k false=true)->nF listed.toList<=fuel-> Vk N w0 ops ev tm0 p (λk=>listed.getD k false=true) a w->wpAny P .any ops Q fuel listed a w:=by
 have fin: ∀(listed:Array Bool) (a:Act) (w:World),listed.size=ops.size->Region.ready .any ops listed=[]->Vk N w0 ops ev tm0 p (λk=>listed.getD k false=true) a w->Q .normal a w:=by
  intro listed a w m x d
  have g: ∀i,i<ops.size->listed.getD i false=true:=by
   intro i
   induction i using jY with
   |_ i F=>
    intro z;have r:ops[i]? =some ops[i]:=aM z
    cases hl:listed.getD i true with
    |true=>have:i<listed.size:=om;simp only[aQ,aM this,ef] at hl⊢;exact hl
    |false=>have:i∈Region.ready .any ops listed:=mem_ready.2 ⟨hl,_,r,λe M T=>F e.on (yV q r M T) (by have:=yV q r M T;omega)⟩;rw[x] at this;cases this
  obtain⟨I,R,H,Y⟩:=d;(have W:nn ev (an p) (λk=>listed.getD k false=true) ops.size=an (f ops.size).hp:=by rw[Cd (D2:=λ_=>True) ops.size (λj L=>⟨λ_=>trivial,λ_=>g j L⟩),Nf s hs _ (ai _)]);(have X:tY ops ev tm0 (λk=>listed.getD k false=true) ops.size=(f ops.size).tm:=by rw[Cx (D2:=λ_=>True) ops.size (λj L=>⟨λ_=>trivial,λ_=>g j L⟩),UM s hs _ (ai _)]);rw[W] at R H;rw[X] at H;exact U a w ⟨I,R,H,Y⟩
 intro fuel
 induction fuel with
 |zero=>intro listed a w m G O d;(have x:Region.ready .any ops listed=[]:=by refine ed.2 λi z=> ?_;obtain⟨D,o,A,-⟩:=mem_ready.1 z;(have h:i<listed.size:=by have:=(aE.1 A).1;omega);simp only[aQ,aM h,ef] at D;exact Mg (Nat.le_zero.1 O) i (by simp[aM h,D]));exact⟨x,fin listed a w m x d⟩
 |succ fuel F=>intro listed a w m G O d;refine⟨λx=>fin listed a w m x d,λi z=> ?_⟩;obtain⟨D,o,A,g⟩:=mem_ready.1 z;(have h:i<listed.size:=by have:=(aE.1 A).1;omega);(have y:listed[i]=false:=by simpa only[aQ,aM h,ef] using D);(have J: ¬(listed.getD i false=true):=by simp only[aQ,aM h,ef,y];simp);(have B:(λk=>(listed.setIfInBounds i true).getD k false=true)=(λk=>listed.getD k false=true\/k=i):=by funext k;apply propext;by_cases hk:k=i;subst hk;simp[aQ,h];simp only[aQ,Pt,hk,or_false];rw[if_neg (λe=>hk e.symm)]);refine Og hE q s hs G A J g d λZ V u=> ?_;refine F _ Z V (by simpa using m) ?_ ?_ ?_;rw[B];exact G.ready A g;have:=JO listed.toList i (by simp[aM h,y]);simp only[Array.toList_setIfInBounds];omega;rw[B];exact u
def UR {ops:Array Oper} (m:nW ops=true) {j:List SV} {hp:List aY} {K:List SV->List aY->Prop} (h:sB E ops hp ops.toList 0 [] j hp K) {N:Nat} {w0:ip} {a:Act} {w:World} (G:iN N w0 j hp a w) {Q:Exit->Act->World->Prop} (z: ∀tm' hp' a' w',K tm' hp'->iN N w0 tm' hp' a' w'->Q .normal a' w'): wpAny P .any ops Q ops.size (eE ops.size false) a w:=by
 obtain⟨f,I,p,x,r⟩:=AM ops.toList 0 ⟨[],j,hp⟩ h;have q: ∀k o,ops[k]? =some o->ug E ops hp o k (f k) (I k) (f (k+1)):=λk o A=>by have:=x k o (by simpa using A);rw[aN] at this;exact this
 have y:ln ops.toList=ops.size:=sp;rw[y] at r;have s:(λk=>(eE ops.size false).getD k false=true)=(λ_=>False):=by funext k;apply propext;simp[aQ,Array.getElem?_replicate];split<;>simp
 have B: ∀n,nF (au n false)=n:=λn=>by
  induction n with
  |zero=>rfl
  |succ n ih=>simp only[dZ,nF,ih];simp;omega
 refine R7 hE m p q (λa' w' g=>z _ _ _ _ r g) ops.size _ _ _ sp ?_ (by simp[B]) ?_;rw[s];exact λk o _ H=>H.elim;rw[s];obtain⟨e,D,u,F⟩:=G;refine⟨e,?_,λJ d=> ?_,F⟩;rw[uN];exact D;rw[uN] at d;rw[AE (i:=0) ops.size (ah _) (λ_ _ h=>h)];exact u J d
end
def tf (P:Program):List Oper->(Exit->Act->World->Prop)->Exit->Act->World->Prop
 |[],Q=>Q
 |o::l,Q=>WO P o (tf P l Q)
def Pa:List Oper->List Oper->Bool
 |_,[]=>true
 |pre,o::l=>(Region.sinkB .any (pre.toArray.push o) pre.toArray.size&&Gc (pre.toArray.push o)&&JC pre.toArray&&o.guard.isNone)&&Pa (pre++[o]) l
def Ai n:(eE n false).push false=eE (n+1) false:=by rw[sP]
def UW {P}: ∀suf pre,Pa pre suf=true-> ∀{Q a w},
  wpAny P .any pre.toArray (tf P suf Q) pre.toArray.size (eE pre.toArray.size false) a w->wpAny P .any (pre++suf).toArray Q (pre++suf).toArray.size (eE (pre++suf).toArray.size false) a w
 |[],pre,_,Q,a,w,h=>by rw[bk];exact h
 |o::l,pre,hs,Q,a,w,h=>by simp only[Pa,aG] at hs;obtain⟨⟨⟨⟨q,g⟩,m⟩,f⟩,i⟩:=hs;(have d:o.guard=none:=by cases hg:o.guard<;>simp[hg] at f⊢);have key:=KE (Q:=tf P l Q) q g m d _ _ a w sp (λj r _ e=>by rw[getD_replicate_false] at e;cases e) h;rw[Ai] at key;have k:pre.toArray.push o=(pre++[o]).toArray:=sp;have p:pre.toArray.size+1=(pre++[o]).toArray.size:=sp;rw[k,p] at key;have:=UW l (pre++[o]) i key;rw[aJ] at this;exact this
section
variable {P:Program} {E:ic} (hE:iU P E) {H:FuncId->List SV->List aY->(SV->List aY->Prop)->Prop} (hH:ko P H)
include hE hH
def CG {N w0 all K Q} (f: ∀tm' hp' a' w',K tm' hp'->iN N w0 tm' hp' a' w'->Q .normal a' w'):
  ∀os pre,Pa pre os=true-> ∀tm hp,lV E H all os tm hp K-> ∀a w,iN N w0 tm hp a w->tf P os Q .normal a w
 |[],_,_,tm,hp,h,a,w,hr=>f _ _ _ _ h hr
 |o::os,pre,hs,tm,hp,h,a,w,hr=>by simp only[Pa,aG] at hs;(have d:o.guard=none:=by cases hg:o.guard<;>simp[hg] at hs⊢);unfold lV at h;rw[d] at h;exact kQ hE hH h hr λtm' hp' a' w' g e=>CG f os (pre++[o]) hs.2 tm' hp' g a' w' e
end
section
variable {P:Program} {E:ic} (hE:iU P E) {H:FuncId->List SV->List aY->(SV->List aY->Prop)->Prop} (hH:ko P H)
def yo: ∀{l p},Vw l p-> ∀i∈l,p i
 |[],_,_,i,d=>by cases d
 |_::_,_,h,i,d=>by rcases br.1 d with rfl|d;exact h.1;exact yo h.2 i d
def iN.drew {N w0 e hp a w} (h:iN N w0 e hp a w):iN N w0 e hp a w.drew:=by obtain⟨d,i,f,g⟩:=h;exact⟨d,i.below ((Below.refl _ _).drew),f,g⟩
def TO {L}: ∀{l},Bp L l=true↔ ∀e∈l,Region.binds .any e=true->ij false L e.on=true
 |[]=>by simp[Bp]
 |e::l=>by
  simp only[Bp,aG,dY,dE,TO (l:=l),br,forall_eq_or_imp];constructor;rintro⟨g,f⟩;exact⟨λd=>g.elim (λh=>by rw[d] at h;cases h) id,f⟩;rintro⟨g,f⟩;refine⟨?_,f⟩
  cases d:Region.binds .any e with
  |true=>exact .inr (g d)
  |false=>exact .inl rfl
def OU L k o l:xH L k (o::l)=(match !ij true L k&&Bp L o.after.toList with|true=>k::xH L (k+1) l|false=>xH L (k+1) l):=rfl
def Hj {L}: ∀{l k i},i∈xH L k l↔ ∃j o,i=k+j/\l[j]? =some o/\ij true L i=false/\Bp L o.after.toList=true
 |[],k,i=>by simp[xH]
 |o::l,k,i=>by
  have q:= @Hj L l (k+1) i
  have key:(∃j e,i=k+j/\(o::l)[j]? =some e/\ij true L i=false/\Bp L e.after.toList=true)↔(i=k/\ij true L i=false/\Bp L o.after.toList=true)\/ ∃j e,i=k+1+j/\l[j]? =some e/\ij true L i=false/\Bp L e.after.toList=true:=by
   constructor;rintro⟨j,e,g,d,f,p⟩
   cases j with
   |zero=>simp at d;subst d;exact .inl ⟨g,f,p⟩
   |succ j=>exact .inr ⟨j,e,om,by simpa using d,f,p⟩
   rintro(⟨g,d,f⟩|⟨j,e,g,d,f,p⟩);exact⟨0,o,g,rfl,d,f⟩;exact⟨j+1,e,om,by simpa using d,f,p⟩
  rw[key,<-q,OU];split;rename_i h;simp only[aG,dE] at h;simp only[br];constructor;rintro(rfl|m);exact .inl ⟨rfl,h⟩;exact .inr m;rintro(⟨rfl,_⟩|m);exact .inl rfl;exact .inr m;rename_i h;constructor;exact .inr;rintro(⟨rfl,g,d⟩|m);rw[g,d] at h;cases h;exact m
def a6u {ops L i}:i∈Region.ready .any ops.toArray L.toArray↔i∈xH L 0 ops:=by
 rw[mem_ready,Hj];have m: ∀n,L.toArray.getD n true=ij true L n:=λn=>by rw[iE];simp[aQ]
 have p: ∀n,L.toArray.getD n false=ij false L n:=λn=>by rw[iE];simp[aQ]
 constructor;rintro⟨d,o,g,k⟩;exact⟨i,o,om,by simpa using g,by rw[<-m];exact d,TO.2 λe f h=>by rw[<-p];exact k e (by simpa using f) h⟩;rintro⟨j,o,d,g,k,q⟩;rw[aN] at d;subst d;exact⟨by rw[m];exact k,o,by simpa using g,λe f h=>by rw[p];exact TO.1 q e (by simpa using f) h⟩
def se: ∀l i,xJ l i=l.set i true
 |[],_=>by simp[xJ]
 |_::_,0=>rfl
 |x::l,n+1=>by simp[xJ,se l n]
def rT: ∀l:List Oper,vX l=au (ln l) false
 |[]=>rfl
 |_::l=>by simp[vX,rT l,dZ]
omit hE hH in
def tX {T ops d K} {Z:Prop}: ∀{l},xx T ops d l K Z->Z\/ ∃i∈l,∃o v,ops[i]? =some o/\o.guard=none/\mf T o.op (gv d) (λ_=>none)=some (.val v)/\K i o v
 |[],h=> .inl h
 |i::l,h=>by have up:xx T ops d l K Z->Z\/ ∃j∈i::l,∃o v,ops[j]? =some o/\o.guard=none/\mf T o.op (gv d) (λ_=>none)=some (.val v)/\K j o v:=λh=>(tX h).imp id λ⟨i,m,g⟩=>⟨i,aD _ m,g⟩;unfold xx at h;split at h;rename_i o e;rw[cD] at e;split at h;rename_i f;split at h;rename_i v k;exact .inr ⟨i,aP,o,v,e,f,k,h⟩;exact up h;exact up h;exact up h
omit hE hH in
def zV: ∀{l},Cl l=true-> ∀(j:Nat) (o:Oper) cs b,l[j]? =some o->o.op≠ .select cs b
 |[],_,j,o,cs,b,h=>by simp at h
 |x::l,hs,j,o,cs,b,h=>by
  unfold Cl at hs;split at hs;cases hs;rename_i d
  cases j with
  |zero=>simp at h;subst h;exact λe=>d cs b e
  |succ j=>exact zV hs j o cs b (by simpa using h)
def Im (Q:Exit->Act->World->Prop):Prop:= ∀c a d w,Q (.panic c) a w->Q (.panic c) d w
omit hE hH in
def Im.chain {P Q} (h:Im Q): ∀l,Im (tf P l Q)
 |[]=>h
 |_::l=>λc a e w d=>Im.chain (P:=P) h l c a e w d
def Bi (L:List Bool):Nat->Prop:=λk=>L.toArray.getD k false=true
omit hE hH in
def Cg {l k} (h:Bi (vX l) k):False:=by unfold Bi at h;rw[rT,aQ,cf,gT] at h;split at h<;>cases h
omit hE hH in
def oE {L i} (h:L.toArray.getD i true=false):Bi (L.set i true)=λk=>Bi L k\/k=i:=by
 have f:i<ln L:=by rcases cj i (ln L) with d|d;exact d;simp[aQ,bi d] at h
 funext k;apply propext;unfold Bi;by_cases hk:k=i;subst hk;simp[aQ,f];simp only[aQ,cf,List.getElem?_set,hk,or_false];rw[if_neg (λe=>hk e.symm)]
omit hE hH in
def zc {ops:List Oper} (F:nW ops.toArray=true) (hsel:Cl ops=true) {Q:Exit->Act->World->Prop} (X:Im Q) {i:Nat} {s:Oper} {v:Value} (hi:ops.toArray[i]? =some s): ∀(fuel:Nat) (L:List Bool) (a:Act) (w:World),kw ops.toArray (Bi L)->i∈Region.ready .any ops.toArray L.toArray->Yields P ops.toArray s v a-> wpAny P .any ops.toArray Q fuel (L.set i true).toArray (a.put s.dst v) w->wpAny P .any ops.toArray Q (fuel+1) L.toArray a w:=by
 have G: ∀(j:Nat) (o:Oper) y b,ops.toArray[j]? =some o->o.op≠ .select y b:=λj o y b h=>zV hsel j o y b (by simpa using h);intro fuel
 induction fuel with
 |zero=>intro L a w _ A N H;rw[<-cH] at H;refine⟨λh=>(by rw[h] at A;cases A),λj O=> ?_⟩;by_cases hji:j=i;subst hji;exact N.wpOp hi H;have:=ready_mono O hji;rw[H.1] at this;cases this
 |succ fuel ih=>
  intro L a w R A N H;have H':=H;rw[<-cH] at H;refine⟨λh=>(by rw[h] at A;cases A),λj O=> ?_⟩;by_cases hji:j=i;subst hji;exact N.wpOp hi H;have Z:=H.2 j (ready_mono O hji);obtain⟨r,D,g,m⟩:=mem_ready.1 O;obtain⟨E,Y,I,x⟩:=mem_ready.1 A;rw[hi] at I;cases I
  have U: ∀k,L.toArray.getD k true=false-> ¬Bi L k:=λk B f=>by
   unfold Bi at f;rw[aQ] at B f
   cases q:L.toArray[k]?with
   |none=>rw[q] at B;cases B
   |some b=>rw[q] at B f;simp only[ef] at B f;rw[B] at f;cases f
  (have M: ¬bf ops.toArray j i:=λp=>by rcases(R.ready g λe q p=>m e q p).bf (.inr rfl) p with h|h;exact U i E h;exact hji h.symm);(have J: ¬bf ops.toArray i j:=λp=>by rcases(R.ready hi λe q p=>x e q p).bf (.inr rfl) p with h|h;exact U j r h;exact hji h)
  have T:s.apart ops.toArray D=true:=by
   (have key:(∀d,s.dst=some d->d∉D.looksAt ops.toArray/\D.dst≠some d)/\ ∀d,D.dst=some d->d∉s.looksAt ops.toArray:=by rcases Nat.lt_or_gt_of_ne hji with h|h;have z:=ke F h g hi;exact⟨λd f=>⟨λu=>J ((z.1 d f).1 u),(z.1 d f).2⟩,λd f u=>J (z.2.1 d f u)⟩;have z:=ke F h hi g;refine⟨λd f=>⟨λu=>M (z.2.1 d f u),λe=>(z.1 d e).2 f⟩,λd f u=>M ((z.1 d f).1 u)⟩);unfold Oper.apart;rw[aG];constructor;split;rename_i d f;have:=key.1 d f;simp only[aG,dE,bne_iff_ne,ne_eq];refine⟨?_,this.2⟩
   cases hx:(D.looksAt ops.toArray).contains d with
   |false=>rfl
   |true=>exact absurd (qr.1 hx) this.1
   rfl;split;rename_i d f;have:=key.2 d f;simp only[dE]
   cases hx:(s.looksAt ops.toArray).contains d with
   |false=>rfl
   |true=>exact absurd (qr.1 hx) this
   rfl
  have W:=wpOp_put g T (λy b=>G i s y b hi) (λy b=>G j D y b g) (λc a w h=>X c _ _ w h) N Z;rw[cH];refine wpOp_mono (λa' w' V=>ih (L.set j true) a' w' ?_ ?_ V.1 ?_) W;rw[oE r];exact R.ready g λe q p=>m e q p;rw[<-cH];exact ready_mono A (Ne.symm hji);rw[<-cH,<-cH,Array.setIfInBounds_comm _ _ hji];exact V.2
include hE hH in
def AN {N:Nat} {w0:ip} {ops:List Oper} (p:nW ops.toArray=true) {K:List SV->List aY->Prop} {Q:Exit->Act->World->Prop} (F:Im Q) (A: ∀tm' hp' a' w',K tm' hp'->iN N w0 tm' hp' a' w'->Q .normal a' w'):
  ∀(fuel:List Oper) (L:List Bool) (_:kw ops.toArray (Bi L)) (tm:List SV) (hp:List aY),CH E H ops fuel L tm hp K-> ∀a w,iN N w0 tm hp a w->wpAny P .any ops.toArray Q (ln fuel) L.toArray a w
 |[],L,_,tm,hp,h,a,w,hr=>by unfold CH at h;unfold wpAny;split at h;rename_i g;exact⟨ed.2 λi f=>(by have:=a6u.1 f;rw[g] at this;cases this),A _ _ _ _ h hr⟩;exact h.elim
 |_::fuel,L,hc,tm,hp,h,a,w,hr=>by unfold CH at h;rw[aS];split at h;rename_i g;unfold wpAny;exact⟨λ_=>A _ _ _ _ h hr,λi f=>by have:=a6u.1 f;rw[g] at this;cases this⟩;rename_i M l g;rcases tX h with h|⟨i,hil,o,v,d,G,hv,h⟩;unfold wpAny;refine⟨λB=> ?_,λi f=> ?_⟩;have:M∈Region.ready .any ops.toArray L.toArray:=a6u.2 (by rw[g];exact aP);rw[B] at this;cases this;have x:=a6u.1 f;rw[g] at x;have z:=yo h i x;unfold wpOp;split at z;rename_i o d;rw[cD] at d;(have d:ops.toArray[i]? =some o:=by simpa using d);obtain⟨q,R,j,k⟩:=mem_ready.1 f;rw[d] at j;cases j;rw[d];split at z;rename_i G;simp only;rw[if_pos (by simp[Region.wanted,G])];refine .inl (kQ hE hH z hr λtm' hp' a' w' I D=> ?_);rw[se] at I;have:=AN p F A fuel _ (by rw[oE q];exact hc.ready d λe g y=>k e g y) tm' hp' I a' w' D;rwa[<-cH] at this;exact z.elim;exact z.elim;split at hil;rename_i hsel;rw[<-g] at hil;have f:=a6u.2 hil;obtain⟨q,R,j,k⟩:=mem_ready.1 f;(have d:ops.toArray[i]? =some o:=by simpa using d);rw[d] at j;cases j;rw[SV.force_eq,dp,se] at h;obtain⟨u,U,J,O⟩:=hr;(have m: ∀s,gt (an hp) s u-> ∀w,(execOp a.eval o).run P w= .ok (.value (v.den s)) w:=λs r w=>by (rw[fP (J s r)];exact pr hE.T hv s w λb blk y=>by cases y));have B:=m u (gt.refl _ _);refine zc p hsel F d (ln fuel) L a w hc f (.inl ⟨by simp[Region.wanted,G],B⟩) (AN p F A fuel _ (by rw[oE q];exact hc.ready d λe g y=>k e g y) _ hp h _ _ (iN.put J O U (λi f=>⟨f,rfl⟩) o.dst λs r=> ?_));have:=m s r w;rw[B w] at this;simpa using this;cases hil
include hE hH in
def sg {N:Nat} {w0:ip} {ops:List Oper} (x:nW ops.toArray=true) {K:List SV->List aY->Prop} {Q:Exit->Act->World->Prop} (X:Im Q) (O: ∀tm' hp' a' w',K tm' hp'->iN N w0 tm' hp' a' w'->Q .normal a' w'):
  ∀(fuel:List Oper) (L:List Bool) (_:kw ops.toArray (Bi L)) (tm:List SV) (hp:List aY),n8 E H ops fuel L tm hp K-> ∀a w,iN N w0 tm hp a w->wpAny P .any ops.toArray Q (ln fuel) L.toArray a w
 |[],L,_,tm,hp,h,a,w,hr=>by unfold n8 at h;unfold wpAny;split at h;rename_i p;exact⟨ed.2 λi f=>(by have:=a6u.1 f;rw[p] at this;cases this),O _ _ _ _ h hr⟩;exact h.elim
 |_::fuel,L,hc,tm,hp,h,a,w,hr=>by
  unfold n8 at h;rw[aS];split at h;rename_i p;unfold wpAny;exact⟨λ_=>O _ _ _ _ h hr,λi f=>by have:=a6u.1 f;rw[p] at this;cases this⟩;rename_i i0 l p;rcases tX h with h|⟨i,hil,o,v,q,J,hv,h⟩;unfold wpAny;refine⟨λY=> ?_,λi f=> ?_⟩;have:i0∈Region.ready .any ops.toArray L.toArray:=a6u.2 (by rw[p];exact aP);rw[Y] at this;cases this;have V:=a6u.1 f;rw[p] at V;have m:=yo h i V;unfold wpOp;split at m;rename_i o q;rw[cD] at q;(have q:ops.toArray[i]? =some o:=by simpa using q);obtain⟨y,o',r,k⟩:=mem_ready.1 f;rw[q] at r;cases r;rw[q];split at m;rename_i J;simp only;rw[if_pos (by simp[Region.wanted,J])];refine .inl (kQ hE hH m hr λtm' hp' a' w' R D=> ?_);rw[se] at R;have:=sg x X O fuel _ (by rw[oE y];exact hc.ready q λe p g=>k e p g) tm' hp' R a' w' D;rwa[<-cH] at this;rename_i j s J;simp only;(have fin: ∀tm' hp' a' w',n8 E H ops fuel (xJ L i) tm' hp' K->iN N w0 tm' hp' a' w'->wpAny P .any ops.toArray Q (ln fuel) (L.toArray.setIfInBounds i true) a' w':=λtm' hp' a' w' R D=>by rw[se] at R;have:=sg x X O fuel _ (by rw[oE y];exact hc.ready q λe p g=>k e p g) tm' hp' R a' w' D;rwa[<-cH] at this);unfold a4F at m;split at m;rename_i t M;split at m;rename_i b g;(have Z:yielded ops.toArray a.tmps j=some b:=by obtain⟨d,-,u,-⟩:=hr;exact p5 M (u d (gt.refl _ _)) g);(have I:Region.wanted o (yielded ops.toArray a.tmps)=(b==s):=by unfold Region.wanted;rw[J];simp only[Z];cases b<;>cases s<;>rfl);(have skip:fI o.dst uv tm (λtm=>n8 E H ops fuel (xJ L i) tm hp K)->wpAny P .any ops.toArray Q (ln fuel) (L.toArray.setIfInBounds i true) (a.put o.dst undef) w:=λh=>by rw[dp] at h;obtain⟨d,W,u,U⟩:=hr;exact fin _ _ _ _ h (iN.put u U W (λi f=>⟨f,rfl⟩) o.dst λz _=>rfl));split at m;obtain⟨F,B⟩:=jL m;rw[dR] at F B
  cases b with
  |true=>rw[if_pos (by rw[I];rfl)];exact .inl (kQ hE hH (by rw[gj g (gN _)] at F;exact F rfl) hr fin)
  |false=>rw[if_neg (by rw[I];simp)];exact skip (by rw[gj g (gN _)] at B;exact B rfl)
  obtain⟨F,B⟩:=jL m;rw[dR] at F B
  cases b with
  |true=>rw[if_neg (by rw[I];simp)];exact skip (by rw[gj g (gN _)] at F;exact F rfl)
  |false=>rw[if_pos (by rw[I];rfl)];exact .inl (kQ hE hH (by rw[gj g (gN _)] at B;exact B rfl) hr fin)
  rename_i l g;(have Z:yielded ops.toArray a.tmps j=none:=by obtain⟨d,-,u,-⟩:=hr;exact p4 M (u d (gt.refl _ _)) g);(have I:Region.wanted o (yielded ops.toArray a.tmps)=false:=by unfold Region.wanted;rw[J];simp only[Z];cases s<;>rfl);rw[if_neg (by rw[I];simp)];rw[dp] at m;obtain⟨d,W,u,U⟩:=hr;exact fin _ _ _ _ m (iN.put u U W (λi f=>⟨f,rfl⟩) o.dst λz _=>rfl);cases m;cases m;exact m.elim;split at hil;rename_i hsel;rw[<-p] at hil;have f:=a6u.2 hil;obtain⟨y,o',r,k⟩:=mem_ready.1 f;(have q:ops.toArray[i]? =some o:=by simpa using q);rw[q] at r;cases r;rw[SV.force_eq,dp,se] at h;obtain⟨d,W,u,U⟩:=hr;(have A: ∀z,gt (an hp) z d-> ∀w,(execOp a.eval o).run P w= .ok (.value (v.den z)) w:=λz G w=>by (rw[fP (u z G)];exact pr hE.T hv z w λb blk g=>by cases g));have Y:=A d (gt.refl _ _);refine zc x hsel X q (ln fuel) L a w hc f (.inl ⟨by simp[Region.wanted,J],Y⟩) (sg x X O fuel _ (by rw[oE y];exact hc.ready q λe p g=>k e p g) _ hp h _ _ (iN.put u U W (λi f=>⟨f,rfl⟩) o.dst λz G=> ?_));have:=A z G w;rw[Y w] at this;simpa using this;cases hil
end
def Ha (ops:Array Oper):Bool:=
 match (ln ops.toList)-Bt ops.toList with
 |m=>nW (ops.toList.take m).toArray&&Pa (ops.toList.take m) (ops.toList.drop m)
def okR:List Oper->List Oper->Bool
 |[],ops=>Ha ops.toArray
 |_::f,ops=>(match WA ops with
  |none=>Ha ops.toArray
  |some p=>Ha (ops.take p).toArray&&okR f (MI p ops))
def iw.den {l}: ∀{m},iw l m-> ∀ρ,l.map (SV.den ρ)=m.map (SV.den ρ):=by
 induction l with
 |nil=>
  intro m h ρ
  cases m with
  |nil=>rfl
  |cons y m=>exact h.elim
 |cons x l ih=>
  intro m h ρ
  cases m with
  |nil=>exact h.elim
  |cons y m=>obtain⟨e,d⟩:=h;rw[aI,aI,e ρ,ih d ρ]
def Y6 (b c:aY):Prop:=b.ty=c.ty/\b.ro=c.ro/\b.tl=c.tl/\(∀d,af d b.cs=af d c.cs)/\b.mapOf=c.mapOf
def TV {b c} (h:b.ty=c.ty/\b.ro=c.ro/\b.tl=c.tl/\ ∀ρ,af ρ b.cs=af ρ c.cs):Y6 b c:=by
 obtain⟨bt,s,j,q⟩:=b;obtain⟨p,z,f,u⟩:=c;obtain⟨k,g,o,d⟩:=h;simp only at k g o d;subst k g o;refine⟨rfl,rfl,rfl,d,?_⟩;have i:bu j=bu f:=by rw[cU (λ_=>(0,0)),d,<-cU]
 have e: ∀t r x l n,Ee t r (x::l) n=none:=λt r x l n=>by cases t<;>cases r<;>rfl
 show Ee _ _ _ _=Ee _ _ _ _
 cases j with
 |nil=>
  cases f with
  |nil=>rfl
  |cons y m=>cases y<;>simp[bu,C.n] at i<;>omega
 |cons x l=>
  cases f with
  |nil=>cases x<;>simp[bu,C.n] at i
  |cons y m=>rw[e,e]
def gx.get {l}: ∀{m},gx l m-> ∀i c,an m i=some c-> ∃b,an l i=some b/\Y6 b c:=by
 induction l with
 |nil=>
  intro m h i c e
  cases m with
  |nil=>simp[an] at e
  |cons y m=>exact h.elim
 |cons b l ih=>
  intro m h i c e
  cases m with
  |nil=>exact h.elim
  |cons d m=>
   obtain⟨g,f⟩:=h
   cases i with
   |zero=>simp[an] at e;subst e;exact⟨b,rfl,TV g⟩
   |succ i=>exact ih f i c (by simpa[an] using e)
def gx.some' {l}: ∀{m},gx l m-> ∀i b,an l i=some b-> ∃c,an m i=some c:=by
 induction l with
 |nil=>intro m _ i b e;simp[an] at e
 |cons x l ih=>
  intro m h i b e
  cases m with
  |nil=>exact h.elim
  |cons d m=>
   cases i with
   |zero=>exact⟨d,rfl⟩
   |succ i=>exact ih h.2 i b (by simpa[an] using e)
def iN.same {N w0 U tm2 hp u a w} (h:iN N w0 U hp a w) (X:iw U tm2) (o:gx hp u):iN N w0 tm2 u a w:=by
 obtain⟨p,s,W,I⟩:=h;have z: ∀m,gt (an u) m p->gt (an hp) m p:=λm q i O=>by obtain⟨b,g⟩:=aK.1 O;obtain⟨c,f⟩:=o.some' i b g;exact q i (by rw[f];rfl)
 have r: ∀i b c,an hp i=some b->an u i=some c->b.ro=c.ro->(∀m,af m b.cs=af m c.cs)->c.void=false->b.void=false:=λi b c _ _ k G F=>by
  rcases kR b with h|h;obtain⟨Z,D⟩:=lE h;have A:=G p;rw[D] at A;(have T:bu c.cs=0:=by rw[cU p,<-A];rfl)
  have Y:c.cs=[]:=by
   cases f:c.cs with
   |nil=>rfl
   |cons x l=>rw[f] at T;cases x<;>simp[bu,C.n] at T
  unfold aY.void at F;rw[Y,<-k,Z] at F;cases F;exact h
 refine⟨p,⟨λi c f F=> ?_,λi c f E=> ?_,λi j c d f E I J=> ?_,λm q i c f=> ?_,s.bel,s.big,λi O=> ?_,λi c e f V=> ?_,λi j c d f R B k M=> ?_,s.fam.up (λi c f hm=> ?_) λj c f E=> ?_⟩,λm q=>(W m (z m q)).trans (X.den m),I⟩;obtain⟨b,g,-,k,-,G,-⟩:=o.get i c f;exact s.old i b g (r i b c g f k G F);obtain⟨b,g,-,k,-⟩:=o.get i c f;exact s.own i b g (k.trans E);obtain⟨b,g,-,k,-⟩:=o.get i c f;obtain⟨H,y,-,L,-,Q,-⟩:=o.get j d I;exact s.apart i j b H g (k.trans E) y (r j H d y I L Q J);obtain⟨b,g,B,k,D,G,-⟩:=o.get i c f;have:=s.holds m (z m q) i b g;unfold fq at this⊢;rw[<-G m,<-B,<-k,<-D];exact this;have:=s.ext i O;refine⟨?_,this.2⟩;obtain⟨b,g⟩:=aK.1 this.1;obtain⟨c,f⟩:=o.some' i b g;rw[f];rfl;obtain⟨b,g,-,-,-,-,A⟩:=o.get i c f;exact s.maps i b e g (A.trans V);obtain⟨b,g,-,-,-,-,A⟩:=o.get i c f;obtain⟨H,y,-,-,-,-,P⟩:=o.get j d R;exact s.mapA i j b H g y (by rw[A];exact B) (by rw[P];exact k) M;obtain⟨b,g,B,k,D,-⟩:=o.get i c f;exact⟨i,b,g,by unfold aY.famOf;rw[B,k,D]⟩;obtain⟨b,g,-,k,-⟩:=o.get j c f;exact .inl ⟨j,b,g,k.trans E,rfl⟩
def Cp: ∀{l i k p},sq l i k=some p-> ∃j,p=k+j/\l[j]? =some i
 |[],_,_,_,h=>by simp[sq] at h
 |a::l,i,k,p,h=>by unfold sq at h;split at h;rename_i e;cases h;exact⟨0,rfl,by simp[e]⟩;obtain⟨j,f,d⟩:=Cp h;exact⟨j+1,om,by simpa using d⟩
def Xj: ∀{l a},Vf l a=true↔a∈l
 |[],a=>by simp[Vf]
 |b::l,a=>by simp only[Vf,dY,beq_iff_eq,br,Xj (l:=l)];exact⟨λh=>h.imp (λe=>e.symm) id,λh=>h.imp (λe=>e.symm) id⟩
def x7: ∀{l},ndL l=true-> ∀i j a:Nat,l[i]? =some a->l[j]? =some a->i=j
 |[],_,i,j,a,h,_=>by simp at h
 |b::l,hn,i,j,a,h1,h2=>by
  simp only[ndL,aG,dE] at hn;(have d:b∉l:=λh=>by rw[Xj.2 h] at hn;cases hn.1)
  cases i with
  |zero=>
   cases j with
   |zero=>rfl
   |succ j=>simp at h1 h2;subst h1;exact(d (dV h2)).elim
  |succ i=>
   cases j with
   |zero=>simp at h1 h2;subst h2;exact(d (dV h1)).elim
   |succ j=>simp at h1 h2;rw[x7 hn.2 i j a h1 h2]
def He: ∀{l k i} j,ndL l=true->l[j]? =some i->sq l i k=some (k+j)
 |[],_,_,_,_,h=>by simp at h
 |a::l,k,i,0,_,h=>by simp at h;subst h;simp[sq]
 |a::l,k,i,j+1,hn,h=>by (have g:l[j]? =some i:=by simpa using h);(have d:a≠i:=λe=>by subst e;have:=x7 hn 0 (j+1) a sp h;omega);(have f:ndL l=true:=by simp only[ndL,aG] at hn;exact hn.2);rw[sq,if_neg d,He j f g];congr 1;omega
def Ac: ∀{n i l},Hf n i l=true-> ∀j,j<n->l[j]? =some (i+j)
 |0,_,_,_,j,h=>by omega
 |n+1,i,[],h,_,_=>by simp[Hf] at h
 |n+1,i,a::l,h,j,hj=>by
  simp only[Hf,aG,beq_iff_eq] at h
  cases j with
  |zero=>simp[h.1]
  |succ j=>have:=Ac h.2 j om;simp only[a8T,this];congr 1;omega
def Fp (d:List Nat) (ρ e:fF):Prop:= ∀i p,sq d i 0=some p->ρ i=e p
def Ho {d ρ e} (h:Fp d ρ e): ∀{l m},TS d l=some m->(l.map λp=>lF ρ p.1 p.2)=m.map λp=>lF e p.1 p.2
 |[],m,hl=>by simp[TS] at hl;subst hl;rfl
 |p::l,m,hl=>by unfold TS at hl;split at hl;rename_i b i g f;cases hl;rw[aI,aI,Ho h f];simp only[lF,h _ _ g];cases hl
def wn {d ρ g} (h:Fp d ρ g) {x y:C} (hx:x.ren d=some y):x.cells ρ=y.cells g:=by
 cases x<;>simp only[C.ren] at hx<;>try (cases hx;rfl)
 case ptr b off=>split at hx;(rename_i i e;cases hx;simp only[C.cells,lF,h _ _ e]);cases hx
 case sli nl b off len cap hl=>split at hx;(rename_i i e;cases hx;simp only[C.cells,h _ _ e]);cases hx
 case fn f bd caps=>split at hx;(rename_i k j;cases hx;simp only[C.cells,Ho h j]);cases hx
 case mp b=>split at hx;(rename_i i e;cases hx;simp only[C.cells,h _ _ e]);cases hx
def pO {d ρ e} (h:Fp d ρ e): ∀{l m},wm d l=some m->af ρ l=af e m
 |[],m,hl=>by simp[wm] at hl;subst hl;rfl
 |x::l,m,hl=>by unfold wm at hl;split at hl;rename_i y i g f;cases hl;rw[cO,cO,wn h g,pO h f];cases hl
def a2O {d ρ e} (h:Fp d ρ e) {x y:T1} (hx:x.ren d=some y):x.den ρ=y.den e:=by
 cases x with
 |c x=>simp only[T1.ren] at hx;split at hx;rename_i z f;cases hx;simp only[T1.den,C.den,wn h f];cases hx
 |agg l=>simp only[T1.ren] at hx;split at hx;rename_i z f;cases hx;simp only[T1.den,pO h f];cases hx
def Hp {d ρ e} (h:Fp d ρ e): ∀{l m:List T1},TT d l=some m->l.map (T1.den ρ)=m.map (T1.den e)
 |[],m,hl=>by simp[TT] at hl;subst hl;rfl
 |x::l,m,hl=>by unfold TT at hl;split at hl;rename_i y i g f;cases hl;rw[aI,aI,a2O h g,Hp h f];cases hl
def Ya {d ρ f} (h:Fp d ρ f) {x y:SV} (hx:x.ren d=some y):x.den ρ=y.den f:=by
 cases x with
 |c x=>simp only[SV.ren] at hx;split at hx;rename_i z e;cases hx;simp only[SV.den,C.den,wn h e];cases hx
 |agg l=>simp only[SV.ren] at hx;split at hx;rename_i z e;cases hx;simp only[SV.den,pO h e];cases hx
 |tup l=>simp only[SV.ren] at hx;split at hx;rename_i z e;cases hx;simp only[SV.den,Hp h e];cases hx
def r6 {f keep o}: ∀{l:List SV} {i:Nat} {K:List SV->Prop},va f keep o i l K-> ∃m,K m/\ ∀ρ ρ',Fp f ρ ρ'->(∀j x,l[j]? =some x->o (i+j)=x.den ρ)->l.map (SV.den ρ)=m.map (SV.den ρ')
 |[],_,_,h=>⟨[],h,λ_ _ _ _=>rfl⟩
 |x::l,i,K,h=>by (have tail: ∀{ρ:fF},(∀j y,(x::l)[j]? =some y->o (i+j)=y.den ρ)-> ∀j y,l[j]? =some y->o (i+1+j)=y.den ρ:=λd j y p=>by have:=d (j+1) y (by simpa using p);rw[show i+1+j=i+(j+1) by omega];exact this);unfold va at h;split at h;obtain⟨m,k,g⟩:=r6 h;refine⟨_,k,λρ ρ' e d=> ?_⟩;rw[aI,aI,g ρ ρ' e (tail d)];have:=d 0 x rfl;rw[<-this];rfl;split at h;rename_i y p;obtain⟨m,k,g⟩:=r6 h;exact⟨_,k,λρ ρ' e d=>by rw[aI,aI,g ρ ρ' e (tail d),Ya e p]⟩;obtain⟨m,k,g⟩:=r6 h;refine⟨_,k,λρ ρ' e d=> ?_⟩;rw[aI,aI,g ρ ρ' e (tail d)];have:=d 0 x rfl;rw[<-this];rfl
def In (d:List Nat) (b c:aY):Prop:=c.ty=b.ty/\c.ro=b.ro/\c.tl=b.tl/\(c.cs=b.cs/\cC b.cs\/wm d b.cs=some c.cs)
def PU (hp:List aY) (d l:List Nat) (K:List aY->Prop):Prop:= ∃m,K m/\ln m=ln l/\ ∀j a,l[j]? =some a-> ∃c,an m j=some c/\((∃b,an hp a=some b/\In d b c)\/(an hp a=none/\c.void=true/\c.mapOf=none/\(c.famOf=none\/c.famOf=some (true,[]))))
def Cs {hp d r}: ∀{l k K},Am hp d r k l K->PU hp d l K
 |[],_,_,h=>⟨[],h,rfl,λj a q=>by simp at q⟩
 |a::l,k,K,h=>by
  have fin: ∀c:aY,((∃b,an hp a=some b/\In d b c)\/(an hp a=none/\c.void=true/\c.mapOf=none/\(c.famOf=none\/c.famOf=some (true,[]))))->Am hp d r (k+1) l (λl=>K (c::l))->PU hp d (a::l) K:=λc e h=>by
   obtain⟨m,z,f,q⟩:=Cs h;refine⟨c::m,z,by simp[f],λj x p=> ?_⟩
   cases j with
   |zero=>simp at p;subst p;exact⟨c,rfl,e⟩
   |succ j=>exact q j x (by simpa using p)
  unfold Am at h;split at h;rename_i s u A y g;split at h;exact fin _ (.inl ⟨_,g,rfl,rfl,rfl,.inl ⟨rfl,h.1⟩⟩) h.2;split at h;rename_i i o;exact fin ⟨s,u,i,y⟩ (.inl ⟨_,g,rfl,rfl,rfl,.inr o⟩) h;exact h.elim;rename_i g;split at h;exact fin _ (.inr ⟨g,rfl,rfl,.inr rfl⟩) h;exact fin _ (.inr ⟨g,rfl,hW rfl,.inl (iB rfl)⟩) h
def TW {f b c} (h:In f b c):b.mapOf=c.mapOf:=by
 obtain⟨bt,s,k,q⟩:=b;obtain⟨p,z,o,u⟩:=c;obtain⟨i,g,j,d⟩:=h;simp only at i g j d;subst i g j;rcases d with⟨rfl,-⟩|d;rfl
 cases k with
 |nil=>simp[wm] at d;subst d;rfl
 |cons x l=>(have: ∃y m,o=y::m:=by unfold wm at d;split at d;exact⟨_,_,(bL.inj d).symm⟩;cases d);obtain⟨y,m,rfl⟩:=this;(have e: ∀t r x l n,Ee t r (x::l) n=none:=λt r x l n=>by cases t<;>cases r<;>rfl);show Ee _ _ _ _=Ee _ _ _ _;rw[e,e]
def uG {N:Nat} {w0:ip} {n0:Nat} (hB: ∀i,w0.B i->i<n0) {f keep pf:List Nat} {tm:List SV} {hp:List aY} {K:List SV->List aY->Prop} {a:Act} {w:World} (hr:iN N w0 tm hp a w) (h:pt n0 f keep pf (λt=>a.tmps.toList.getD t undef) tm hp K): ∃tm2 hp2,K tm2 hp2/\iN N w0 tm2 hp2 a w:=by
 unfold pt at h;split at h;rename_i F;simp only[aG] at F;obtain⟨hp2,h,a6,hsel⟩:=Cs h;obtain⟨tm2,h,a2⟩:=r6 h;refine⟨tm2,hp2,h,?_⟩;obtain⟨r,M,ht,hd⟩:=hr;let σ:fF:=λj=>r (f[j]?.getD 0);let back:fF->fF:=λm i=>match sq f i 0 with|some p=>m p|none=>r i
 have J: ∀m,Fp f (back m) m:=λm i p hp=>by show(match sq f i 0 with|some p=>m p|none=>r i)=m p;rw[hp]
 have D: ∀j c,an hp2 j=some c-> ∃i,f[j]? =some i/\((∃b,an hp i=some b/\In f b c)\/(an hp i=none/\c.void=true/\c.mapOf=none/\(c.famOf=none\/c.famOf=some (true,[])))):=λj c u=>by (have X:j<ln hp2:=by rw[cD] at u;exact(aw.1 u).1);obtain⟨i,L⟩: ∃i,f[j]? =some i:=⟨_,ae om⟩;obtain⟨c',g,s⟩:=hsel j i L;rw[u] at g;cases g;exact⟨i,L,s⟩
 have q: ∀j c,an hp2 j=some c->c.void=false-> ∃i b,f[j]? =some i/\an hp i=some b/\In f b c:=λj c u z=>by obtain⟨i,L,h⟩:=D j c u;rcases h with⟨b,o,g⟩|⟨-,g,-⟩;exact⟨i,b,L,o,g⟩;rw[g] at z;cases z
 have O: ∀m,gt (an hp2) m σ->gt (an hp) (back m) r:=λm G i L=>by show(match sq f i 0 with|some p=>m p|none=>r i)=r i;split;rename_i p a5;obtain⟨j,e,X⟩:=Cp a5;rw[aN] at e;subst e;obtain⟨c,g,-⟩:=hsel p i X;rw[G p (by rw[g];rfl)];show r (f[p]?.getD 0)=r i;rw[X];rfl;rfl
 have T: ∀m j i,f[j]? =some i->back m i=m j:=λm j i X=>by show(match sq f i 0 with|some p=>m p|none=>r i)=m j;rw[He j F.2 X,aN]
 have y: ∀j i,f[j]? =some i->σ j=r i:=λj i X=>by show r (f[j]?.getD 0)=r i;rw[X];rfl
 have R: ∀m (b c:aY),In f b c->af (back m) b.cs=af m c.cs:=λm b c a4=>by rcases a4.2.2.2 with⟨o,g⟩|o;rw[o];exact g _ _;exact pO (J m) o
 have H: ∀(b c:aY),In f b c->c.void=false->b.void=false:=λb c h z=>by obtain⟨-,g,-,s⟩:=h;rcases kR b with h|h;obtain⟨h4,h5⟩:=lE h;(have Y:c.cs=[]:=by rcases s with⟨Z,-⟩|Z;rw[Z,h5];rw[h5] at Z;simp[wm] at Z;exact Z);unfold aY.void at z;rw[Y,g,h4] at z;cases z;exact h
 have I: ∀j c,an hp2 j=some c->c.mapOf.isSome=true-> ∃i b,f[j]? =some i/\an hp i=some b/\b.mapOf=c.mapOf:=λj c u hm=>by obtain⟨i,L,h⟩:=D j c u;rcases h with⟨b,o,g⟩|⟨-,-,g,-⟩;exact⟨i,b,L,o,TW g⟩;rw[g] at hm;cases hm
 refine⟨σ,⟨λj c u z=> ?_,λj c u E=> ?_,λj k c d u E U a1 W=> ?_,λm G j c u=> ?_,M.bel,M.big,λi L=> ?_,λj c e u he=> ?_,λj k c d u U o g W=> ?_,M.fam.up2 (λj c u hm=> ?_) λj c u ho=> ?_⟩,λm G=> ?_,hd⟩;obtain⟨i,b,o,g,s⟩:=q j c u z;rw[y j i o];exact M.old i b g (H b c s z);obtain⟨i,b,o,g,s⟩:=q j c u (fH E);rw[y j i o];exact M.own i b g (s.2.1.symm.trans E);obtain⟨i,b,o,g,s⟩:=q j c u (fH E);obtain⟨i',b',A,V,Q⟩:=q k d U a1;rw[y j i o,y k i' A];exact M.apart i i' b b' g (s.2.1.symm.trans E) V (H b' d Q a1) (λe=>W (by subst e;exact x7 F.2 _ _ _ A o));rcases kR c with z|z;exact fq.void z m j w;obtain⟨i,b,o,g,Y⟩:=q j c u z;have:=M.holds (back m) (O m G) i b g;unfold fq at this⊢;rw[R m b c Y,T m j i o,<-Y.1,<-Y.2.1,<-Y.2.2.1] at this;exact this;have o:=Ac F.1 i (hB i L);rw[aN] at o;have g:=M.ext i L;obtain⟨c,s,-⟩:=hsel i i o;exact⟨by rw[s];rfl,(y i i o).trans g.2⟩;obtain⟨i,b,o,g,s⟩:=I j c u (by rw[he];rfl);rw[y j i o];exact M.maps i b e g (s.trans he);obtain⟨i,b,A,V,s⟩:=I j c u o;obtain⟨i',b',P,a0,Q⟩:=I k d U g;rw[y j i A,y k i' P];exact M.mapA i i' b b' V a0 (by rw[s];exact o) (by rw[Q];exact g) (λe=>W (by subst e;exact x7 F.2 _ _ _ P A));obtain⟨i,L,h⟩:=D j c u;rcases h with⟨b,o,g⟩|⟨-,-,-,s⟩;exact .inl ⟨i,b,o,by unfold aY.famOf;rw[g.1,g.2.1,g.2.2.1]⟩;rcases s with s|s;rw[s] at hm;cases hm;exact .inr s;obtain⟨i,b,o,g,s⟩:=q j c u (fH ho);exact .inl ⟨i,b,g,s.2.1.symm.trans ho,by rw[y j i o]⟩;have e:=ht (back m) (O m G);rw[<-a2 (back m) m (J m) (λj x hx=> ?_)];exact e;rw[aN,e];simp[hx];exact h.elim
end
section
def FR (r:Option Nat):Fence:={Fence.wide with round:=r}
def nD (o:Oper):Bool:=match o.op with| .defer _=>false|_=>true
section
variable {P:Program} (r:Option Nat) {n:Nat}
def FU {f args w R} (h:Calls P f args w R):CallsIn (FR r) n P f args w R:=callsIn_wide.2 h
def J8 {s args w R} (h:Rows P s args w R):RowsIn (FR r) n P s args w R:=λc e _=>by obtain⟨v,f,g,d⟩:=h c e;exact⟨v,f,g,stepsIn_wide.2 d⟩
def tQ {o} (ho:nD o=true) {a w next Q} (h:o.wp P a w next Q):o.wpIn (FR r) n P a w next Q:=by
 refine⟨λ_ _=>trivial,?_⟩
 have e:o.semAt (FR r).round a.eval=execOp a.eval o:=by
  unfold nD at ho
  unfold Oper.semAt
  split
  ·rename_i i f;rw[f] at ho;cases ho
  ·rfl
 rw[e];unfold Oper.wp at h;generalize(execOp a.eval o).run P w=x at h⊢;have d:(FR r).depth.isSome=true->1<=n:=λh=>by cases h
 cases x with
 |ok x g=>
  cases x<;>simp only[Oper.upon,Oper.uponIn] at h⊢
  all_goals first
   |exact h
   |exact⟨d,FU r h⟩
   |exact⟨d,J8 r h⟩
 |halt x g=>cases x<;>simp only[Oper.upon,Oper.uponIn] at h⊢<;>exact h
def tH {ops Q} (e: ¬LetsOut Q): ∀{os} (_:os.all nD=true) {a w},wpList P ops Q os a w->wpListIn (FR r) n P ops Q os a w
 |[],_,a,w,h=>h
 |o::os,ho,a,w,h=>by simp only[KM,aG] at ho;unfold wpList at h;unfold wpListIn;split;rename_i d;rw[if_pos d] at h;refine tQ r ho.1 (Oper.wp_mono (λa w h=>tH e ho.2 h) (h.resolve_right λh=>e h.2));rename_i d;rw[if_neg d] at h;exact⟨λ_ _=>trivial,tH e ho.2 h⟩
def od {ops Q} (d: ¬LetsOut Q) (ho:ops.toList.all nD=true): ∀{fuel listed a w},wpAny P .any ops Q fuel listed a w->wpAnyIn (FR r) n P .any ops Q fuel listed a w
 |0,listed,a,w,h=>h
 |fuel+1,listed,a,w,h=>by
  unfold wpAny at h;unfold wpAnyIn;refine⟨h.1,λi k=> ?_⟩;have h:=h.2 i k;unfold wpOp at h;unfold wpOpIn
  cases hoi:ops[i]?with
  |none=>rw[hoi] at h;exact od d ho h
  |some o=>rw[hoi] at h;simp only at h⊢;have g:nD o=true:=fE.1 ho o (by obtain⟨j,e⟩:=aE.1 hoi;rw[<-e];simp);split;rename_i f;rw[if_pos f] at h;exact tQ r g (Oper.wp_mono (λa w h=>od d ho h) (h.resolve_right λh=>d h.2));rename_i f;rw[if_neg f] at h;exact⟨λ_ _=>trivial,od d ho h⟩
end
end
section
variable {J:World->Prop} {X:World} {P:Program}
def KS (B:Nat) (J:World->Prop):Prop:= ∀X Y row,J X->X.grownBy Y row->(∀r,row=some r->B<=r/\ ∃o:Obj,X.heap[r]? =some o/\Aw o=false)->J Y
def KS.put {B} (h:KS B J) {l o} d (hs:J X) (f:B<=l) (hl:X.heap[l]? =some o) (ho:Aw o=false):J (X.putObj l d):=h X _ (some l) hs (grownBy_putObj' X l d) λr e=>by cases e;exact⟨f,o,hl,ho⟩
def KS.new {B} (h:KS B J) o (hs:J X):J (X.alloc o):=h X _ none hs (World.grownBy_alloc X o none) λr e=>by cases e
def a5h (_B:Nat) (I:Nat->World->Prop) (Ix:Code->World->Prop) (k:Nat) (X:World):Exit->Act->World->Prop
 | .normal,_,Y=>jT X Y/\I (k+1) Y
 | .ret,_,Y=>jT X Y/\Ix .ret Y
 | .exit id,_,Y=>jT X Y/\Ix (.exit id) Y
 |_,_,_=>False
def Fh {m g ps asg body Q a w f lb} (hg:a.eval g= .func (.func f) #[] lb) (hcal:eK P f) {encs n G} (hit:IterOk P f lb encs n G) {I Ix} (hI: ∀k,KS w.heap.size (I k)) (hIx: ∀c,KS w.heap.size (Ix c)) (hG: ∀k X,I k X->G X) (h0:I 0 w) (hround: ∀l k X,I k X->k<n->(encs k).size=ps.size/\asg.wpIn (FR (some l)) 0 P (Exit.then (λa₁ X₁=>jT X X₁/\ ∀r o o',w.heap.size<=r->X₁.heap[r]? =some (.loop o)-> body.wpIn (FR (some l)) 0 P (a5h w.heap.size I Ix k (X₁.putObj r (.loop o'))) a₁ (X₁.putObj r (.loop o'))) (λ_ _ _=>False)) {tmps:=(ps.zip (encs k)).foldl (λt (p,v)=>t.setIfInBounds p v) a.tmps,defers:=[]} X) (hdone: ∀X,I n X->X.heap[w.heap.size]? =some (.deferred (some []))->Q .normal {a with defers:=Ch w.heap.size::a.defers} X) (hstop: ∀c X,Ix c X->X.heap[w.heap.size]? =some (.deferred (some []))->c.wpIn (FR none) m P Q {a with defers:=Ch w.heap.size::a.defers} X): (Code.rangeFunc g ps asg body).wpIn (FR none) m P Q a w:=by
 apply wpIn_rangeFunc
 intro fn _
 obtain⟨i,hrec⟩: ∃i:LoopState->Option Code->Loop,i=λst pe=>{state:=st,pending:=pe,fn,tmps:=a.tmps,params:=ps,assign:=asg,body,defers:=w.heap.size}:=⟨_,rfl⟩
 obtain⟨z,hX1⟩: ∃z,(w.alloc (.deferred (some []))).alloc (.loop (i .ready none))=z:=⟨_,rfl⟩
 have R:z.heap[w.heap.size+1]? =some (.loop (i .ready none)):=by rw[<-hX1];have:=World.alloc_heap_new (w.alloc (.deferred (some []))) (.loop (i .ready none));rwa[fG] at this
 have hK1:z.heap[w.heap.size]? =some (.deferred (some [])):=by rw[<-hX1];exact(Below.heap_alloc _ _ _ sp).trans (World.alloc_heap_new w _)
 have a0:I 0 z:=by rw[<-hX1];exact(hI 0).new _ ((hI 0).new _ h0)
 obtain⟨a1,c1,c2,c3⟩:=hcal
 refine⟨w.heap.size+1,[Ch w.heap.size],z,{target:= .fn (.func f) lb,args:= #[.func (.yield (w.heap.size+1)) #[] #[]]},z,f,#[.func (.yield (w.heap.size+1)) #[] #[]]++lb,z,?_,?_,λ_ _=>trivial,?_,(λh=>by cases h),?_⟩
 ·rw[<-hX1,hrec];exact run_enterLoop_outer _ _ _ _ _
 ·simp only[resolve,hg]
  simp[go_sem]
 ·simp only[invoke,callFunc,aX,run_program,aB,c1,c2,c3]
  simp
 ·refine(CallsIn.mono (CallsIn.more (hit (w.heap.size+1)
   (λk X=>I k X/\X.heap[w.heap.size+1]? =some (.loop (i .ready none))/\X.heap[w.heap.size]? =some (.deferred (some [])))
   (λX=> ∃c,Ix c X/\X.heap[w.heap.size+1]? =some (.loop (i .done (some c)))/\X.heap[w.heap.size]? =some (.deferred (some [])))
   z ?_ ?_ (λk A h=>hG k A h.1) ?_ ⟨a0,R,hK1⟩) (ah (m-1))) ?_:CallsIn Fence.wide _ P f _ z _)
  ·rintro k A B ⟨O,h2,h3⟩ hgr
   refine⟨hI k A B none O hgr (λr e=>by cases e),?_,?_⟩
   ·rw[hgr.block _ (aE.1 h2).1 sp];exact h2
   ·rw[hgr.block _ (aE.1 h3).1 sp];exact h3
  ·rintro A B ⟨c,O,h2,h3⟩ hgr
   refine⟨c,hIx c A B none O hgr (λr e=>by cases e),?_,?_⟩
   ·rw[hgr.block _ (aE.1 h2).1 sp];exact h2
   ·rw[hgr.block _ (aE.1 h3).1 sp];exact h3
  ·rintro k X ⟨N,s,D⟩ hlen
   obtain⟨V,Z⟩:=hround (w.heap.size+1) k X N hlen
   have hy:=run_yield (P:=P) (args:=encs k) s (by rw[hrec];exact V)
   rw[hrec] at hy
   refine⟨fn,_,_,_,hy,roundIn_of_wpIn trivial (wpIn_mono (F:=FR (some (w.heap.size+1))) Z ?_)⟩
   rintro e a₁ X₁ H
   cases e with
   |exit id=>exact H.elim
   |goto t=>exact H.elim
   |ret=>exact H.elim
   |panic ch=>exact H.elim
   |outgrown=>exact H.elim
   |normal=>
   obtain⟨L,Z⟩:=H
   have s:=L.same _ _ s rfl
   have D:=L.same _ _ D rfl
   have U:w.heap.size+1<X₁.heap.size:=(aE.1 s).1
   have T:(X₁.putObj (w.heap.size+1) (.loop {i .ready none with state:= .busy})).heap[w.heap.size+1]? =some (.loop {i .ready none with state:= .busy}):=World.putObj_heap_same U
   have W:(X₁.putObj (w.heap.size+1) (.loop {i .ready none with state:= .busy})).heap[w.heap.size]? =some (.deferred (some [])):=(World.putObj_heap_other om).trans D
   refine⟨_,run_beginRound s (by rw[hrec]),?_⟩
   have fin: ∀d Y,jT (X₁.putObj (w.heap.size+1) (.loop {i .ready none with state:= .busy})) Y->
     (Instr.endRound (w.heap.size+1) d).run P Y= .ok (.bool d.isNone) (Y.putObj (w.heap.size+1) (.loop (i (if d.isNone then .ready else .done) d)))/\
     Y.heap[w.heap.size+1]? =some (.loop {i .ready none with state:= .busy})/\
     (Y.putObj (w.heap.size+1) (.loop (i (if d.isNone then .ready else .done) d))).heap[w.heap.size+1]? =some (.loop (i (if d.isNone then .ready else .done) d))/\
     (Y.putObj (w.heap.size+1) (.loop (i (if d.isNone then .ready else .done) d))).heap[w.heap.size]? =some (.deferred (some [])):=λd Y q=>by
    have j:=q.same _ _ T rfl
    have:=run_endRound (P:=P) d j
    rw[hrec] at this⊢
    exact⟨this,by rw[hrec] at j;exact j,World.putObj_heap_same (aE.1 j).1,(World.putObj_heap_other om).trans (q.same _ _ W rfl)⟩
   refine wpIn_mono (F:=FR (some (w.heap.size+1))) (Z (w.heap.size+1) _ {i .ready none with state:= .busy} om s) ?_
   rintro e a3 Y E
   cases e with
   |normal=>obtain⟨q,x⟩:=E;obtain⟨M,j,u,y⟩:=fin none Y q;exact⟨_,_,M,.inl ⟨rfl,(hI _).put _ x om j rfl,u,y⟩⟩
   |ret=>obtain⟨q,x⟩:=E;obtain⟨M,j,u,y⟩:=fin (some .ret) Y q;exact⟨_,_,M,.inr ⟨rfl,.ret,(hIx _).put _ x om j rfl,u,y⟩⟩
   |exit id=>obtain⟨q,x⟩:=E;obtain⟨M,j,u,y⟩:=fin (some (.exit id)) Y q;exact⟨_,_,M,.inr ⟨rfl,.exit id,(hIx _).put _ x om j rfl,u,y⟩⟩
   |goto t=>exact E.elim
   |panic ch=>exact E.elim
   |outgrown=>exact E.elim
  ·rintro e Y ⟨⟨v,rfl⟩,(⟨N,s,D⟩|⟨c,N,s,D⟩)⟩
   ·exact⟨none,_,by have:=run_endLoop (P:=P) s (by rw[hrec];simp);rw[hrec] at this;exact this,hdone _ ((hI _).put _ N om s rfl) ((World.putObj_heap_other om).trans D)⟩
   ·exact⟨some c,_,by have:=run_endLoop (P:=P) s (by rw[hrec];simp);rw[hrec] at this;exact this,hstop c _ ((hIx c).put _ N om s rfl) ((World.putObj_heap_other om).trans D)⟩
def GP {P:Program} {fn:Func} {tmps:Array Value} {R:Ending->World->Prop} {N:Nat} {w0:ip} {i:Nat->Option aY} {ρ:fF}: ∀(M:List Nat) (W:World),dv N w0 i ρ W->M.Nodup->
  (∀D∈M,N<=D/\w0.w.heap.size<=D/\W.heap[D]? =some (.deferred (some [])))->(∀W',dv N w0 i ρ W'-> ∃v,(results fn tmps).run P W'= .ok v W'/\R (.returned v) W')->
  LeavesInM Fence.wide 0 P fn tmps R (M.map Ch) .returning W
 |[],W,hh,_,_,h=>h W hh
 |D::M,W,hh,f,hM,h=>by obtain⟨p,j,g⟩:=hM D aP;obtain⟨s,f⟩:=xO.1 f;refine⟨sp,.inl ⟨D,W.putObj D (.deferred none),rfl,run_takeDeferred g,GP M _ (hh.grownBy (grownBy_putObj' W D _) λr e=>by cases e;exact⟨j,p,_,g,rfl⟩) f (λo d=> ?_) h⟩⟩;obtain⟨q,k,m⟩:=hM o (aD _ d);exact⟨q,k,(World.putObj_heap_other (λe=>s (by rw[<-e];exact d))).trans m⟩
end
section
def QK (a b:Nat):Nat.ble a b=true↔a<=b:=by rw[Nat.ble_eq]
def a3S a b:Nat.blt a b=true↔a<b:=by rw[Nat.blt_eq]
def OJ {m p j} (h:(m&&&(2^p-1))=2^p-1) (hj:j<p):m.testBit j=true:=by have:=congrArg (λx=>x.testBit j) h;simpa[Nat.testBit_and,Nat.testBit_two_pow_sub_one,hj] using this
def XD {p}: ∀{l x},x∈shE p l↔ ∃e∈l,p<=e.on/\x={e with on:=e.on-p}
 |[],x=>by simp[shE]
 |e::l,x=>by unfold shE;have j:= @XD p l x;split;rename_i h;have h:=(QK _ _).1 h;rw[br,j];constructor;rintro(rfl|⟨g,d,f⟩);exact⟨e,aP,h,rfl⟩;exact⟨g,aD _ d,f⟩;rintro⟨g,d,f,i⟩;rcases br.1 d with rfl|d;exact .inl i;exact .inr ⟨g,d,f,i⟩;rename_i h;(have h: ¬p<=e.on:=λk=>by rw[(QK _ _).2 k] at h;cases h);rw[j];constructor;rintro⟨g,d,f⟩;exact⟨g,aD _ d,f⟩;rintro⟨g,d,f,i⟩;rcases br.1 d with rfl|d;exact absurd f h;exact⟨g,d,f,i⟩
structure Py (ops:List Oper) (p:Nat):Prop where
 hp:p<ln ops
 edges: ∀i o,i<p->ops[i]? =some o-> ∀e∈o.after,Region.binds .any e=true->e.on<i
 wait: ∀i o,p<=i->ops[i]? =some o-> ∀j,j<p->bf ops.toArray i j
 g1: ∀i o j w,i<p->ops[i]? =some o->o.guard=some (j,w)->j<p
 g2: ∀i o j w,p<=i->ops[i]? =some o->o.guard=some (j,w)->p<=j
def B2 {g p}: ∀{l i},RM g p i l=true-> ∀k o,l[k]? =some o->
  (p<=i+k->(ij 0 g (i+k)&&&(2^p-1))=2^p-1/\ ∀j w,o.guard=some (j,w)->p<=j)/\(i+k<p-> ∀j w,o.guard=some (j,w)->j<p)
 |[],_,_,k,o,ho=>by simp at ho
 |x::l,i,h,k,o,ho=>by
  simp only[RM,aG] at h;obtain⟨d,m⟩:=h
  cases k with
  |succ k=>have:=B2 m k o (by simpa using ho);rw[show i+1+k=i+(k+1) by omega] at this;exact this
  |zero=>simp at ho;subst ho;rw[fM];split at d;rename_i e;have e:=(QK _ _).1 e;simp only[aG] at d;refine⟨λ_=>⟨gH d.2,λj w f=> ?_⟩,λh=>by omega⟩;have d:=d.1;rw[f] at d;exact(QK _ _).1 d;rename_i e;(have e: ¬p<=i:=λq=>by rw[(QK _ _).2 q] at e;cases e);refine⟨λh=>absurd h e,λ_ j w f=> ?_⟩;rw[f] at d;exact(a3S _ _).1 d
def B4: ∀l i,yW i l=rN i l
 |[],_=>rfl
 |o::l,i=>by unfold yW rN;rw[B4 l (i+1)]
def BZ {ops e}: ∀{n p q},RL ops e n p=some q->p<=q/\q<p+n/\yW 0 (ops.take q)=true/\RM e q 0 ops=true
 |0,p,q,h=>by simp[RL] at h
 |n+1,p,q,h=>by unfold RL at h;split at h;rename_i d;cases h;rw[aG] at d;exact⟨ai _,om,d.1,d.2⟩;obtain⟨i,g,f⟩:=BZ h;exact⟨om,om,f⟩
def WC {ops p} (h:WA ops=some p):Py ops p:=by
 unfold WA at h;split at h;cases h;split at h;cases h;rename_i o l _;obtain⟨A,z,s,r⟩:=BZ h;have u:p<(o::l).length:=by rw[aS];omega
 have k:=B2 r;refine⟨u,λi f g d e q x=> ?_,λi f g d j y=> ?_,λi f j w g d m=> ?_,λi f j w g d m=> ?_⟩;have:=pq (B4 _ 0▸s) i f (by rw[gb,if_pos g];exact d) e q x;omega;have:=(k i f d).1 om;rw[aN] at this;exact OJ this.1 y;exact(k i f d).2 om j w m;exact((k i f d).1 om).2 j w m
def yg p ops j:(MI p ops)[j]? =(ops[p+j]?).map (Pq p):=by unfold MI;rw[gA,List.getElem?_drop]
def Ki p ops:(MI p ops).length=ln ops-p:=by unfold MI;rw[bO,bN]
def WQ ev p o:execOp ev (Pq p o)=execOp ev o:=by cases o;rfl
def YR {P a next Q r} p o:(Pq p o).upon P a next Q r↔o.upon P a next Q r:=by cases o;exact Iff.rfl
def a56 {P a w next Q} p o:(Pq p o).wp P a w next Q↔o.wp P a w next Q:=by unfold Oper.wp;rw[WQ];exact YR p o
def VA {P a w} p o:(Pq p o).asks P a w↔o.asks P a w:=by cases o;exact Iff.rfl
section
variable {ops:List Oper} {p:Nat} (hc:Py ops p)
include hc
def Pl {i o} (hi:p<=i) (ho:ops[i]? =some o) tmps:Region.wanted (Pq p o) (yielded (MI p ops).toArray tmps)=Region.wanted o (yielded ops.toArray tmps):=by
 have f:=hc.g2 i o;unfold Region.wanted Pq
 cases hgd:o.guard with
 |none=>rfl
 |some x=>obtain⟨j,w⟩:=x;have g:=f j w hi ho hgd;(have e:((MI p ops).toArray[j-p]?).bind (·.dst)=(ops.toArray[j]?).bind (·.dst):=by have d:=yg p ops (j-p);rw[show p+(j-p)=j by omega] at d;simp only[cf,d];cases ops[j]? <;>rfl);simp only[yielded,e]
def Pm {i o} (hi:i<p) (ho:ops[i]? =some o) tmps:Region.wanted o (yielded (ops.take p).toArray tmps)=Region.wanted o (yielded ops.toArray tmps):=by
 unfold Region.wanted
 cases hgd:o.guard with
 |none=>rfl
 |some x=>obtain⟨j,w⟩:=x;have d:=hc.g1 i o j w hi ho hgd;(have e:((ops.take p).toArray[j]?).bind (·.dst)=(ops.toArray[j]?).bind (·.dst):=by simp only[cf,gb,if_pos d]);simp only[yielded,e]
def ii {e L2:List Bool} (h1:ln e=p) {i} (hi:i<p) d:(e++L2).toArray.getD i d=e.toArray.getD i d:=by have _:=hc;simp[aQ,List.getElem?_append,h1,hi]
def xW {e L2:List Bool} (h1:ln e=p) i d:(e++L2).toArray.getD (p+i) d=L2.toArray.getD i d:=by have _:=hc;simp only[aQ,cf,List.getElem?_append,h1];rw[if_neg om,show p+i-p=i by omega]
def Af {L2:List Bool} {i:Nat}:i∈Region.ready .any ops.toArray (au p true++L2).toArray↔ ∃j,i=p+j/\j∈Region.ready .any (MI p ops).toArray L2.toArray:=by
 have f:(au p true).length=p:=bb;rw[mem_ready];constructor;rintro⟨g,o,d,r⟩;have y:p<=i:=by rcases cj i p with h|h;rw[ii hc f h] at g;simp[aQ,h] at g;exact h
 obtain⟨j,rfl⟩: ∃j,i=p+j:=⟨i-p,om⟩;refine⟨j,rfl,mem_ready.2 ⟨by rw[<-xW hc f (L2:=L2)];exact g,Pq p o,?_,λe m q=> ?_⟩⟩;have:=yg p ops j;simp only[cf] at d⊢;rw[this,d];rfl;obtain⟨k,s,x,rfl⟩:=XD.1 (by simpa[Pq] using m);have:=r k (by simpa using s) q;rw[<-xW hc f (L2:=L2)];show(au p true++L2).toArray.getD (p+(k.on-p)) false=true;rw[show p+(k.on-p)=k.on by omega];exact this;rintro⟨j,rfl,u⟩;obtain⟨g,o,d,r⟩:=mem_ready.1 u;have:=yg p ops j;simp only[cf] at d;rw[this] at d
 cases ho:ops[p+j]?with
 |none=>rw[ho] at d;cases d
 |some o'=>rw[ho] at d;cases d;refine⟨by rw[xW hc f];exact g,o',by simpa using ho,λe m q=> ?_⟩;rcases cj e.on p with h|h;rw[ii hc f h];simp[aQ,h];have:=r {e with on:=e.on-p} (by simpa[Pq] using XD.2 ⟨e,by simpa using m,h,rfl⟩) q;rw[show e.on=p+(e.on-p) by omega,xW hc f];exact this
def a2T {d L2} (h1:ln d=p) j:(d++L2).toArray.setIfInBounds (p+j) true=(d++L2.set j true).toArray:=by have _:=hc;rw[cH,List.set_append_right _ _ om,h1,show p+j-p=j by omega]
def Kh {d L2} (h1:ln d=p) {j} (hj:j<p):(d++L2).toArray.setIfInBounds j true=(d.set j true++L2).toArray:=by have _:=hc;rw[cH,List.set_append_left _ _ om]
def yK {P Q}: ∀(f:Nat) (L2:List Bool) a w,wpAny P .any (MI p ops).toArray Q f L2.toArray a w->
  wpAny P .any ops.toArray Q f (au p true++L2).toArray a w
 |0,L2,a,w,h=>⟨ed.2 λi q=>(by
   obtain⟨j,-,e⟩:=(Af hc).1 q
   rw[h.1] at e;cases e),h.2⟩
 |f+1,L2,a,w,h=>by refine⟨λy=>h.1 (ed.2 λj e=> ?_),λi q=> ?_⟩;have:p+j∈Region.ready .any ops.toArray (au p true++L2).toArray:=(Af hc).2 ⟨j,rfl,e⟩;rw[y] at this;cases this;obtain⟨j,rfl,e⟩:=(Af hc).1 q;have d:=h.2 j e;obtain⟨-,o,x,-⟩:=mem_ready.1 q;(have g:ops[p+j]? =some o:=by simpa using x);(have s:(MI p ops).toArray[j]? =some (Pq p o):=by simp only[cf,yg,g];rfl);rw[a2T hc bb];unfold wpOp at d⊢;rw[s] at d;rw[x];simp only[Pl hc (a8X _ _) g] at d⊢;(have step: ∀k m,wpAny P .any (MI p ops).toArray Q f (L2.toArray.setIfInBounds j true) k m->wpAny P .any ops.toArray Q f (au p true++L2.set j true).toArray k m:=λk m u=>by rw[cH] at u;exact yK f _ k m u);split;rename_i r;rw[if_pos r] at d;rcases d with d|⟨d,h2⟩;exact .inl (Oper.wp_mono step ((a56 p o).1 d));exact .inr ⟨(VA p o).1 d,h2⟩;rename_i r;rw[if_neg r] at d;exact step _ _ d
end
def RN (P:Program) (p:Nat) (ops:List Oper) (Q:Exit->Act->World->Prop):Exit->Act->World->Prop
 | .normal,a,w=>wpAny P .any (MI p ops).toArray Q (ln ops-p) (eE (ln ops-p) false) a w
 | .panic c,a,w=>Q (.panic c) a w
 | .outgrown,a,w=>Q .outgrown a w
 |_,_,_=>False
section
variable {ops:List Oper} {p:Nat} (hc:Py ops p)
include hc
def Hk {k L2:List Bool} (h1:ln k=p) {i} (hi:i<p):i∈Region.ready .any ops.toArray (k++L2).toArray↔i∈Region.ready .any (ops.take p).toArray k.toArray:=by rw[mem_ready,mem_ready,ii hc h1 hi];simp only[cf,gb,if_pos hi];constructor;rintro⟨h,o,g,j⟩;exact⟨h,o,g,λe d f=>by rw[<-ii hc h1 (L2:=L2) (Nat.lt_trans (hc.edges i o hi g e d f) hi)];exact j e d f⟩;rintro⟨h,o,g,j⟩;exact⟨h,o,g,λe d f=>by rw[ii hc h1 (Nat.lt_trans (hc.edges i o hi g e d f) hi)];exact j e d f⟩
def P8 {d} (h1:ln d=p) (q:Region.ready .any (ops.take p).toArray d.toArray=[]):d=au p true:=by
 have key: ∀i,i<p->d.toArray.getD i true=true:=by
  intro i
  induction i using jY with
  |_ i r=>
   intro j
   cases hl:d.toArray.getD i true with
   |true=>rfl
   |false=>
    have g:i<ln ops:=Nat.lt_trans j hc.hp
    have k:ops[i]? =some ops[i]:=ae g
    have:i∈Region.ready .any (ops.take p).toArray d.toArray:=mem_ready.2 ⟨hl,ops[i],by simp only[cf,gb,if_pos j];exact k,λe m f=>by
     have h:=hc.edges i _ j k e m f
     have:=r e.on h om
     have f:e.on<ln d:=om
     simp only[aQ,cf,ae f,ef] at this⊢
     exact this⟩
    rw[q] at this
    cases this
 refine jg (by simp[h1]) λi o s=> ?_;have:=key i om;simpa[aQ,ae o] using this
omit hc in
def Td: ∀n,nF (au n true)=0
 |0=>rfl
 |n+1=>by rw[dZ,nF];simp[Td n]
def Lu {P Q}: ∀(f:Nat) (L1:List Bool) a w,ln L1=p->nF L1=f->
  kw ops.toArray (λk=>(L1++au (ln ops-p) false).toArray.getD k false=true)->wpAny P .any (ops.take p).toArray (RN P p ops Q) f L1.toArray a w->
  wpAny P .any ops.toArray Q (f+(ln ops-p)) (L1++au (ln ops-p) false).toArray a w
 |0,L1,a,w,h1,hn,hcl,h=>by have T:=P8 hc h1 h.1;rw[aN,T];refine yK hc _ _ _ _ ?_;have:=h.2;unfold RN at this;simpa using this
 |f+1,L1,a,w,h1,hn,hcl,h=>by (have O:Region.ready .any (ops.take p).toArray L1.toArray≠[]:=λe=>by have:=P8 hc h1 e;rw[this,Td] at hn;cases hn);obtain⟨H,y⟩:=a3I _ O;(have q:H<p:=by obtain⟨-,o,s,-⟩:=mem_ready.1 y;have:=(aE.1 s).1;simp at this;omega);have x:L1.toArray.getD H true=false:=(mem_ready.1 y).1;(have F: ∀i,i∈Region.ready .any ops.toArray (L1++au (ln ops-p) false).toArray->i<p:=λi G=>by rcases cj i p with u|u;exact u;exfalso;obtain⟨-,o,s,j⟩:=mem_ready.1 G;have M:=hcl.ready s j;have z:=hc.wait i o u (by simpa using s) H q;rcases M.bf (.inr rfl) z with g|g;rw[ii hc h1 q] at g;have z:H<ln L1:=om;simp only[aQ,cf,ae z,ef] at g x;rw[g] at x;cases x;omega);rw[show f+1+(ln ops-p)=(f+(ln ops-p))+1 by omega];refine⟨λR=> ?_,λi G=> ?_⟩;have:=(Hk hc h1 (L2:=au (ln ops-p) false) q).2 y;rw[R] at this;cases this;have d:=F i G;have J:=(Hk hc h1 d).1 G;have g:=h.2 i J;obtain⟨m,o,s,j⟩:=mem_ready.1 G;(have D:ops[i]? =some o:=by simpa using s);(have N:(ops.take p).toArray[i]? =some o:=by simp only[cf,gb,if_pos d];exact D);rw[Kh hc h1 d];(have E:kw ops.toArray (λk=>(L1.set i true++au (ln ops-p) false).toArray.getD k false=true):=by (have e:(λk=>(L1.set i true++au (ln ops-p) false).toArray.getD k false=true)=(λk=>(L1++au (ln ops-p) false).toArray.getD k false=true\/k=i):=by funext k;apply propext;rw[<-Kh hc h1 d];by_cases hk:k=i;subst hk;rw[Kh hc h1 d,ii hc (by rw[aZ];exact h1) d];simp[aQ,h1,d];simp only[hk,or_false];rw[aQ,aQ,Pt,if_neg (λe=>hk e.symm)]);rw[e];exact hcl.ready s j);(have L:nF (L1.set i true)=f:=by have z:i<ln L1:=om;(have m:L1[i]? =some false:=by rw[ii hc h1 d] at m;simp only[aQ,cf,ae z,ef] at m;rw[ae z,m]);have:=JO L1 i m;omega);(have step: ∀A B,wpAny P .any (ops.take p).toArray (RN P p ops Q) f (L1.toArray.setIfInBounds i true) A B->wpAny P .any ops.toArray Q (f+(ln ops-p)) (L1.set i true++au (ln ops-p) false).toArray A B:=λA B u=>by rw[cH] at u;exact Lu f _ A B (by rw[aZ];exact h1) L E u);have r:LetsOut (RN P p ops Q)->LetsOut Q:=λ⟨A,B,u⟩=>⟨A,B,u⟩;unfold wpOp at g⊢;rw[N] at g;rw[s];simp only[Pm hc d D] at g⊢;split;rename_i I;rw[if_pos I] at g;rcases g with g|⟨g,h3⟩;left;unfold Oper.wp at g⊢;exact H5 step (λ_ _ _ h=>h) r g;exact .inr ⟨g,r h3⟩;rename_i I;rw[if_neg I] at g;exact step _ _ g
def WD {P Q a w} (h:wpAny P .any (ops.take p).toArray (RN P p ops Q) (ops.take p).length (eE (ops.take p).length false) a w): wpAny P .any ops.toArray Q (ln ops) (eE (ln ops) false) a w:=by
 have i:=hc.hp;have f:(ops.take p).length=p:=by rw[aO];omega
 rw[f] at h
 have g: ∀n,nF (au n false)=n:=λn=>by
  induction n with
  |zero=>rfl
  |succ n ih=>simp only[dZ,nF,ih];simp;omega
 have e:au p false++au (ln ops-p) false=au (ln ops) false:=by rw[Fq];congr 1;omega
 have:=Lu hc (P:=P) (Q:=Q) p (au p false) a w bb (g p) (by
  rw[e]
  intro k o _ d
  exfalso
  have: ∀n,(au n false)[k]?.getD false=false:=λn=>by rw[gT];split<;>rfl
  simp only[aQ,cf,this] at d
  cases d) (by simpa using h)
 rw[e,show p+(ln ops-p)=(ln ops) by omega] at this;simpa using this
end
section
variable {P:Program} {E:ic} (hE:iU P E) {H:FuncId->List SV->List aY->(SV->List aY->Prop)->Prop} (hH:ko P H)
include hE hH
def EE {N w0 id ops} (hk:Ha ops.toArray=true) {i hp K} (h:AK E H id ops i hp K) {a w} (g:iN N w0 i hp a w) {Q} (j:Im Q) (m: ∀tm' hp' a' w',K tm' hp'->iN N w0 tm' hp' a' w'->Q .normal a' w'):wpAny P .any ops.toArray Q (ln ops) (eE (ln ops) false) a w:=by
 unfold Ha at hk;simp only[aG] at hk;have d:(ops.take (ln ops-Bt ops)++ops.drop (ln ops-Bt ops))=ops:=by rw[aF]
 have fin: ∀tm' hp',lV E H ops.toArray (ops.drop (ln ops-Bt ops)) tm' hp' K-> ∀a' w',iN N w0 tm' hp' a' w'->tf P (ops.drop (ln ops-Bt ops)) Q .normal a' w':=λtm' hp' f a' w' e=>
  CG hE hH m _ _ hk.2 tm' hp' f a' w' e
 have key:wpAny P .any (ops.take (ln ops-Bt ops)).toArray (tf P (ops.drop (ln ops-Bt ops)) Q) (ops.take (ln ops-Bt ops)).toArray.size (eE (ops.take (ln ops-Bt ops)).toArray.size false) a w:=by unfold AK at h;simp only at h;split at h;exact UR hE hk.1 h g λtm' hp' a' w' f e=>fin tm' hp' f a' w' e;split at h;have:=AN hE hH hk.1 (j.chain _) (λtm' hp' a' w' f e=>fin tm' hp' f a' w' e) _ _ (λk o _ hk=>(Cg hk).elim) _ _ h _ _ g;rw[rT] at this;simpa using this;have:=sg hE hH hk.1 (j.chain _) (λtm' hp' a' w' f e=>fin tm' hp' f a' w' e) _ _ (λk o _ hk=>(Cg hk).elim) _ _ h _ _ g;rw[rT] at this;simpa using this
 have key:=UW _ _ hk.2 key;rw[d] at key;simpa using key
def KD {N w0 id Q K} (e:Im Q) (g: ∀tm' hp' a' w',K tm' hp'->iN N w0 tm' hp' a' w'->Q .normal a' w'):
  ∀f ops,okR f ops=true-> ∀{tm hp},vcR E H id f ops tm hp K-> ∀{a w},iN N w0 tm hp a w->wpAny P .any ops.toArray Q (ln ops) (eE (ln ops) false) a w
 |[],ops,hk,tm,hp,h,a,w,hr=>EE hE hH hk h hr e g
 |_::f,ops,hk,tm,hp,h,a,w,hr=>by unfold vcR at h;unfold okR at hk;split at h;rename_i d;rw[d] at hk;exact EE hE hH hk h hr e g;rename_i p d;rw[d] at hk;simp only[aG] at hk;refine WD (WC d) (EE hE hH hk.1 h hr (λc a a' w h=>e c a a' w h) λtm' hp' a' w' j i=> ?_);have:=KD e g f (MI p ops) hk.2 j i;rw[Ki] at this;exact this
end
end
section
def Mq (top:Bool):Code->Bool
 | .region _ ops true=>okR ops.toList ops.toList&&ops.toList.all nD
 | .region _ ops false=>ops.toList.all nD
 | .seq a b=>Mq top a&&Mq top b
 | .cond _ a b=>Mq top a&&Mq top b
 | .block _ c=>Mq top c
 | .loop c=>Mq top c
 | .rangeFunc _ _ a c=>top&&(Mq false a&&Mq false c)
 |_=>true
def okC (c:Code):Bool:=Mq true c
def n4 {P F j c Q}: ∀{n m},n<=m-> ∀{a w},Code.roundsIn F j P c Q n a w->Code.roundsIn F j P c Q m a w
 |0,_,_,_,_,h=>h.elim
 |n+1,0,h,_,_,_=>by omega
 |n+1,m+1,h,a,w,hr=>by
  rw[roundsIn_succ] at hr⊢;refine wpIn_mono hr λe f g d=> ?_
  cases e with
  |normal=>exact n4 om d
  |exit id=>exact d
  |ret=>exact d
  |goto l=>exact d
  |panic c=>exact d
  |outgrown=>exact d
structure Ext (N:Nat) (w0 w1:ip):Prop where
 bel:sR N w0.w w1.w
 B:w1.B=w0.B
 ρ:w1.ρ=w0.ρ
 lo:w1.lo=w0.lo
def Ext.refl N w0:Ext N w0 w0:=⟨sR.refl _ _,rfl,rfl,rfl⟩
def ud (N:Nat) (w0:ip) (e:List SV) (hp:List aY) (a:Act) (w:World):Prop:= ∃d,Ext N w0 d/\iN N d e hp a w
def QL (N:Nat) (w0:ip) (Q:SE->List SV->List aY->Prop):Exit->Act->World->Prop
 | .normal,a,w=> ∃d e,Q .normal d e/\ud N w0 d e a w
 | .exit id,a,w=> ∃d e,Q (.exit id) d e/\ud N w0 d e a w
 | .ret,a,w=> ∃d e,Q .ret d e/\ud N w0 d e a w
 |_,_,_=>False
def PN {N w0 Q}: ¬LetsOut (QL N w0 Q):=λ⟨_,_,h⟩=>h
def Hw: ∀{ps xs tm K},Hu ps xs tm K->ln ps=ln xs/\ ∃tm1,K tm1/\ ∀ρ t,t.toList=tm.map (SV.den ρ)->
  ((ps.zip (xs.map (SV.den ρ))).foldl (λ(t:Array Value) (p:Tmp×Value)=>t.setIfInBounds p.1 p.2) t).toList=tm1.map (SV.den ρ)
 |[],[],tm,K,h=>⟨rfl,tm,h,λρ t d=>d⟩
 |p::ps,x::xs,tm,K,h=>by unfold Hu at h;rw[dR] at h;obtain⟨g,tm1,f,e⟩:=Hw h;exact⟨by simp[g],tm1,f,λρ t d=>e ρ (t.setIfInBounds p (x.den ρ)) (by simp[d])⟩
 |[],_::_,_,_,h=>h.elim
 |_::_,[],_,_,h=>h.elim
def O2 {c x} (h:bu (c::x)=0):False:=by have h:c.n+bu x=0:=h;cases c<;>simp only[C.n] at h<;>omega
def iU.at {P E} (d:iU P E) n:iU P (E.at n):=⟨d.T,d.D,d.O,d.R,d.X⟩
def zl {hp q}: ∀{ds},kY ds hp q-> ∀b∈ds,∀blk,an hp b=some blk-> ∃blk',an q b=some blk'/\blk'.void=blk.void/\(∀ρ w,fq ρ blk' b w->fq ρ blk b w)/\ ∀o l,blk.famOf=some (o,l)-> ∃m,blk'.famOf=some (o,l++m)
 |[],_,b,i=>by cases i
 |d::l,h,b,i=>by
  unfold kY at h;split at h;rename_i J L u M H B g F D y;obtain⟨⟨rfl,rfl,rfl⟩,E,h⟩:=h;rcases br.1 i with rfl|i;intro blk f;rw[D] at f;cases f;refine⟨_,y,?_,λρ w r=> ?_,λo l j=>by cases j⟩
  have e:u=[]↔g=[]:=by
   (have s:bu u=bu g:=by rw[cU λ_=>(0,0),cU λ_=>(0,0)];exact congrArg ln (E _))
   have z: ∀x:List C,bu x=0->x=[]:=λx G=>by
    cases x with
    |nil=>rfl
    |cons c x=>exfalso;exact O2 G
   constructor;intro e;subst e;exact z _ s.symm;intro e;subst e;exact z _ s
  unfold aY.void
  cases B with
  |false=>rfl
  |true=>
   cases u with
   |nil=>rw[e.1 rfl]
   |cons c u=>cases g with
    |nil=>cases e.2 rfl
    |cons c' g=>rfl
  unfold fq at r⊢;simp only at r⊢;rw[E ρ];exact r;exact zl h b i;rename_i O k I N D y;obtain⟨rfl,⟨m,rfl⟩,h⟩:=h;rcases br.1 i with rfl|i;intro blk f;rw[D] at f;cases f;refine⟨_,y,rfl,λρ w r=>⟨r.1,λh=>by cases h⟩,λo l j=>⟨m,?_⟩⟩;unfold aY.famOf GC at j⊢;split at j;rename_i A _ p;cases A;cases j;simp only at p;subst p;rfl;rename_i A _ p;cases A;cases j;simp only at p;subst p;rfl;cases j;exact zl h b i;exact h.elim
def x8 {e:Type} {l:List e} {i:Nat} (h:(an l i).isSome=true):i<ln l:=by rw[cD] at h;obtain⟨x,d⟩:=aK.1 h;exact(aw.1 d).1
def Nx {N n0 w0 hp ρ w J} (hB: ∀i,w0.B i->i<n0) (hlo:w0.lo<=w0.w.heap.size) (hh:dv N w0 (an hp) ρ w) (h:Iq n0 hp J): ∃hp2 ρ2,dv N w0 (an hp2) ρ2 w/\J hp2:=by rcases h with h|h;exact⟨hp,ρ,hh,h⟩;obtain⟨sel,keep,pf,h⟩:=h;have hr:iN N w0 [] hp {tmps:= #[],defers:=[]} w:=⟨ρ,hh,λ_ _=>rfl,KO.nil _ _ hlo⟩;obtain⟨tm1,hp1,⟨tm2,hp2,e1,e2,hJ⟩,hr1⟩:=uG hB hr (h _);obtain⟨ρ2,hh2,-⟩:=hr1.same e1 e2;exact⟨hp2,ρ2,hh2,hJ⟩
def qO {A B C}: ∀{ds},kY ds A B->kY ds B C->kY ds A C
 |[],_,_=>trivial
 |b::l,h,k=>by unfold kY at h k⊢;split at h;rename_i D E G F x j o p g f;obtain⟨⟨rfl,rfl,rfl⟩,u,h⟩:=h;rw[f] at k;split at k;rename_i d e;cases d;obtain⟨⟨rfl,rfl,rfl⟩,s,k⟩:=k;rw[g,e];exact⟨⟨rfl,rfl,rfl⟩,λi=>(u i).trans (s i),qO h k⟩;rename_i d e;cases d;exact k.elim;rename_i H q y z g f;obtain⟨rfl,⟨m,rfl⟩,h⟩:=h;rw[f] at k;split at k;rename_i d e;cases d;rename_i d e;cases d;obtain⟨rfl,⟨r,rfl⟩,k⟩:=k;rw[g,e];exact⟨rfl,⟨m++r,aJ _ _ _⟩,qO h k⟩;exact k.elim;exact h.elim
section
variable {P:Program} (hm:P.follows .mixedOrders=true) {H:FuncId->List SV->List aY->(SV->List aY->Prop)->Prop} (hH:ko P H)
include hm hH
def p3 {E} (hE:iU P E) {N r n w0} (hB: ∀i,w0.B i->i<E.n0): ∀c (_:Mq r.isNone c=true) tm hp Q,Fl E H c tm hp Q-> ∀a w,ud N w0 tm hp a w->c.wpIn (FR r) n P (QL N w0 Q) a w
 | .skip,_,tm,hp,Q,h,a,w,u=>wpIn_skip ⟨tm,hp,h,u⟩
 | .ret,_,tm,hp,Q,h,a,w,u=>wpIn_ret ⟨tm,hp,h,u⟩
 | .exit id,_,tm,hp,Q,h,a,w,u=>wpIn_exit ⟨tm,hp,h,u⟩
 | .seq x y,T,tm,hp,Q,h,a,w,u=>by
  simp only[Mq,aG] at T;refine wpIn_seq (wpIn_mono (p3 hE hB x T.1 tm hp _ h a w u) λe a' w' z=> ?_)
  cases e with
  |normal=>obtain⟨A,d,s,G⟩:=z;exact p3 hE hB y T.2 A d Q s a' w' G
  |exit id=>exact z
  |ret=>exact z
  |goto l=>exact z.elim
  |panic c=>exact z.elim
  |outgrown=>exact z.elim
 | .cond c x y,T,tm,hp,Q,h,a,w,u=>by
  simp only[Mq,aG] at T
  unfold Fl at h
  split at h
  ·rename_i b hb
   have he:a.eval c= .bool b:=by obtain⟨w1,-,U,-,ht,-⟩:=u;rw[fP (ht U (gt.refl _ _)),gI,hb];rfl
   obtain⟨s,G⟩:=jL h
   exact wpIn_cond_split he (λhb=>p3 hE hB x T.1 tm hp Q (s hb) a w u) (λhb=>p3 hE hB y T.2 tm hp Q (G hb) a w u)
  ·cases h
 | .block id c,T,tm,hp,Q,h,a,w,u=>by
  refine wpIn_block (wpIn_mono (p3 hE hB c T tm hp _ h a w u) λe a' w' z=> ?_)
  cases e with
  |normal=>exact z
  |exit id'=>
   obtain⟨A,d,s,G⟩:=z
   simp only at s
   show if id'=id then _ else _
   split
   ·rename_i e;rw[if_pos e] at s;exact⟨A,d,s,G⟩
   ·rename_i e;rw[if_neg e] at s;exact⟨A,d,s,G⟩
  |ret=>exact z
  |goto l=>exact z.elim
  |panic c=>exact z.elim
  |outgrown=>exact z.elim
 | .loop c,T,tm,hp,Q,h,a,w,u=>by
  have T:Mq r.isNone c=true:=T
  have ih: ∀tm hp Q,Fl E H c tm hp Q-> ∀a w,ud N w0 tm hp a w->c.wpIn (FR r) n P (QL N w0 Q) a w:=λtm hp Q h a w u=>p3 hE hB c T tm hp Q h a w u
  have a2: ∀j tm hp,tV (λtm hp Q=>Fl E H c tm hp Q) Q j tm hp-> ∀a w,ud N w0 tm hp a w->Code.roundsIn (FR r) n P c (QL N w0 Q) j a w:=by
   intro j
   induction j with
   |zero=>intro tm hp h;exact h.elim
   |succ j ihn=>
    intro tm hp h a w u;rw[roundsIn_succ];refine wpIn_mono (ih tm hp _ h a w u) λe a' w' z=> ?_
    cases e with
    |normal=>obtain⟨A,d,s,G⟩:=z;exact ihn A d s a' w' G
    |exit id=>exact z
    |ret=>exact z
    |goto l=>exact z.elim
    |panic c=>exact z.elim
    |outgrown=>exact z.elim
  unfold Fl at h
  unfold ZO at h
  split at h
  ·rename_i j hn
   exact wpIn_loop_rounds (j+1) (a2 _ tm hp h a w u)
  ·rcases h with⟨j,h⟩|⟨I,d5,b7⟩
   ·exact wpIn_loop_rounds j (a2 j tm hp h a w u)
   ·have a6: ∀{tm hp} {J:List SV->List aY->Prop} {a:Act} {w:World},lK E.n0 tm hp J->ud N w0 tm hp a w-> ∃W L,J W L/\ud N w0 W L a w:=λh u=>by
     obtain⟨i3,keep,pf,h⟩:=h
     obtain⟨w1,hx,u⟩:=u
     obtain⟨c8,i2,⟨W,L,e1,e2,hJ⟩,c3⟩:=uG (by rw[hx.B];exact hB) u (h _)
     exact⟨W,L,hJ,w1,hx,c3.same e1 e2⟩
    have f8: ∀m tm d,I m tm d-> ∀a w,ud N w0 tm d a w->Code.roundsIn (FR r) n P c (QL N w0 Q) (m+1) a w:=by
     intro m
     induction m using jY with
     |_ m f5=>
      intro tm d hI a w u;rw[roundsIn_succ];refine wpIn_mono (ih tm d _ (b7 m tm d hI) a w u) λe a' w' z=> ?_
      cases e with
      |normal=>obtain⟨A,d,G,h3⟩:=z;obtain⟨W,L,⟨n',s,f1⟩,h4⟩:=a6 G h3;exact n4 om (f5 n' s W L f1 a' w' h4)
      |exit id=>exact z
      |ret=>exact z
      |goto l=>exact z.elim
      |panic c=>exact z.elim
      |outgrown=>exact z.elim
    obtain⟨W,L,⟨m,h0⟩,b5⟩:=a6 d5 u
    exact wpIn_loop_rounds _ (f8 m W L h0 a w b5)
 | .region id ops draw,T,tm,hp,Q,h,a,w,u=>by
  unfold Fl at h;obtain⟨w1,hx,u⟩:=u
  cases draw with
  |true=>have T:(okR ops.toList ops.toList&&ops.toList.all nD)=true:=T;obtain⟨T,f7⟩:=Bool.and_eq_true_iff.1 T;have key:=KD hE hH (Q:=QL N w0 Q) (λ_ _ _ _ h=>h) (λA d a' w' s G=>⟨A,d,s,w1,hx,G⟩) ops.toList ops.toList T h u.drew;simp only[Array.toArray_toList,dg] at key;exact wpIn_region_any hm (od r PN f7 key)
  |false=>exact wpIn_region_list (tH r PN T (ru hE hH (λA d a' w' s G=>⟨A,d,s,w1,hx,G⟩) ops.toList tm hp h a w u))
 | .rangeFunc g ps asg body,T,tm,hp,Q,h,a,w,u=>by
  simp only[Mq,aG] at T
  obtain⟨i4,f6,T⟩:=T
  have f2:r=none:=by cases r<;>simp_all
  subst f2
  unfold Fl at h
  split at h
  ·rename_i f c0 hg
   ·obtain⟨ds,xs,⟨c5,h⟩,d9,c6,hit⟩:=hE.R f c0 _ _ h
    obtain⟨w1,hx,U,hh,ht,M,e6,f3,i1,hM⟩:=u
    have f0:a.eval g= .func (.func f) #[] (c0.map λp=>lF U p.1 p.2).toArray:=by rw[fP (ht U (gt.refl _ _)),gI,hg];rfl
    let wb:ip:=⟨w,λi=>w1.B i\/(an hp i).isSome=true,U,0⟩
    have d0: ∀i,w1.B i\/(an hp i).isSome=true->(an hp i).isSome=true:=λi F=>F.elim (λF=>(hh.ext i F).1) id
    have f9:dv N wb (an hp) U w:=⟨hh.old,hh.own,hh.apart,hh.holds,sR.refl _ _,hh.big,λi F=>⟨d0 i F,rfl⟩,hh.maps,hh.mapA,hh.fam⟩
    have a7: ∀{hf Z X},dv N wb hf Z X->dv N w1 hf Z X:=λh=>h.rebase hh.bel λi F=>⟨.inl F,(hh.ext i F).2⟩
    have agr: ∀{d q X},dv N wb (an d) q X-> ∀Z,gt (an d) Z q->gt (an hp) Z U:=λh Z a9 i F=>(a9 i (h.ext i (.inr F)).1).trans (h.ext i (.inr F)).2
    let I:Nat->World->Prop:=λk X=> ∃d q,dv N wb (an d) q X/\kY ds hp d/\wk (ln hp) ps.toList ds (λtm hp Q=>Fl (E.at (ln hp)) H asg tm hp λe tm hp=>(match e with| .normal=>Fl (E.at (ln hp)) H body tm hp Q|_=>False)) tm Q (xs.drop k) d
    let Ix:Code->World->Prop:=λc X=>(c= .ret/\ ∃d q,dv N wb (an d) q X/\Q .ret tm d)\/ ∃id,c= .exit id/\ ∃d q,dv N wb (an d) q X/\Q (.exit id) tm d
    have a0: ∀{d q X Y b8},dv N wb (an d) q X->X.grownBy Y b8->(∀r,b8=some r->w.heap.size<=r/\ ∃o:Obj,X.heap[r]? =some o/\Aw o=false)->dv N wb (an d) q Y:=λh hg u=>
     h.grownBy hg λr e=>⟨(u r e).1,aC hh.big (u r e).1,(u r e).2⟩
    have i0:w1.w.heap.size<=w.heap.size:=hh.bel.below.size
    have fin: ∀{d q X},dv N wb (an d) q X->X.heap[w.heap.size]? =some (.deferred (some []))->ud N w0 tm d {a with defers:=Ch w.heap.size::a.defers} X:=λ{d q X} h hD=>by
     refine⟨⟨X,w1.B,w1.ρ,w1.lo⟩,⟨hx.bel.trans (a7 h).bel,hx.B,hx.ρ,hx.lo⟩,q,⟨h.old,h.own,h.apart,h.holds,sR.refl _ _,h.big,(a7 h).ext,h.maps,h.mapA,h.fam⟩,λZ a9=>ht Z (agr h Z a9),w.heap.size::M,by rw[e6];rfl,?_,?_,?_⟩
     ·refine xO.2 ⟨λb3=> ?_,f3⟩
      have:=(aE.1 (hM _ b3).2.2).1
      omega
     ·have:=h.bel.below.size
      show w1.lo<=X.heap.size
      have e:wb.w.heap.size=w.heap.size:=rfl
      omega
     ·intro D b3
      rcases br.1 b3 with rfl|b3
      ·exact⟨hh.big,by show w1.lo<=_;omega,hD⟩
      ·obtain⟨g1,g2,g3⟩:=hM D b3
       exact⟨g1,g2,(a7 h).bel.oth.same D _ g3 rfl⟩
    refine Fh f0 d9 (hit U) (I:=I) (Ix:=Ix) (λk X Y b8 h hg u=> ?_) (λc X Y b8 h hg u=> ?_) (λk X h=> ?_) ⟨hp,U,f9,c5,by rw[List.drop_zero];exact h⟩ (λl k X h g7=> ?_) (λX h hD=> ?_) (λc X h hD=> ?_)
    ·obtain⟨d,q,s,G⟩:=h
     exact⟨d,q,a0 s hg u,G⟩
    ·rcases h with⟨e,d,q,s,G⟩|⟨id,e,d,q,s,G⟩
     ·exact .inl ⟨e,d,q,a0 s hg u,G⟩
     ·exact .inr ⟨id,e,d,q,a0 s hg u,G⟩
    ·obtain⟨d,q,s,G,-⟩:=h
     refine⟨q,λi F=>(s.ext i (.inr F)).2,λb hb blk d7=> ?_⟩
     obtain⟨b9,e1,e2,e3,e4⟩:=zl G b hb blk d7
     refine⟨e3 _ _ (s.holds q (gt.refl _ _) b _ e1),λhv=>s.old b b9 e1 (by rw[e2];exact hv),λo l hl e he=> ?_⟩
     obtain⟨m,e5⟩:=e4 o l hl
     have f:=(s.fam b b9 o _ e e1 e5 (gc _ he)).1
     exact⟨f.pure,f.row,λh=>(by cases h),f.holds,λ_=>f.lt⟩
    ·obtain⟨d,q,s,G,h3⟩:=h
     obtain⟨x,a8,hdr⟩: ∃x a8,xs.drop k=x::a8:=⟨_,_,List.drop_eq_getElem_cons g7⟩
     have c2:xs.drop (k+1)=a8:=by rw[<-List.drop_drop,hdr];rfl
     have e8:ij [] xs k=x:=by (have:xs[k]? =some x:=by have:=congrArg (λl=>l[0]?) hdr;simpa using this);rw[iE,this];rfl
     have g9:x∈xs:=by (have:x∈xs.drop k:=by rw[hdr];exact aP);exact sX this
     rw[hdr] at h3
     unfold wk at h3
     obtain⟨d8,c8,h3,d6⟩:=Hw h3
     rw[e8]
     refine⟨by simp[<-d8],?_⟩
     let wr:ip:=⟨X,λi=>wb.B i\/(an d i).isSome=true,q,0⟩
     have g6:dv N wr (an d) q X:=⟨s.old,s.own,s.apart,s.holds,sR.refl _ _,s.big,λi F=>⟨F.elim (λF=>(s.ext i F).1) id,rfl⟩,s.maps,s.mapA,s.fam⟩
     have e0:ud N wr c8 d {tmps:=(ps.zip (x.map (SV.den U)).toArray).foldl (λt (p,v)=>t.setIfInBounds p v) a.tmps,defers:=[]} X:=by refine⟨wr,Ext.refl _ _,q,g6,λZ a9=> ?_,KO.nil _ _ (ah _)⟩;have h6:=d6 Z a.tmps (ht Z (agr s Z a9));have h7:x.map (SV.den U)=x.map (SV.den Z):=iK λy hy=>c6 x g9 y hy U Z;rw[h7];rw[<-Array.foldl_toList,Array.toList_zip];exact h6
     have e7: ∀{hf Z Y w2},Ext N wr w2->dv N w2 hf Z Y->dv N wb hf Z Y:=λa4 h=>h.rebase (s.bel.trans a4.bel) λi F=>by rw[a4.B,a4.ρ];exact⟨.inl F,(s.ext i F).2⟩
     refine wpIn_mono (p3 (r:=some l) (n:=0) (w0:=wr) (hE.at _) (λi F=>x8 (F.elim (λF=>(s.ext i F).1) id)) asg f6 c8 d _ h3 _ X e0) λe a1 X1 z=> ?_
     cases e with
     |ret=>obtain⟨_,_,h,_⟩:=z;exact h.elim
     |exit id=>obtain⟨_,_,h,_⟩:=z;exact h.elim
     |goto l=>exact z.elim
     |panic c=>exact z.elim
     |outgrown=>exact z.elim
     |normal=>
     obtain⟨W,L,h9,w2,a4,b6,b2,f4,M2,g1,g2,g3,g4⟩:=z
     refine⟨(a4.bel.trans b2.bel).oth,λrr o o' c3 b5=> ?_⟩
     have c4:X1.grownBy (X1.putObj rr (.loop o')) (some rr):=grownBy_putObj' _ _ _
     have c1:dv N wb (an L) b6 (X1.putObj rr (.loop o')):=a0 (e7 a4 b2) c4 λr e=>by cases e;exact⟨c3,_,b5,rfl⟩
     let w3:ip:=⟨X1.putObj rr (.loop o'),λi=>(an L i).isSome=true,b6,w2.lo⟩
     have g8:dv N w3 (an L) b6 (X1.putObj rr (.loop o')):=b2.anew c4 (λr e=>by cases e;exact⟨_,b5,rfl⟩) w2.lo
     have c9:ud N w3 W L a1 (X1.putObj rr (.loop o')):=by
      refine⟨w3,Ext.refl _ _,b6,g8,f4,M2,g1,g2,?_,λD hD=> ?_⟩
      ·have q1:=b2.bel.below.size
       have q2:=c4.size
       show w2.lo<=(X1.putObj rr (.loop o')).heap.size
       omega
      ·obtain⟨d1,d2,d3⟩:=g4 D hD
       refine⟨d1,d2,?_⟩
       have d4:=b2.bel.oth.same D _ d3 rfl
       exact(World.putObj_heap_other (λe=>by rw[e,b5] at d4;cases d4)).trans d4
     have g5: ∀{hf Z Y w4},Ext N w3 w4->dv N w4 hf Z Y->dv N wb hf Z Y:=λa5 h=>h.rebase (c1.bel.trans a5.bel) λi F=>by rw[a5.B,a5.ρ];exact c1.ext i F
     refine wpIn_mono (p3 (r:=some l) (n:=0) (w0:=w3) (hE.at _) (λi F=>x8 F) body T W L _ h9 _ _ c9) λe a' Y z=> ?_
     have c7: ∀{A V},ud N w3 A V a' Y->jT (X1.putObj rr (.loop o')) Y/\ ∃O,dv N wb (an V) O Y:=λh=>by obtain⟨w4,a5,O,h4,-⟩:=h;exact⟨(a5.bel.trans h4.bel).oth,O,g5 a5 h4⟩
     cases e with
     |normal=>obtain⟨A,V,h5,h6⟩:=z;obtain⟨h7,O,h8⟩:=c7 h6;obtain⟨g0,e9,h8,h4,h5⟩:=Nx (λi F=>x8 (d0 i F)) (ah _) h8 h5;exact⟨h7,g0,e9,h8,qO G h4,by rw[c2];exact h5⟩
     |ret=>obtain⟨A,V,h5,h6⟩:=z;obtain⟨h7,O,h8⟩:=c7 h6;exact⟨h7,.inl ⟨rfl,V,O,h8,h5⟩⟩
     |exit id=>obtain⟨A,V,h5,h6⟩:=z;obtain⟨h7,O,h8⟩:=c7 h6;exact⟨h7,.inr ⟨id,rfl,V,O,h8,h5⟩⟩
     |goto l=>exact z.elim
     |panic c=>exact z.elim
     |outgrown=>exact z.elim
    ·obtain⟨d,q,s,G,h3⟩:=h
     rw[a8S] at h3
     exact⟨tm,d,h3,fin s hD⟩
    ·rcases h with⟨rfl,d,q,s,G⟩|⟨id,rfl,d,q,s,G⟩
     ·exact wpIn_ret ⟨tm,d,G,fin s hD⟩
     ·exact wpIn_exit ⟨tm,d,G,fin s hD⟩
  ·exact h.elim
 | .scope _,_,tm,hp,Q,h,a,w,u=>h.elim
 | .label _,_,tm,hp,Q,h,a,w,u=>h.elim
 | .goto _,_,tm,hp,Q,h,a,w,u=>h.elim
 | .refuse _,_,tm,hp,Q,h,a,w,u=>h.elim
end
end
section
def Oo (tmps:Array Value):ResultVar->Sem Value
 | .tmp t=>pure (tmps.getD t undef)
 | .cell a t=>do loadVar t (<-asAddr (tmps.getD a undef))
def GI {a:Act} {d:List SV} {ρ:fF} (h:a.tmps.toList=d.map (SV.den ρ)) (t:Nat):a.tmps.getD t undef=(ij uv d t).den ρ:=by rw[Mj,<-h];simp
def a3f (v:T1) ρ:v.sv.den ρ=v.den ρ:=by cases v<;>rfl
section
variable {P:Program} {T:TypeId->Option TI} (hT:Fw P T)
include hT
def Yc {r:ResultVar} {p:List SV} {hp:List aY} {v:T1} (h:a2P T r p hp=some v) {a:Act} {ρ:fF} {w:World} (k:a.tmps.toList=p.map (SV.den ρ)) (s: ∀i b,an hp i=some b->fq ρ b i w): (Oo a.tmps r).run P w= .ok (v.den ρ) w:=by
 unfold a2P at h;split at h;rename_i t;simp only[Oo,GI k,bc];split at h;rename_i x f;cases h;rw[f];rfl;rename_i l f;cases h;rw[f];rfl;cases h;rename_i x t;split at h;rename_i b d o f j;split at h;rename_i blk z;have m: ∀u,jP o.agg blk.cs d o.size=some u->(Oo a.tmps (.cell x t)).run P w= .ok (u.den ρ) w:=λu q=>by have:=xv hT j (s b blk z) q;simp only[Instr.loadAt,lF,Instr.sureAddr,aX,bc,aB] at this;have e:(SV.c (C.ptr b d)).den ρ=lF ρ b d:=rfl;simp only[Oo,GI k,f,e,lF,asAddr,aX,bc,aB];exact this
 split at h;rename_i y g;cases h;exact m _ g;rename_i l g;cases h;exact m _ g;cases h;cases h;cases h
def MD {e:List SV} {hp:List aY}: ∀{rs:List ResultVar} {K:List T1->Prop},Yb T rs e hp K-> ∃l,K l/\ ∀{a:Act} {ρ:fF} {w:World},a.tmps.toList=e.map (SV.den ρ)->(∀i b,an hp i=some b->fq ρ b i w)->
  (rs.mapM (Oo a.tmps)).run P w= .ok (l.map (T1.den ρ)) w
 |[],K,h=>⟨[],h,ff⟩
 |r::rs,K,h=>by unfold Yb at h;split at h;rename_i v k;rw[T1.force_eq] at h;obtain⟨l,g,j⟩:=MD h;refine⟨v::l,g,λd f=> ?_⟩;simp[List.mapM_cons,Yc hT k d f,j d f];cases h
def Yd {fn:Func} {k:List SV} {hp:List aY} {K:SV->List aY->Prop} (h:TU T fn.results.toList k hp K): ∃v,K v hp/\ ∀{a:Act} {ρ:fF} {w:World},a.tmps.toList=k.map (SV.den ρ)->(∀i b,an hp i=some b->fq ρ b i w)-> (results fn a.tmps).run P w= .ok (v.den ρ) w:=by
 unfold TU at h;obtain⟨l,j,p⟩:=MD hT h
 have d: ∀{a:Act} {ρ:fF} {w:World},a.tmps.toList=k.map (SV.den ρ)->(∀i b,an hp i=some b->fq ρ b i w)->
   (results fn a.tmps).run P w= .ok (if h:(l.map (T1.den ρ)).toArray.size=1 then(l.map (T1.den ρ)).toArray[0] else .tuple (l.map (T1.den ρ)).toArray) w:=λ{a ρ w} f g=>by
  have:=p f g
  have e:results fn a.tmps=(do let vs<-fn.results.mapM (Oo a.tmps);pure (if h:vs.size=1 then vs[0] else .tuple vs)):=by unfold results;congr 1
  rw[e,Array.mapM_eq_mapM_toList]
  simp[this]
 split at j;rename_i v;exact⟨v.sv,j,λf g=>by rw[d f g];simp[a3f]⟩;rename_i m;refine⟨.tup l,j,λf g=> ?_⟩;rw[d f g,dif_neg];rfl;intro o;simp only[gC,bO] at o;obtain⟨x,rfl⟩:=List.length_eq_one_iff.1 o;exact m x rfl
end
structure iM (P:Program) (f:FuncId) (fn:Func):Prop where
 get:P.funcs[f]? =some fn
 body:(match fn.body with|some c=>okC c|none=>false)=true
 name:(fn.name== "runtime.NumGoroutine")=false
def iM.callable {P f fn} (h:iM P f fn):eK P f:=by refine⟨fn,h.get,?_,h.name⟩;have:=h.body;cases hb:fn.body<;>simp_all
section
variable {P:Program} {E:ic} (hE:iU P E) (hm:P.follows .mixedOrders=true)
include hE hm
def sG {H:FuncId->List SV->List aY->(SV->List aY->Prop)->Prop} (hH:ko P H) {f:FuncId} {fn:Func} (hf:iM P f fn) {args:List SV} {hp:List aY} {K:SV->List aY->Prop} (h:A5 E H fn args hp K) (N:Nat) (w0:ip) (ρ0:fF) (w:World) (k:dv N w0 (an hp) ρ0 w) (s: ∀ρ,gt (an hp) ρ ρ0->args.map (SV.den ρ)=args.map (SV.den ρ0)): Calls P f (args.map (SV.den ρ0)).toArray w λe w'=> ∃v hp' ρ0',K v hp'/\dv N w0 (an hp') ρ0' w'/\(∀i,(an hp i).isSome=true->(an hp' i).isSome=true/\ρ0' i=ρ0 i)/\ ∀ρ,gt (an hp') ρ ρ0'->e= .returned (v.den ρ):=by
 obtain⟨y,o,-⟩:=hf;unfold A5 at h
 cases hc:fn.body with
 |none=>rw[hc] at h;exact h.elim
 |some c=>
  rw[hc] at h o
  simp only[Mu,KY] at h
  let w1:ip:=⟨w,λi=>w0.B i\/(an hp i).isSome=true,ρ0,w.heap.size⟩
  have Q:dv N w1 (an hp) ρ0 w:=⟨k.old,k.own,k.apart,k.holds,sR.refl _ _,k.big,λi g=>(by
   rcases g with g|g
   exact⟨(k.ext i g).1,rfl⟩
   exact⟨g,rfl⟩),k.maps,k.mapA,k.fam⟩
  have hr:iN N w1 (args++au (fn.ntmps-ln args) uv) hp {tmps:=(args.map (SV.den ρ0)).toArray++eE (fn.ntmps-(args.map (SV.den ρ0)).toArray.size) undef,defers:=[]} w:=by refine⟨ρ0,Q,λρ j=> ?_,KO.nil _ _ (ai _)⟩;simp[<-s ρ j,a1D]
  have W:iU P {T:=E.T,un:=E.un,D:=E.D,O:=E.O,n0:=ln hp,ord:=E.ord,R:=E.R,X:=E.X}:=⟨hE.T,hE.D,hE.O,hE.R,hE.X⟩
  refine callsIn_wide.1 (callsIn_of_wp_marks (n:=0) y hc trivial (wpIn_mono (p3 (r:=none) hm hH W (λi g=> ?_) c o _ _ _ h _ w ⟨w1,Ext.refl _ _,hr⟩) λe J w' x=> ?_) rfl)
  have p:(an hp i).isSome=true:=by rcases g with g|g;exact(k.ext i g).1;exact g
  show i<ln hp
  rw[cD] at p
  obtain⟨b,hb⟩:=aK.1 p
  exact(aw.1 hb).1
  have fin: ∀d hp',TU E.T fn.results.toList d hp' K->ud N w1 d hp' J w'->LeavesInM Fence.wide 0 P fn J.tmps (λe w'=> ∃v hp' ρ0',K v hp'/\dv N w0 (an hp') ρ0' w'/\
    (∀i,(an hp i).isSome=true->(an hp' i).isSome=true/\ρ0' i=ρ0 i)/\ ∀ρ,gt (an hp') ρ ρ0'->e= .returned (v.den ρ)) J.defers .returning w':=by
   intro d hp' G L
   obtain⟨v,hK,F⟩:=Yd hE.T G
   obtain⟨w2,u,m,q,ht,M,V,U,a0,hM⟩:=L
   have z: ∀i,(an hp i).isSome=true->(an hp' i).isSome=true/\m i=ρ0 i:=λi g=>by have:=q.ext i (by rw[u.B];exact .inr g);rw[u.ρ] at this;exact this
   have Y:dv N w0 (an hp') m w':=q.rebase (k.bel.trans u.bel) λi g=>by rw[u.B,u.ρ];exact⟨.inl g,(k.ext i g).2⟩
   rw[V]
   refine GP M w' Y U (λD hD=> ?_) λW' A=> ?_
   obtain⟨g1,Z,g3⟩:=hM D hD
   rw[u.lo] at Z
   exact⟨g1,aC k.bel.below.size Z,q.bel.oth.same D _ g3 rfl⟩
   have key: ∀ρ,gt (an hp') ρ m->(results fn J.tmps).run P W'= .ok (v.den ρ) W':=λρ j=>F (ht ρ j) (A.holds ρ j)
   have h0:=key m (gt.refl _ _)
   refine⟨_,h0,v,hp',m,hK,A,z,λρ j=> ?_⟩
   have:=key ρ j
   rw[h0] at this
   simpa using this
  cases e with
  |normal=>obtain⟨d,hp',p,I⟩:=x;exact fin d hp' p I
  |ret=>obtain⟨d,hp',p,I⟩:=x;exact fin d hp' p I
  |exit id=>obtain⟨d,hp',p,I⟩:=x;exact p.elim
  |goto l=>exact x.elim
  |panic c=>exact x.elim
  |outgrown=>exact x.elim
def ck {F} (i: ∀f fn,F f=some fn->iM P f fn): ∀n,ko P (inl E F n)
 |0=>λf e o K h=>h.elim
 |n+1=>λf e o K h=>by unfold inl at h;split at h;rename_i fn g;exact⟨(i f fn g).callable,λN k j w m d=>sG hE hm (ck i n) (i f fn g) h N k j w m d⟩;exact h.elim
def EB {F:FuncId->Option Func} (m: ∀f fn,F f=some fn->iM P f fn) {n:Nat} {f:FuncId} {fn:Func} (p:iM P f fn) {args:List SV} {v:SV} (d: ∀ρ ρ',v.den ρ=v.den ρ') (g: ∀ρ ρ',args.map (SV.den ρ)=args.map (SV.den ρ')) (h:A5 E (inl E F n) fn args [] λu _=> ∀ρ,u.den ρ=v.den ρ) (ρ:fF) (w:World): Calls P f (args.map (SV.den ρ)).toArray w λe w'=>e= .returned (v.den ρ)/\Below w.heap.size w w':=by have k:dv w.heap.size ⟨w,λ_=>False,ρ,0⟩ (an []) ρ w:=⟨λi b h=>by simp[an] at h,λi b h=>by simp[an] at h,λi j b c h=>by simp[an] at h,λρ _ i b h=>by simp[an] at h,sR.refl _ _,ai _,λi h=>h.elim,λi b e h=>by simp[an] at h,λi j b c h=>by simp[an] at h,λi b o l e h=>by simp[an] at h⟩;refine(sG hE hm (ck hE hm m n) p h w.heap.size _ ρ w k (λρ' _=>g ρ' ρ)).mono ?_;rintro e w' ⟨u,hp',ρ1,hu,hh',-,he⟩;have:=he ρ1 (gt.refl _ _);exact⟨by rw[this,hu ρ1,d ρ1 ρ],hh'.bel.below⟩
def yd {F:FuncId->Option Func} (hF: ∀f fn,F f=some fn->iM P f fn) {n:Nat} {f:FuncId} {fn:Func} (hf:iM P f fn) {args:List SV} {hp:List aY} {v:SV} (hpure: ∀ρ ρ',v.den ρ=v.den ρ') (hb: ∀i b,an hp i=some b->b.ro=true/\cC b.cs) (ρ:fF) (hap: ∀ρ',gt (an hp) ρ' ρ->args.map (SV.den ρ')=args.map (SV.den ρ)) (h:A5 E (inl E F n) fn args hp λu _=> ∀ρ,u.den ρ=v.den ρ) (w:World) (hr: ∀i b,an hp i=some b->w.rangeAt (ρ i).1 (ρ i).2 (af ρ b.cs)) (hml:rV hp=true:=by rfl): Calls P f (args.map (SV.den ρ)).toArray w λe w'=>e= .returned (v.den ρ)/\Below w.heap.size w w':=by
 have hh:dv w.heap.size ⟨w,λ_=>False,ρ,0⟩ (an hp) ρ w:=by
  refine⟨λi b hi _=> ?_,λi b hi ho=> ?_,λi j b c hi ho=> ?_,λρ' hρ i b hi=> ?_,sR.refl _ _,ai _,λi h=>h.elim,λi b e hi he=>(by rw[qT hml hi] at he;cases he),λi j b c hi hj hm hk hne=>(by rw[qT hml hi] at hm;cases hm),λi b o l e hi hm he=>(by rw[wX hml hi] at hm;cases hm)⟩;rename_i hv
  have h0:0<bu b.cs:=by
   cases hc:b.cs with
   |nil=>unfold aY.void at hv;rw[hc,(hb i b hi).1] at hv;cases hv
   |cons x l=>cases x<;>simp[bu,C.n]<;>omega
  rw[cU ρ] at h0;exact block_lt_of_cell (hr i b hi 0 _ (ae h0));rw[(hb i b hi).1] at ho;cases ho;rw[(hb i b hi).1] at ho;cases ho;obtain⟨h1,h3⟩:=hb i b hi;refine⟨?_,λho=>by rw[h1] at ho;cases ho⟩;have h3:af ρ' b.cs=af ρ b.cs:=h3 ρ' ρ;rw[hρ i (by rw[hi];rfl),h3];exact hr i b hi
 refine(sG hE hm (ck hE hm hF n) hf h w.heap.size _ ρ w hh hap).mono ?_;rintro e w' ⟨u,hp',ρ1,hu,hh',-,he⟩;have:=he ρ1 (gt.refl _ _);exact⟨by rw[this,hu ρ1,hpure ρ1 ρ],hh'.bel.below⟩
end
end
section
variable {P:Program} {f:FuncId} {bs:List Nat} {hp:List aY} {H:FuncId->List SV->List aY->(SV->List aY->Prop)->Prop}
abbrev cP:=List SV->List aY->(SV->List aY->Prop)->Prop
def jB:List aY->Prop
 |[]=>True
 |b::l=>cC b.cs/\jB l
def KR (b:aY):Prop:=match b.ty with
 | .x _=>b.tl=2/\cC b.cs
 |_=>cC b.cs
def KR.pure {b} (h:KR b):cC b.cs:=by unfold KR at h;split at h;exact h.2;exact h
def KR.fam {b} (h:KR b) {o l} (hb:b.famOf=some (o,l)):o=true:=by obtain⟨i,j,k,m⟩:=b;unfold aY.famOf GC at hb;split at hb;cases hb;rfl;rename_i e g d;cases hb;simp only at e d;subst e d;cases h.1;cases hb
def CW (b:aY):Prop:=KR b/\(b.ro=false\/b.void=true)
def pI:List aY->Prop
 |[]=>True
 |b::l=>CW b/\pI l
def xu:List aY->Prop
 |[]=>True
 |b::l=>(b.ro=true/\b.tl=0)/\xu l
def jr: ∀{l:List aY} (_:jB l) {i:Nat} {b:aY},an l i=some b->cC b.cs
 |[],_,i,b,h=>by simp[an] at h
 |x::l,hp,0,b,h=>by simp[an] at h;subst h;exact hp.1
 |x::l,hp,i+1,b,h=>jr hp.2 (by simpa[an] using h)
def pJ: ∀{l:List aY} (_:pI l) {i:Nat} {b:aY},an l i=some b->CW b
 |[],_,i,b,h=>by simp[an] at h
 |x::l,hp,0,b,h=>by simp[an] at h;subst h;exact hp.1
 |x::l,hp,i+1,b,h=>pJ hp.2 (by simpa[an] using h)
def kd: ∀{l:List aY} (_:xu l) {i:Nat} {b:aY},an l i=some b->b.ro=true/\b.tl=0
 |[],_,i,b,h=>by simp[an] at h
 |x::l,hp,0,b,h=>by simp[an] at h;subst h;exact hp.1
 |x::l,hp,i+1,b,h=>kd hp.2 (by simpa[an] using h)
def r7 {l} (h:xu l) {i:Nat} {b:aY} (hi:an l i=some b):b.ro=true:=(kd h hi).1
def jv (P:Program) (f:FuncId) (c:cP):Prop:=eK P f/\ ∀h d K,c h d K->xu d->jB d-> ∀j w,(∀i b,an d i=some b->w.rangeAt (j i).1 (j i).2 (af j b.cs))->
 Calls P f (h.map (SV.den j)).toArray w λe o=> ∃v g m,K v g/\pI g/\dv w.heap.size ⟨w,λ_=>False,j,0⟩ (an (d++g)) m o/\(∀i,i<ln d->m i=j i)/\ ∀k,gt (an (d++g)) k m->e= .returned (v.den k)
def yp (hp:List aY):Nat->List SV->(List SV->List aY->List Nat->Prop)->Prop
 |_,[],K=>K [] [] []
 |k,.c (.sli nl b off len cap h)::l,K=>(match an hp b with
  |some ⟨e,_,cs,_⟩=>yp hp (k+1) l λl d bs=>K (.c (.sli nl k off len cap h)::l) (⟨e,true,cs,0⟩::d) (b::bs)
  |none=>False)
 |k,.c (.ptr b off)::l,K=>(match an hp b with
  |some ⟨e,_,cs,_⟩=>yp hp (k+1) l λl d bs=>K (.c (.ptr k off)::l) (⟨e,true,cs,0⟩::d) (b::bs)
  |none=>False)
 |k,.c (.val v)::l,K=>yp hp k l λl d bs=>K (.c (.val v)::l) d bs
 |k,.c (.int n h)::l,K=>yp hp k l λl d bs=>K (.c (.int n h)::l) d bs
 |k,.agg x::l,K=>cC x/\yp hp k l λl d bs=>K (.agg x::l) d bs
 |_,_,_=>False
def If (bs:List Nat) (n i:Nat):Nat:=match an bs i with|some b=>b|none=>n+(i-ln bs)
def C.mv (bs:List Nat) (n:Nat):C->C
 | .ptr b off=> .ptr (If bs n b) off
 | .sli nl b off len cap h=> .sli nl (If bs n b) off len cap h
 | .fn f bd caps=> .fn f bd (caps.map λp=>(If bs n p.1,p.2))
 | .mp b=> .mp (If bs n b)
 |x=>x
def T1.mv (bs:List Nat) (n:Nat):T1->T1
 | .c x=> .c (x.mv bs n)
 | .agg l=> .agg (l.map (C.mv bs n))
def SV.mv (bs:List Nat) (n:Nat):SV->SV
 | .c x=> .c (x.mv bs n)
 | .agg l=> .agg (l.map (C.mv bs n))
 | .tup l=> .tup (l.map (T1.mv bs n))
def Is:List aY->List aY->(List aY->Prop)->Prop
 |[],l,K=>K l
 |x::m,l,K=>Is m l λl=>K (x::l)
def uj: ∀l m K,Is l m K=K (l++m)
 |[],_,_=>rfl
 |_::l,m,K=>by simp only[Is,uj l m,cK]
def ZL:List (FuncId×cP)->FuncId->Option cP
 |[],_=>none
 |(g,c)::l,f=>if f=g then some c else ZL l f
def hnew (l:List (FuncId×cP)) (H:FuncId->List SV->List aY->(SV->List aY->Prop)->Prop) (f:FuncId) (args:List SV) (hp:List aY) (K:SV->List aY->Prop):Prop:=
 match ZL l f with
 |some c=>yp hp 0 args λd g bs=>jB g/\c d g λv e=>pE hp λn=>Is hp e λh=>K (v.mv bs n) h
 |none=>H f args hp K
def iL (P:Program) (l:List (FuncId×cP)):Prop:= ∀x∈l,jv P x.1 x.2
def iL.nil :iL P []:=λx d=>by simp at d
def iL.cons {c l} (h:jv P f c) (hl:iL P l):iL P ((f,c)::l):=λx d=>by rcases br.1 d with rfl|d;exact h;exact hl x d
def uX: ∀{l f c},ZL l f=some c->(f,c)∈l
 |[],_,_,h=>by simp[ZL] at h
 |(g,d)::l,f,c,h=>by unfold ZL at h;split at h;rename_i e;cases h;subst e;exact aP;exact aD _ (uX h)
def zC {n} ρ (x:C):(x.mv bs n).cells ρ=x.cells (λi=>ρ (If bs n i)):=by cases x<;>simp[C.mv,C.cells,lF,Function.comp_def]
def we {bs n} ρ: ∀l:List C,af ρ (l.map (C.mv bs n))=af (λi=>ρ (If bs n i)) l
 |[]=>rfl
 |x::l=>by rw[aI,cO,cO,zC,we ρ l]
def a42 {n} ρ (x:T1):(x.mv bs n).den ρ=x.den (λi=>ρ (If bs n i)):=by
 cases x with
 |c x=>simp only[T1.mv,T1.den,C.den,zC]
 |agg l=>simp only[T1.mv,T1.den,we]
def Ek {n} ρ (x:SV):(x.mv bs n).den ρ=x.den (λi=>ρ (If bs n i)):=by
 cases x with
 |c x=>simp only[SV.mv,SV.den,C.den,zC]
 |agg l=>simp only[SV.mv,SV.den,we]
 |tup l=>simp only[SV.mv,SV.den,t9];congr 2;apply iK;intro a _;exact a42 ρ a
def Ih (hp:List aY) (k:Nat) (l:List SV) (K:List SV->List aY->List Nat->Prop):Prop:= ∃h e bs,K h e bs/\ln e=ln bs/\xu e/\
 (∀i b,bs[i]? =some b-> ∃c d,an hp b=some c/\an e i=some d/\d.cs=c.cs)/\ ∀j g:fF,(∀i b,bs[i]? =some b->g (k+i)=j b)->l.map (SV.den j)=h.map (SV.den g)
def rE {hp}: ∀{l k K},yp hp k l K->Ih hp k l K
 |[],k,K,h=>⟨[],[],[],h,rfl,trivial,λi b h=>by simp at h,λ_ _ _=>rfl⟩
 |x::l,k,K,h=>by
  have one: ∀y z r b c,an hp b=some c->c.cs=r->(∀o d:fF,d k=o b->x.den o=y.den d)->yp hp (k+1) l (λl m bs=>K (y::l) (⟨z,true,r,0⟩::m) (b::bs))->Ih hp k (x::l) K:=λy z r b c A L G h=>by
   obtain⟨E,m,bs,F,p,s,u,q⟩:=rE h;refine⟨y::E,⟨z,true,r,0⟩::m,b::bs,F,by simp[p],⟨⟨rfl,rfl⟩,s⟩,λi D B=> ?_,λo d h=> ?_⟩
   cases i with
   |zero=>simp at B;subst B;exact⟨c,_,A,rfl,L.symm⟩
   |succ i=>exact u i D (by simpa using B)
   rw[aI,aI,q o d (λi D B=>by have:=h (i+1) D (by simpa using B);rw[show k+1+i=k+(i+1) by omega];exact this),G o d (by have:=h 0 b rfl;simpa using this)]
  (have j: ∀y,(∀o d:fF,x.den o=y.den d)->yp hp k l (λl m bs=>K (y::l) m bs)->Ih hp k (x::l) K:=λy G h=>by obtain⟨E,m,bs,F,p,s,u,q⟩:=rE h;exact⟨y::E,m,bs,F,p,s,u,λo d h=>by rw[aI,aI,q o d h,G o d]⟩);unfold yp at h;split at h;rename_i g;cases g;rename_i g;cases g;split at h;rename_i z I r J A;exact one _ z r _ _ A rfl (λo d e=>by simp only[SV.den,C.den,C.cells,e]) h;exact h.elim;rename_i g;cases g;split at h;rename_i z I r J A;exact one _ z r _ _ A rfl (λo d e=>by simp only[SV.den,C.den,C.cells,lF,e]) h;exact h.elim;rename_i g;cases g;exact j _ ff h;rename_i g;cases g;exact j _ ff h;rename_i g;cases g;exact j _ (λo d=>by simp only[SV.den];rw[show af o _=af d _ from h.1 o d]) h.2;exact h.elim
def cQ (l m:List aY) (i:Nat):an (l++m) i=if i<(ln l) then an l i else an m (i-ln l):=by rw[cD,cD,cD];split;rename_i h;rw[dN h];rename_i h;rw[fe om]
def dv.join {N:Nat} {w0:ip} {ρ0:fF} {w w':World} (h:dv N w0 (an hp) ρ0 w) {m news:List aY} {ρ G:fF} (A:dv w.heap.size ⟨w,λ_=>False,ρ,0⟩ (an (m++news)) G w') (V:pI news): dv N w0 (an (hp++news)) (λi=>if i<(ln hp) then ρ0 i else G (i-ln hp+ln m)) w':=by
 have J:=A.bel.below;have q:=h.below J;have hnew: ∀{i:Nat} {b:aY},¬i<ln hp->an (hp++news) i=some b->an (m++news) (i-ln hp+ln m)=some b/\an news (i-ln hp)=some b:=λ{i b} g J=>by rw[cQ,if_neg g] at J;refine⟨?_,J⟩;rw[cQ,if_neg om,Nat.add_sub_cancel];exact J
 have d: ∀{i:Nat} {b:aY},i<ln hp->an (hp++news) i=some b->an hp i=some b:=λ{i b} g J=>by rw[cQ,if_pos g] at J;exact J
 have Q: ∀{i:Nat} {b:aY},an news i=some b->b.void=false->b.ro=false:=λg F=>by rcases(pJ V g).2 with h|h;exact h;rw[h] at F;cases F
 refine⟨λi b g F=> ?_,λi b g u=> ?_,λi j b c g u r F O=> ?_,λz L i b g=> ?_,q.bel,q.big,λi g=> ?_,λi b e g E=> ?_,λi j b c g r y D O=> ?_,λi b o l e g y E=> ?_⟩;show(if i<(ln hp) then ρ0 i else _).1<_;split;rename_i p;exact q.old i b (d p g) F;rename_i p;exact A.old _ b (hnew p g).1 F;show N<=(if i<(ln hp) then ρ0 i else _).1;split;rename_i p;exact q.own i b (d p g) u;rename_i p;exact aC h.big (A.own _ b (hnew p g).1 u);show(if j<(ln hp) then ρ0 j else _).1≠(if i<(ln hp) then ρ0 i else _).1;by_cases hil:i<(ln hp)<;>by_cases hjl:j<ln hp;rw[if_pos hil,if_pos hjl];exact h.apart i j b c (d hil g) u (d hjl r) F O;rw[if_pos hil,if_neg hjl];have s:=h.old i b (d hil g) (fH u);have B:=A.own _ c (hnew hjl r).1 (Q (hnew hjl r).2 F);omega;rw[if_neg hil,if_pos hjl];have s:=h.old j c (d hjl r) F;have B:=A.own _ b (hnew hil g).1 u;omega;rw[if_neg hil,if_neg hjl];exact A.apart _ _ b c (hnew hil g).1 u (hnew hjl r).1 F om;by_cases hil:i<ln hp;refine q.holds z (λk D=> ?_) i b (d hil g);have hkl:k<ln hp:=by obtain⟨x,M⟩:=aK.1 D;rw[cD] at M;exact(aw.1 M).1
 have:=L k (by rw[cQ,if_pos hkl];exact D);rw[this];exact if_pos hkl;have s:=(hnew hil g).1
 have B:=A.holds (λk=>if k<(ln m) then G k else z (k-ln m+ln hp)) (λk D=>by
  show(if k<(ln m) then G k else z (k-ln m+ln hp))=G k
  split
  rfl
  rename_i T
  have M:(an (hp++news) (k-ln m+ln hp)).isSome=true:=by rw[cQ,if_neg om,Nat.add_sub_cancel];rw[cQ,if_neg T] at D;exact D
  rw[L _ M]
  show(if k-ln m+ln hp<(ln hp) then _ else G (k-ln m+ln hp-ln hp+ln m))=G k
  rw[if_neg om]
  congr 1;omega) _ b s
 have W:cC b.cs:=(pJ V (hnew hil g).2).1.pure;have R: ∀ρ U:fF,af ρ b.cs=af U b.cs:=W;unfold fq at B⊢;have e:(if i-ln hp+ln m<(ln m) then G (i-ln hp+ln m) else z (i-ln hp+ln m-ln m+ln hp))=z i:=by rw[if_neg om];congr 1;omega
 simp only[e] at B;rw[R _ z] at B;exact B;have:=h.ext i g;have Y:i<ln hp:=by obtain⟨x,M⟩:=aK.1 this.1;rw[cD] at M;exact(aw.1 M).1
 refine⟨by rw[cQ,if_pos Y];exact this.1,?_⟩;show(if i<(ln hp) then ρ0 i else _)=_;rw[if_pos Y];exact this.2;show N<=(if i<(ln hp) then ρ0 i else _).1/\w'.heap[(if i<(ln hp) then ρ0 i else _).1]? =_;split;rename_i p;exact q.maps i b e (d p g) E;rename_i p;have:=A.maps _ b e (hnew p g).1 E;exact⟨aC h.big this.1,this.2⟩;have low: ∀{i:Nat} {b:aY},i<ln hp->an (hp++news) i=some b->b.mapOf.isSome=true->(ρ0 i).1<w.heap.size:=λp g y=>by obtain⟨e,E⟩:=aK.1 y;exact(aE.1 (h.maps _ _ e (d p g) E).2).1
 have high: ∀{i:Nat} {b:aY},¬i<ln hp->an (hp++news) i=some b->b.mapOf.isSome=true->w.heap.size<=(G (i-ln hp+ln m)).1:=λp g y=>by obtain⟨e,E⟩:=aK.1 y;exact(A.maps _ _ e (hnew p g).1 E).1
 show(if j<(ln hp) then ρ0 j else _).1≠(if i<(ln hp) then ρ0 i else _).1;by_cases hil:i<(ln hp)<;>by_cases hjl:j<ln hp;rw[if_pos hil,if_pos hjl];exact h.mapA i j b c (d hil g) (d hjl r) y D O;rw[if_pos hil,if_neg hjl];have s:=low hil g y;have B:=high hjl r D;omega;rw[if_neg hil,if_pos hjl];have s:=low hjl r D;have B:=high hil g y;omega;rw[if_neg hil,if_neg hjl];exact A.mapA _ _ b c (hnew hil g).1 (hnew hjl r).1 y D om;by_cases hil:i<ln hp;have Z:=h.fam i b o l e (d hil g) y E;have s:=q.fam i b o l e (d hil g) y E;refine⟨s.1,λj c r I=> ?_⟩;show(if j<(ln hp) then ρ0 j else _).1≠_;by_cases hjl:j<ln hp;rw[if_pos hjl];exact s.2 j c (d hjl r) I;rw[if_neg hjl];have B:=A.own _ c (hnew hjl r).1 I;have h3:=Z.1.lt;omega;have s:=A.fam _ b o l e (hnew hil g).1 y E;have I:=(pJ V (hnew hil g).2).1.fam y;have B:=(s.1.own I).1;refine⟨⟨s.1.pure,s.1.row,λ_=>⟨aC h.big B,(s.1.own I).2⟩,s.1.holds,λX=>(by rw[I] at X;cases X)⟩,λj c r I=> ?_⟩;show(if j<(ln hp) then ρ0 j else _).1≠_;by_cases hjl:j<ln hp;rw[if_pos hjl];have h3:=h.old j c (d hjl r) (fH I);omega;rw[if_neg hjl];exact s.2 _ c (hnew hjl r).1 I
def dX {l:List (FuncId×cP)} (hl:iL P l) (Z:ko P H):ko P (hnew l H):=by
 intro f o hp K h;unfold hnew at h;split at h;rename_i c Q;have G:=hl _ (uX Q);refine⟨G.1,λN w0 g w W _=> ?_⟩;obtain⟨T,j,bs,y,U,J,z,E⟩:=rE h;obtain⟨m,y⟩:=y;let ρ:fF:=λi=>g (bs[i]?.getD 0);have q: ∀(i b:Nat),bs[i]? =some b->ρ i=g b:=λi b u=>by show g (bs[i]?.getD 0)=g b;rw[u];rfl
 have r:o.map (SV.den g)=T.map (SV.den ρ):=E g ρ (λi b u=>by rw[aN];exact q i b u);rw[r];refine(G.2 T j _ y J m ρ w (λi d I=> ?_)).mono ?_;have u:i<ln j:=by rw[cD] at I;exact(aw.1 I).1
 obtain⟨b,hb⟩: ∃b,bs[i]? =some b:=⟨_,ae om⟩;obtain⟨V,X,F,R,Y⟩:=z i b hb;rw[I] at R;cases R;have:=(W.holds g (gt.refl _ _) b V F).1;have L:af ρ d.cs=af g d.cs:=(jr m I) ρ g;rw[q i b hb,L,Y];exact this;rintro e w' ⟨v,news,σ,y,hn,Q,hσ,he⟩;rw[gq,uj] at y;refine⟨_,_,_,y,W.join Q hn,λi u=> ?_,λA p=> ?_⟩;have B:i<ln hp:=by obtain⟨x,s⟩:=aK.1 u;rw[cD] at s;exact(aw.1 s).1
 exact⟨by rw[cQ,if_pos B];exact u,if_pos B⟩;rw[Ek];refine he _ (λk M=> ?_);have hkl:k<(j++news).length:=by obtain⟨x,s⟩:=aK.1 M;rw[cD] at s;exact(aw.1 s).1
 show A (If bs (ln hp) k)=σ k;unfold If;by_cases hkr:k<ln j;have O:k<ln bs:=om;obtain⟨b,hb⟩: ∃b,bs[k]? =some b:=⟨_,ae O⟩;rw[cD,hb];obtain⟨V,X,F,-⟩:=z k b hb;have D:b<ln hp:=by rw[cD] at F;exact(aw.1 F).1
 rw[hσ k hkr,q k b hb];have:=p b (by rw[cQ,if_pos D,F];rfl);rw[this];exact if_pos D;rw[cD,bi om];have s:(an (hp++news) (ln hp+(k-ln bs))).isSome=true:=by rw[cQ,if_neg om];rw[cQ,if_neg hkr] at M;rw[show (ln hp)+(k-ln bs)-ln hp=k-(ln j) by omega];exact M
 have:=p _ s;show A (ln hp+(k-ln bs))=σ k;rw[this];show(if (ln hp)+(k-ln bs)<(ln hp) then _ else σ (ln hp+(k-ln bs)-ln hp+ln j))=σ k;rw[if_neg om];congr 1;omega;exact Z f o hp K h
def Y7 (x y:SV):Prop:= ∀d,x.den d=y.den d
def XU (e:List aY) (K:SV->List aY->Prop) (v:SV) (hp:List aY):Prop:=∃g m:List Nat,∀k,pt (ln e) g [0] m k [v] hp λo h=> ∃i d,o=[i]/\gx h (e++d)/\pI d/\ ∃j,Y7 i j/\K j d
def cV {E} (W:iU P E) (hm:P.follows .mixedOrders=true) (hH:ko P H) {fn} (Q:iM P f fn) {c} (h: ∀args ros K,c args ros K->(∀ρ ρ',(∀i,i<ln ros->ρ i=ρ' i)->args.map (SV.den ρ)=args.map (SV.den ρ'))/\A5 E H fn args ros (XU ros K)):jv P f c:=by
 refine⟨Q.callable,λargs ros K J k z ρ w U=> ?_⟩;obtain⟨r,y⟩:=h args ros K J;have p: ∀{i:Nat},(an ros i).isSome=true↔i<ln ros:=λ{i}=>by rw[cD];constructor;intro h;obtain⟨x,Z⟩:=aK.1 h;exact(aw.1 Z).1;intro h;rw[ae h];rfl
 have hh:dv w.heap.size ⟨w,λi=>(an ros i).isSome=true,ρ,0⟩ (an ros) ρ w:=by
  refine⟨λi b d L=> ?_,λi b d q=> ?_,λi j b c d q=> ?_,λρ' u i b d=> ?_,sR.refl _ _,ai _,λi h=>⟨h,rfl⟩,λi b e d A=>(by rw[hW (kd k d).2] at A;cases A),λi j b c d hj hm hk a0=>(by rw[hW (kd k d).2] at hm;cases hm),λi b o l e d hm A=>(by rw[iB (kd k d).2] at hm;cases hm)⟩
  have R:0<bu b.cs:=by
   cases J:b.cs with
   |nil=>unfold aY.void at L;rw[J,r7 k d] at L;cases L
   |cons x l=>cases x<;>simp[bu,C.n]<;>omega
  rw[cU ρ] at R;exact block_lt_of_cell (U i b d 0 _ (ae R));rw[r7 k d] at q;cases q;rw[r7 k d] at q;cases q;refine⟨?_,λq=>by rw[r7 k d] at q;cases q⟩;have B:af ρ' b.cs=af ρ b.cs:=(jr z d) ρ' ρ;rw[u i (by rw[d];rfl),B];exact U i b d
 refine(sG W hm hH Q y w.heap.size _ ρ w hh (λρ' u=>r ρ' ρ λi d=>u i (p.2 d))).mono ?_;rintro e Y ⟨v,hp',ρ1,⟨sel,pf,hout⟩,hh',-,A⟩;have F:=A ρ1 (gt.refl _ _);have G:iN w.heap.size ⟨w,λi=>(an ros i).isSome=true,ρ,0⟩ [v] hp' {tmps:= #[v.den ρ1],defers:=[]} Y:=⟨ρ1,hh',λρ' m=>by have:=A ρ' m;rw[F] at this;(have:v.den ρ1=v.den ρ':=by simpa using this);simp[this],KO.nil _ _ (ah _)⟩;obtain⟨a1,B,⟨v2,D,rfl,s,hn,T,N,V⟩,O⟩:=uG (n0:=ln ros) (λi d=>p.1 d) G (hout _);have M:=O.same (tm2:=[T]) ⟨N,trivial⟩ s;obtain⟨X,g,I,-⟩:=M;refine⟨T,D,X,V,hn,⟨g.old,g.own,g.apart,g.holds,g.bel,g.big,λi d=>d.elim,g.maps,g.mapA,g.fam⟩,λi d=>(g.ext i (p.2 d)).2,λρ' m=> ?_⟩;have:=I ρ' m;simp only[aI,dj,List.cons.injEq,and_true] at this;rw[F,this]
end
section
def nK {g}: ∀vs o (w:World),w.grownBy (w.setCells g o vs) (some g)
 |[],_,w=>⟨rfl,rfl,rfl,ai _,λ_ _ _=>rfl⟩
 |v::vs,o,w=>by have h:=nK (g:=g) vs (o+1) (w.setCell ⟨g,o,none⟩ v);rw[World.setCells];(have f:(w.setCell ⟨g,o,none⟩ v).heap.size=w.heap.size:=by simp[World.setCell]);exact⟨h.os,h.tape,h.output,by rw[<-f];exact h.size,λk i d=>(h.block k (by rw[f];exact i) d).trans (Below.heap_setCell w ⟨g,o,none⟩ v k (λe=>d (by rw[e])))⟩
def Ps (P:Program) (w:World) (s:Sem Value) (e:TypeId) (size:Nat) (g0:Option Nat) (n:Nat) (cs:List Value):Prop:=
 ∃h g d f,s.run P w= .ok (.slice (some ⟨g,0,none⟩) n d) h/\h.heap[g]? =some (.cells f e (0,0))/\n<=d/\d<=maxLen/\f.size=d*size/\f.toList.take (n*size)=cs/\
  (some g=g0\/g=w.heap.size)/\w.grownBy h g0
section
variable {P:Program}
def C9 w t q ty e i z (A:P.underlying t=some (.slice e)) (hi:P.info? e=some i) (D:i.zero=some z) (s:z.cells.size=i.size) base len cap d (r:ln d=len*i.size) (h:(Builtin.firstCells i.size len (.slice base len cap)).run P w.drew= .ok d.toArray w.drew) {x m news} (hs:Src P i.size q x m news w) (y:cap<len+m) (g:len+m<=maxLen) (p:(len+m)*i.bytes<=140737488355328) g0:Ps P w (Builtin.append_ #[t,q] ty #[.slice base len cap,x]) e i.size g0 (len+m) (d++news):=by
 have f:((len+m:Nat):Int)<=9223372036854775807:=by simp only[maxLen] at g;omega
 have E:=run_append_grow_src (P:=P) w t q ty e i z A hi D base len cap d h x m news hs y f (growslice_fits y p);have o:=grownCap_ge w (len+m) cap e;have j:=grownCap_le_maxLen w (len+m) cap e g;have u:(d++news).length=(len+m)*i.size:=by rw[aa,r,hs.newsLen,s5]
 refine⟨_,w.heap.size,_,_,E,heap_alloc_new w.drew _,o,j,?_,?_,.inr rfl,⟨rfl,rfl,rfl,sp,λk B _=>Below.heap_alloc w.drew _ k B⟩⟩;rw[Array.size_append,gC,u,size_zeroCells,s,<-s5];congr 1;omega;rw[Array.toList_append,<-u];exact a0u
def Vz (w:World) t s ty e (i:TypeInfo) (z:Value) (G:P.underlying t=some (.slice e)) (hi:P.info? e=some i) (J:i.zero=some z) (F:z.cells.size=i.size) g len cap (f:Array Value) d (r:w.heap[g]? =some (.cells f e (0,0))) (E:len<=cap) (A:cap<=maxLen) (q:f.size=cap*i.size) (o:f.toList.take (len*i.size)=d) {x m news} (hs:Src P i.size s x m news w) (D:len+m<=maxLen) (B:(len+m)*i.bytes<=140737488355328):Ps P w (Builtin.append_ #[t,s] ty #[.slice (some ⟨g,0,none⟩) len cap,x]) e i.size (some g) (len+m) (d++news):=by
 have N:len*i.size<=ln f.toList:=by rw[dg,q];exact gV _ E
 have h:ln d=len*i.size:=by rw[<-o,aO];omega
 by_cases hroom:len+m<=cap;have H:len*i.size+ln news<=f.size:=by rw[hs.newsLen,q,<-s5];exact gV _ hroom
 have k: ∀j,j<ln news->(w.cell? ⟨g,0+len*i.size+j,none⟩).isSome=true:=λj O=>by rw[cell_of_row _ _ _ _ _ _ r,aM om];rfl
 have M:=run_append_room_src (P:=P) w t s ty e i G hi g 0 len cap x m news hs hroom k (λj _=>frozen_of_row _ _ _ _ _ r);have p:f=(d++((f.toList.drop (len*i.size)).take (ln news)++(f.toList.drop (len*i.size)).drop (ln news))).toArray:=by rw[aF,<-o,aF]
 rw[p] at r;have L:=kO (W:=w) (g:=g) (t:=e) news (0+len*i.size) d _ _ om (by simp only[aO,bN,dg];omega) r;refine⟨_,g,cap,_,M,L,hroom,A,?_,?_,.inl rfl,nK _ _ _⟩;simp only[gC,aa,bN,dg];omega;rw[List.toList_toArray,<-aJ,show(len+m)*i.size=(d++news).length by rw[aa,h,hs.newsLen,s5]];exact a0u;refine C9 w t s ty e i z G hi J F _ len cap d h ?_ hs om D B _;refine run_firstCells_some w.drew i.size len ⟨g,0,none⟩ len cap d h (λj u y=> ?_);have I:(Addr.add ⟨g,0,none⟩ j)=⟨g,j,none⟩:=by unfold Addr.add;split<;>simp_all
 show w.cell? _=_;rw[I,cell_of_row _ _ _ _ _ _ r];rw[<-o,gb] at y;split at y;simpa using y;cases y
end
def YE (d:Nat) (x:SV) (hp:List aY) (K:Nat->List C->Prop):Prop:=
 match x with
 | .c (.val (.slice _ 0 0))=>K 0 []
 | .c (.sli _ b off n _ _)=>(match an hp b with
  |some blk=>(match dk blk.cs off (n*d) with
   |some e=>gJ e=true/\K n e
   |none=>False)
  |none=>False)
 |_=>False
def yB:List C->Nat
 |[.val (.int .u8 _)]=>140737488355328
 |[.int _ _,.int _ _,.int _ _]=>17592186044416
 |_=>5000000000000
def VT z:5000000000000<=yB z:=by unfold yB;split<;>decide
def Rf {z k b s} (hb:b<=y8 z*s) (hk:k*s<=yB z):k*b<=140737488355328:=by
 have d:k*b<=k*(y8 z*s):=eu _ hb;have e:k*(y8 z*s)=y8 z*(k*s):=by rw[Nat.mul_left_comm]
 unfold yB at hk;unfold y8 at d e;split at hk;simp only at d e;omega;simp only at d e;omega;rename_i g f;split at d;exact absurd rfl (g _);exact absurd rfl (f _ _ _ _ _ _);simp only at d e;omega
def Rg {z k s} (h0:0<s) (hk:k*s<=yB z):k<=maxLen:=by
 have d:k*1<=k*s:=eu _ h0;have e:yB z<=140737488355328:=by unfold yB;split<;>decide
 unfold maxLen;omega
def a00 (z:List C) (K:Nat->Prop):Prop:=
 match z with
 |[.val (.int .u8 _)]=>K 140737488355328
 |[.int _ _,.int _ _,.int _ _]=>K 17592186044416
 |_=>K 5000000000000
def VS z K:a00 z K=K (yB z):=by unfold a00 yB;split<;>rfl
def rY (T:TypeId->Option TI) (o:Oper) (f:List SV) (hp:List aY) (K:List SV->List aY->Prop):Prop:=
 match o.op with
 | .call c=>(match c.callee,c.args.toList,c.argTypes.toList with
  | .builtin .append,[s,x],[t,t']=>if t=t' then(match T t with
   |some {sh:= .slice e esz ez, .. }=>YE esz (gv f x) hp λm i=>(match gv f s with
    | .c (.val (.slice none 0 0))=>m*esz<=5000000000000/\ ∀(d:Nat) (h2:bZ (decide (m=0)) m d),jQ hp ⟨e,decide (m=0),i,(d-m)*esz⟩ λg=>pE hp λn=>fI o.dst (.c (.sli (decide (m=0)) n 0 m d h2)) f λf=>K f g
    | .c (.sli nl b 0 len cap _)=>(match an hp b with
     |some ⟨j,ro,cs,tl⟩=>a00 ez λlim=>(j=e/\ro=nl/\bu cs=len*esz/\(nl=false->bu cs+tl=cap*esz)/\(len+m)*esz<=lim)/\
      ∀d (h2:bZ (nl&&decide (m=0)) (len+m) d),fU hp b ⟨j,true,[],0⟩ λg=>jQ g ⟨e,nl&&decide (m=0),cs++i,(d-(len+m))*esz⟩ λh=>pE hp λn=>fI o.dst (.c (.sli (nl&&decide (m=0)) n 0 (len+m) d h2)) f λf=>K f h
     |none=>False)
    |_=>sQ o 21 [])
   |_=>sQ o 22 []) else sQ o 23 []
  |_,_,_=>sQ o 3 (kU o f))
 |_=>sQ o 3 (kU o f)
section
variable {P:Program} {T:TypeId->Option TI} (hT:Fw P T)
include hT
def EU {t e d j sz q z eq} (h:T t=some ⟨sz,q,z,.slice e d j,eq⟩): ∃i v,P.underlying t=some (.slice e)/\P.info? e=some i/\i.zero=some v/\v.cells.size=i.size/\i.size=d/\0<d/\i.bytes<=24*d:=by
 obtain⟨o,x,f,s,k,g⟩:=ia hT h;obtain⟨i,f⟩:=aK.1 f;obtain⟨g,r⟩:=g (λ_=>(0,0));rw[f] at k
 cases hz0:i.zero with
 |none=>simp[f,hz0] at g
 |some v=>simp only[f,gW,hz0,dA,bL.injEq] at g;(have m:i.size=d:=by simpa[Program.cellsOf,f] using x);refine⟨i,v,o,f,hz0,?_,m,s,by have u:=LH j;have p:i.bytes<=y8 j*d:=(by simpa using k);exact aC p (gV _ u)⟩;rw[g,m];simpa using r
def Yk {t e d g sz j z eq} (h:T t=some ⟨sz,j,z,.slice e d g,eq⟩) {i} (hi:P.info? e=some i):i.bytes<=y8 g*d:=by obtain⟨-,-,-,-,f,-⟩:=ia hT h;rw[hi] at f;simpa using f
def MT {s B} (hk:P.underlying s=some (.slice B)) {d x hp K} (h:YE d x hp K): ∃m ms,K m ms/\bu ms=m*d/\ ∀{ρ w},(∀b blk,an hp b=some blk->fq ρ blk b w)-> Src P d s (x.den ρ) m (af ρ ms) w:=by
 have _:=hT;unfold YE at h;split at h;rename_i a;refine⟨0,[],h,by simp[bu],λ{ρ w} _=> ?_⟩
 cases a with
 |none=>exact Src.ofNil w hk 0
 |some a=>exact Src.ofSlice w hk a 0 0 [] sp (λj u I=>by simp at I) (λu k=>by cases k)
 rename_i H b o n e q;split at h;rename_i blk G;split at h;rename_i ms p;obtain⟨x,r,z,A,i⟩:=gr p;refine⟨n,ms,h.2,i,λ{ρ w} D=> ?_⟩;have f:=oa ρ h.1;have g:=(D b blk G).1;rw[z,bp,bp] at g;have g:=oQ g;rw[<-cU,A] at g
 cases H with
 |true=>have J:=q.1;have y:=q.2.2 rfl;have E:n=0:=om;have F:e=0:=y;subst E;subst F;rw[jw] at i;have:af ρ ms=[]:=aU (by rw[<-cU];exact i);rw[this];exact Src.ofNil w hk 0
 |false=>refine Src.ofSlice w hk ⟨(ρ b).1,(ρ b).2+o,none⟩ n e _ (by rw[<-cU];exact i) (λj u k=> ?_) f;have:=g j u k;rw[Addr.add_mid];exact this
 exact h.elim;exact h.elim;exact h.elim
omit hT in
def kS {o:Oper} {c:Call} {s x:Operand} {t e:TypeId} (ho:o.op= .call c) (h:c.callee= .builtin .append) (f:c.args.toList=[s,x]) (g:c.argTypes.toList=[t,e]) {a:Act} {w:World} {next:Act->World->Prop} {Q:Exit->Act->World->Prop} {v:Value} {w':World} (p:(Builtin.append_ #[t,e] o.type #[a.eval s,a.eval x]).run P w= .ok v w') (m:next (a.put o.dst v) w'):o.wp P a w next Q:=by obtain⟨q,d,i⟩:=c;simp only at h f g;subst h;have j:d= #[s,x]:=dz.1 (by rw[f]);have k:i= #[t,e]:=dz.1 (by rw[g]);subst j;subst k;unfold Oper.wp execOp;simp only[ho,resolve,invoke,builtin,aX,bc,aB,a8U,aI,dj,p];exact m
end
section
variable {N:Nat} {w0:ip} {hf:Nat->Option aY} {ρ0:fF} {w:World}
def dv.kill (h:dv N w0 hf ρ0 w) {b v} (hv:v.void=true) (z:v.mapOf=none) (A:v.famOf=none):dv N w0 (df hf b v) ρ0 w:=by
 have k: ∀i c,df hf b v i=some c->(c.void=true/\c.ro=true/\c.mapOf=none/\c.famOf=none)\/(i≠b/\hf i=some c):=λi c g=>by unfold df at g;split at g;cases g;exact .inl ⟨hv,(lE hv).1,z,A⟩;rename_i e;exact .inr ⟨e,g⟩
 have u: ∀s,gt (df hf b v) s ρ0->gt hf s ρ0:=λs p i g=>p i (by unfold df;split;rfl;exact g);refine⟨λi c g m=> ?_,λi c g m=> ?_,λi j c d g m x q r=> ?_,λs p i c g=> ?_,h.bel,h.big,λi g=> ?_,λi c e g y=> ?_,λi j c d g x m q r=> ?_,h.fam.up (λi c g B=> ?_) λj c x m=> ?_⟩;rcases k i c g with⟨f,-⟩|⟨-,f⟩;rw[f] at m;cases m;exact h.old i c f m;rcases k i c g with⟨-,f,-⟩|⟨-,f⟩;rw[f] at m;cases m;exact h.own i c f m;rcases k i c g with⟨-,f,-⟩|⟨-,f⟩;rw[f] at m;cases m;rcases k j d x with⟨o,-⟩|⟨-,o⟩;rw[o] at q;cases q;exact h.apart i j c d f m o q r;rcases k i c g with⟨f,-⟩|⟨-,f⟩;exact fq.void f s i w;exact h.holds s (u s p) i c f;have:=h.ext i g;refine⟨?_,this.2⟩;unfold df;split;rfl;exact this.1;rcases k i c g with⟨-,-,f,-⟩|⟨-,f⟩;rw[f] at y;cases y;exact h.maps i c e f y;rcases k i c g with⟨-,-,f,-⟩|⟨-,f⟩;rw[f] at m;cases m;rcases k j d x with⟨-,-,o,-⟩|⟨-,o⟩;rw[o] at q;cases q;exact h.mapA i j c d f o m q r;rcases k i c g with⟨-,-,-,f⟩|⟨-,f⟩;rw[f] at B;cases B;exact⟨i,c,f,rfl⟩;rcases k j c x with⟨-,f,-⟩|⟨-,f⟩;rw[f] at m;cases m;exact .inl ⟨j,c,f,m,rfl⟩
def dv.app (h:dv N w0 hf ρ0 w) {n} (hn:hf n=none) {w' g0} (m:w.grownBy w' g0) (z: ∀k,g0=some k->N<=k/\(∃vs t p,w.heap[k]? =some (.cells vs t p))/\ ∀i b,hf i=some b->b.void=false->(ρ0 i).1≠k) (P: ∀k,g0=some k-> ∀i b o l e,hf i=some b->b.famOf=some (o,l)->e∈l->e.a.1≠k) {g} (M:some g=g0\/g=w.heap.size) {c} (hro:c.ro=false) {L t} (s:w'.heap[g]? =some (.cells (L++t).toArray c.ty (0,0))) (ht:ln t=c.tl) (hL: ∀ρ,gt hf ρ ρ0->af ρ c.cs=L):dv N w0 (df hf n c) (ig ρ0 n (g,0)) w':=by
 have V: ∀i d,hf i=some d->i≠n:=λi d f e=>by rw[e,hn] at f;cases f
 have q: ∀i d,df hf n c i=some d->(i=n/\d=c)\/(i≠n/\hf i=some d):=λi d f=>by unfold df at f;split at f;rename_i e;cases f;exact .inl ⟨e,rfl⟩;rename_i e;exact .inr ⟨e,f⟩
 have D: ∀i,i≠n->ig ρ0 n (g,0) i=ρ0 i:=λi e=>if_neg e;have y:ig ρ0 n (g,0) n=(g,0):=if_pos rfl;have Y:N<=g:=by rcases M with e|e;exact(z g e.symm).1;rw[e];exact h.big
 have I: ∀i b,hf i=some b->b.void=false->(ρ0 i).1≠g:=λi b f F=>by rcases M with e|e;exact(z g e.symm).2.2 i b f F;have:=h.old i b f F;omega
 refine⟨λi d f F=> ?_,λi d f J=> ?_,λi j d e f J W u G=> ?_,λρ Q i d f=> ?_,h.bel.grown m h.big (λk E=>(z k E).1) (λk E=>(z k E).2.1),aC h.big m.size,λi f=> ?_,λi d e f u=> ?_,λi j d e f W R u G=> ?_,(h.fam.up (λi d f A=> ?_) λj d W R=> ?_).keep λi d o l e f A u E hs=>m.block _ E.lt λO=> ?_⟩;rcases q i d f with⟨rfl,rfl⟩|⟨e,f⟩;rw[y];exact(aE.1 s).1;rw[D i e];exact dh (h.old i d f F) m.size;rcases q i d f with⟨rfl,rfl⟩|⟨e,f⟩;rw[y];exact Y;rw[D i e];exact h.own i d f J;rcases q i d f with⟨rfl,rfl⟩|⟨H,r⟩<;>rcases q j e W with⟨rfl,rfl⟩|⟨X,B⟩;exact absurd rfl G;rw[y,D j X];exact I j e B u;rw[y,D i H];exact(I i d r (fH J)).symm;rw[D i H,D j X];exact h.apart i j d e r J B u G;have x:gt hf ρ ρ0:=λk E=>by obtain⟨c',U⟩:=aK.1 E;have:=Q k (by unfold df;rw[if_neg (V k c' U)];exact E);rw[this,D k (V k c' U)]
 rcases q i d f with⟨rfl,rfl⟩|⟨e,f⟩;have Z:ρ i=(g,0):=by rw[Q i (by unfold df;rw[if_pos rfl];rfl),y]
 unfold fq;rw[Z,hL ρ x];exact⟨Ad s,λ_=>⟨rfl,t,ht,s⟩⟩;refine(kR d).elim (λF=>fq.void F ρ i _) λF=>(h.holds ρ x i d f).keep (m.block _ ?_ ?_);rw[x i (by rw[f];rfl)];exact h.old i d f F;rw[x i (by rw[f];rfl)];exact λe=>(z _ e.symm).2.2 i d f F rfl;obtain⟨h1,h2⟩:=h.ext i f;have T:i≠n:=λe=>by rw[e,hn] at h1;cases h1
 rw[D i T];refine⟨?_,h2⟩;unfold df;rw[if_neg T];exact h1;rcases q i d f with⟨rfl,rfl⟩|⟨O,f⟩;rw[l5 hro] at u;cases u;rw[D i O];have A:=h.maps i d e f u;refine⟨A.1,(m.block _ (aE.1 A.2).1 λe3=> ?_).trans A.2⟩;obtain⟨-,⟨vs,t,p,J⟩,-⟩:=z _ e3.symm;rw[A.2] at J;cases J;rcases q i d f with⟨rfl,rfl⟩|⟨H,r⟩;rw[l5 hro] at R;cases R;rcases q j e W with⟨rfl,rfl⟩|⟨X,B⟩;rw[l5 hro] at u;cases u;rw[D i H,D j X];exact h.mapA i j d e r B R u G;rcases q i d f with⟨rfl,rfl⟩|⟨H,r⟩;rw[y9 hro] at A;cases A;exact⟨i,d,r,rfl⟩;rcases q j d W with⟨rfl,rfl⟩|⟨H,B⟩;refine .inr λi b o l e f A u E=> ?_;rw[y];rcases M with O|O;exact(P g O.symm i b o l e f A u).symm;have:=E.lt;show g≠_;omega;exact .inl ⟨j,d,B,R,by rw[D j H]⟩;rcases q i d f with⟨rfl,rfl⟩|⟨H,r⟩;rw[y9 hro] at A;cases A;exact P _ O.symm i d o l e r A u rfl
def dv.addVoid (h:dv N w0 hf ρ0 w) {n} (I:hf n=none) {v} (hv:v.void=true) (D:v.mapOf=none) (F:v.famOf=none) p:dv N w0 (df hf n v) (ig ρ0 n p) w:=by
 have o: ∀i d,hf i=some d->i≠n:=λi d g e=>by rw[e,I] at g;cases g
 have k: ∀i c,df hf n v i=some c->(c.void=true/\c.ro=true/\c.mapOf=none/\c.famOf=none)\/(i≠n/\hf i=some c):=λi c g=>by unfold df at g;split at g;cases g;exact .inl ⟨hv,(lE hv).1,D,F⟩;rename_i e;exact .inr ⟨e,g⟩
 have q: ∀i,i≠n->ig ρ0 n p i=ρ0 i:=λi e=>if_neg e;have y: ∀x,gt (df hf n v) x (ig ρ0 n p)->gt hf x ρ0:=λx s i g=>by obtain⟨L,G⟩:=aK.1 g;have:=s i (by unfold df;split;rfl;exact g);rw[this,q i (o i L G)]
 refine⟨λi c g m=> ?_,λi c g m=> ?_,λi j c d g m A u o=> ?_,λx s i c g=> ?_,h.bel,h.big,λi g=> ?_,λi c e g B=> ?_,λi j c d g A m u o=> ?_,h.fam.up (λi c g H=> ?_) λj c A m=> ?_⟩;rcases k i c g with⟨f,-⟩|⟨e,f⟩;rw[f] at m;cases m;rw[q i e];exact h.old i c f m;rcases k i c g with⟨-,f,-⟩|⟨e,f⟩;rw[f] at m;cases m;rw[q i e];exact h.own i c f m;rcases k i c g with⟨-,f,-⟩|⟨e,f⟩;rw[f] at m;cases m;rcases k j d A with⟨r,-⟩|⟨E,r⟩;rw[r] at u;cases u;rw[q i e,q j E];exact h.apart i j c d f m r u o;rcases k i c g with⟨f,-⟩|⟨-,f⟩;exact fq.void f x i w;exact h.holds x (y x s) i c f;obtain⟨f,r⟩:=h.ext i g;have z:i≠n:=λe=>by rw[e,I] at f;cases f
 rw[q i z];refine⟨?_,r⟩;unfold df;rw[if_neg z];exact f;rcases k i c g with⟨-,-,f,-⟩|⟨J,f⟩;rw[f] at B;cases B;rw[q i J];exact h.maps i c e f B;rcases k i c g with⟨-,-,f,-⟩|⟨e,f⟩;rw[f] at m;cases m;rcases k j d A with⟨-,-,r,-⟩|⟨E,r⟩;rw[r] at u;cases u;rw[q i e,q j E];exact h.mapA i j c d f r m u o;rcases k i c g with⟨-,-,-,f⟩|⟨-,f⟩;rw[f] at H;cases H;exact⟨i,c,f,rfl⟩;rcases k j c A with⟨-,f,-⟩|⟨e,f⟩;rw[f] at m;cases m;exact .inl ⟨j,c,f,m,by rw[q j e]⟩
end
def ws {l} (h:bu l=0):l=[]:=by
 cases l with
 |nil=>rfl
 |cons x l=>cases x<;>simp[bu,C.n] at h
def HJ {P d g x m f e w} (h1:Src P d g x m f w) (h2:Src P d g x m e w):f=e:=by have:=h1.cells;rw[h2.cells] at this;simpa using this.symm
section
variable {P:Program} {T:TypeId->Option TI} (hT:Fw P T)
include hT
def pK:yl P (rY T):=by
 intro o tm u K h N w0 a w next Q hr hn
 unfold rY at h;split at h;rename_i c b3;split at h;rename_i s x t t' b8 G V;split at h;rename_i d3;subst d3;split at h;rename_i sz ag z e e3 ez eq c7;obtain⟨i,z0,hu,X,hz,c6,d4,h0,-⟩:=EU hT c7;have d6:=Yk hT c7 X;subst d4;obtain⟨m,ms,h,b5,a5⟩:=MT hT hu h;obtain⟨d,Z,a0,hd⟩:=hr;have c4: ∀r,gt (an u) r d->a.eval=gI (gv tm) r:=λr f=>fP (a0 r f);have L:=c4 d (gt.refl _ _);have hS:Src P i.size t (a.eval x) m (af d ms) w:=by rw[L];exact a5 (Z.holds d (gt.refl _ _))
 have a6: ∀r,gt (an u) r d->af r ms=af d ms:=λr f=>by (have h1:Src P i.size t (a.eval x) m (af r ms) w:=by rw[c4 r f];exact a5 (Z.holds r f));exact HJ h1 hS
 have D: ∀{k:Nat},k*i.size<=yB ez->k*i.bytes<=140737488355328/\k<=maxLen:=λ{k} E=>⟨Rf d6 E,Rg h0 E⟩
 have a7: ∀{A:List aY},dv N w0 (an A) d w->ln A=ln u->(∀i,(an u i).isSome=true->(an A i).isSome=true)->(∀i,(an A i).isSome=true->(an u i).isSome=true)->a.eval s= .slice none 0 0->m*i.size<=(yB ez)->
   (∀(q:Nat) (h2:bZ (decide (m=0)) m q),K (match o.dst with|some t=>tm.set t (.c (.sli (decide (m=0)) (ln u) 0 m q h2))|none=>tm) (A++[⟨e,decide (m=0),ms,(q-m)*i.size⟩]))->o.wp P a w next Q:=by
  intro A c5 a9 H c9 a1 O hK
  have p:an A (ln u)=none:=by rw[<-a9];exact fY A
  have B: ∀(b:aY),an (A++[b])=df (an A) (ln u) b:=λb=>by rw[fi,a9]
  by_cases hm0:m=0
  subst hm0
  rw[jw] at b5
  have d7:=ws b5
  subst d7
  have hr:=run_append_nothing (P:=P) w t t o.type e i hu X none 0 0 (ai _) (a.eval x) hS
  have E:=hK 0 ⟨om,om,fr⟩
  refine kS b3 b8 G V (by rw[a1];exact hr) (hn _ _ _ _ E (iN.put (ρ1:=ig d (ln u) (0,0)) a0 hd ?_ (λj y=> ?_) o.dst λr f=>rfl))
  rw[B];exact c5.addVoid p rfl (hW sp) (iB sp) _
  rw[B];exact n7 p j (H j y)
  obtain⟨w',g,q,U,hr,hg,Y,b9,R,a4,b6,I⟩:=C9 (P:=P) w t t o.type e i z0 hu X hz c6 none 0 0 [] sp (run_firstCells_none w.drew i.size 0 0 0) hS om (by have:=(D O).2;omega) (by rw[aN];exact(D O).1) none
  simp only[aN,ge] at hr Y a4
  have d2:decide (m=0)=false:=by simpa using hm0
  have E:=hK q
  rw[d2] at E
  have E:=E ⟨Y,by simpa[maxLen] using b9,λh=>by cases h⟩
  have W:U=(af d ms++U.toList.drop (m*i.size)).toArray:=by rw[<-a4,aF]
  rw[W] at hg
  refine kS b3 b8 G V (by rw[a1];exact hr) (hn _ _ _ _ E (iN.put (ρ1:=ig d (ln u) (g,0)) a0 hd ?_ (λj y=> ?_) o.dst λr f=> ?_))
  rw[B]
  refine c5.app p I (λk E=>by cases E) (λk E=>by cases E) b6 rfl hg ?_ (λr f=>a6 r λj y=>f j (H j y))
  rw[bN,dg,R,<-Nat.sub_mul]
  rw[B];exact n7 p j (H j y)
  have b7:r (ln u)=(g,0):=by rw[f _ (by rw[B];unfold df;rw[if_pos rfl];rfl)];unfold ig;rw[if_pos rfl]
  simp[SV.den,C.den,C.cells,jK,b7]
 split at h;rename_i a2;obtain⟨O,h⟩:=h;refine a7 Z rfl (λ_ h=>h) (λ_ h=>h) (by rw[L];show(gv tm s).den d=_;rw[a2];rfl) (aC O (VT ez)) (λq h2=> ?_);have h:=h q h2;rw[eW,gq,dp] at h;exact h;rename_i nl b len c3 hl a2;split at h;rename_i e' ro cs tl hb;rw[VS] at h;obtain⟨⟨he,d5,R,c1,O⟩,h⟩:=h;subst he;subst d5;simp only[dR,eW,gq,dp] at h;have c0:=Z.kill (b:=b) (v:=⟨e,true,[],0⟩) rfl (hW rfl) (iB rfl);have F:an (u.set b ⟨e,true,[],0⟩)=df (an u) b ⟨e,true,[],0⟩:=dt _ _ _ _ hb;rw[<-F] at c0;have H: ∀j,(an u j).isSome=true->(an (u.set b ⟨e,true,[],0⟩) j).isSome=true:=λj y=>by rw[F];unfold df;split;rfl;exact y
 have c9: ∀j,(an (u.set b ⟨e,true,[],0⟩) j).isSome=true->(an u j).isSome=true:=λj y=>by rw[F] at y;unfold df at y;split at y;rename_i ej;rw[ej,hb];rfl;exact y
 cases ro with
 |true=>have e1:=hl.2.2 rfl;(have e0:len=0:=by have:=hl.1;omega);subst e0;subst e1;rw[jw] at R;have d8:=ws R;subst d8;simp only[aN,Bool.true_and,ge] at h O;exact a7 c0 sp H c9 (by rw[L];show(gv tm s).den d=_;rw[a2];rfl) O h
 |false=>simp only[CO] at h;obtain⟨d1,t0,d0,J⟩:=(Z.holds d (gt.refl _ _) b _ hb).2 rfl;have c1:=c1 rfl;(have c8:(af d cs).length=len*i.size:=by rw[<-cU];exact R);have d9:=Z.own b _ hb rfl;obtain⟨w',g,q,U,hr,hg,Y,b9,c2,a4,b6,I⟩:=Vz (P:=P) w t t o.type e i z0 hu X hz c6 (d b).1 len c3 _ (af d cs) J hl.1 (by simpa[maxLen] using hl.2.1) (by simp only[gC,aa,c8,d0];rw[<-R];exact c1) (by rw[List.toList_toArray,<-c8];exact a0u) hS (D O).2 (D O).1;have E:=h q ⟨Y,by simpa[maxLen] using b9,λh=>by cases h⟩;(have W:U=(af d cs++af d ms++U.toList.drop ((len+m)*i.size)).toArray:=by rw[<-a4,aF]);rw[W] at hg;(have a1:a.eval s= .slice (some ⟨(d b).1,0,none⟩) len c3:=by rw[L];show(gv tm s).den d=_;rw[a2];simp[SV.den,C.den,C.cells,jK,d1]);(have b2: ∀r,gt (an u) r d->af r cs=af d cs:=λr f=>by obtain⟨-,t1,e4,M⟩:=(Z.holds r f b _ hb).2 rfl;rw[f b (by rw[hb];rfl),J] at M;have h3:=congrArg Array.toList (Obj.cells.inj (bL.inj M)).1;exact(List.append_inj_left h3 (by rw[<-cU d,<-cU r])).symm);(have p:an (u.set b ⟨e,true,[],0⟩) (ln u)=none:=by have:=fY (u.set b ⟨e,true,[],0⟩);simpa using this);(have B: ∀(c:aY),an (u.set b ⟨e,true,[],0⟩++[c])=df (an (u.set b ⟨e,true,[],0⟩)) (ln u) c:=λc=>by rw[fi];simp);refine kS b3 b8 G V (by rw[a1];exact hr) (hn _ _ _ _ E (iN.put (ρ1:=ig d (ln u) (g,0)) a0 hd ?_ (λj y=> ?_) o.dst λr f=> ?_));rw[B];refine c0.app p I (λk E=> ?_) (λk E i c o l e' X O he=> ?_) b6 rfl hg ?_ (λr f=> ?_);cases E;refine⟨d9,⟨_,_,_,J⟩,λj c y hv=> ?_⟩;rw[F] at y;unfold df at y;split at y;cases y;cases hv;rename_i ej;exact Z.apart b j _ c hb rfl y hv ej;cases E;rw[F] at X;unfold df at X;split at X;cases X;rw[iB rfl] at O;cases O;exact λe2=>(Z.fam i c o l e' X O he).2 b _ hb rfl e2.symm;rw[bN,dg,c2,<-Nat.sub_mul];have a8:gt (an u) r d:=λj y=>f j (H j y);rw[bp,b2 r a8,a6 r a8];rw[B];exact n7 p j (H j y);(have b7:r (ln u)=(g,0):=by rw[f _ (by rw[B];unfold df;rw[if_pos rfl];rfl)];unfold ig;rw[if_pos rfl]);simp[SV.den,C.den,C.cells,jK,b7]
 exact h.elim;cases h;cases h;cases h;cases h;cases h
end
end
end Go.Proofs.YtlgcobafjbajdaaGreatDoor
