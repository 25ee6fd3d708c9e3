/- w -/
import Derived.Test.YtlgcobafjbajdaaGreatDoorJ01
import Derived.Test.YtlgcobafjbajdaaGreatDoorJ04
import Derived.Test.YtlgcobafjbajdaaGreatDoorJ05
import Derived.Maps.Keyed
namespace Go.Proofs.YtlgcobafjbajdaaGreatDoor
open Tryz
open Go.RowKit
open List renaming append_assoc→aJ,drop_eq_getElem_cons→bh,length→ln,map→cg,map_append→aV,mem_zipIdx_iff_getElem?→PF,replicate→au,take_append_drop→aF
open Nat renaming add_mul→s5
set_option linter.all false
set_option maxRecDepth 100000
set_option maxHeartbeats 16000000
section
open Go Go.RowKit
variable {k:Nat}
structure ZV where
 x:Int
 hx:IR x
def qh:List ZV->List C
 |[]=>[]
 |z::l=> .int z.x z.hx::qh l
structure SW where
 a:Option Addr
 n:Nat
 c:Nat
def SW.v (s:SW):C:= .val (.slice s.a s.n s.c)
structure CU where
 s:SW
 made:Int
 used:Int
 tl:List TR
 hm:IR made
 hu:IR used
def cuC (c:CU):List C:=[c.s.v,.int c.made c.hm,.int c.used c.hu]
def eM:List CU->List C
 |[]=>[]
 |c::l=>cuC c++eM l
structure GU where
 level:Int
 i:SW
 o:SW
 m:SW
 err:Int
 total:Int
 dn:Bool
 dd:ByteArray
 il:List ZV
 ol:List ZV
 hl:IR level
 he:IR err
 ht:IR total
def guC (g:GU):List C:=[.int g.level g.hl,g.i.v,g.o.v,g.m.v,.int g.err g.he,.int g.total g.ht,.val (.bool g.dn),.val (.string g.dd)]
def eO:List GU->List C
 |[]=>[]
 |g::l=>guC g++eO l
def BY: ∀l:List CU,bu (eM l)=3*ln l
 |[]=>rfl
 |c::l=>by rw[eM,cw,BY l,aS];show 3+_=_;omega
def Cc: ∀l:List GU,bu (eO l)=8*ln l
 |[]=>rfl
 |c::l=>by rw[eO,cw,Cc l,aS];show 8+_=_;omega
def wW: ∀a b:List CU,eM (a++b)=eM a++eM b
 |[],_=>rfl
 |c::l,b=>by rw[cK,eM,wW l b,eM,aJ]
def w6: ∀a b:List GU,eO (a++b)=eO a++eO b
 |[],_=>rfl
 |c::l,b=>by rw[cK,eO,w6 l b,eO,aJ]
def aR {nl n cap} (h:bZ nl n cap) (hk:k<=n):IR k:=by have:=h.ir;unfold IR at*;omega
def vi {a b d hb} (e:a=b) ρ:(SV.c (.int a d)).den ρ=(SV.c (.int b hb)).den ρ:=by subst e;rfl
def Cq {a b} (h:cC a) (k:cC b):cC (a++b):=λe d=>by rw[dG,dG,h e d,k e d]
def bR: ∀l:List CU,cC (eM l)
 |[]=>λ_ _=>rfl
 |_::l=>Cq ff (bR l)
def bT: ∀l:List GU,cC (eO l)
 |[]=>λ_ _=>rfl
 |_::l=>Cq ff (bT l)
def HK l (hk:k<ln l):dk (eM l) (0+k*3) 3=some (cuC l[k]):=by
 have e:eM l=eM (l.take k)++(cuC l[k]++eM (l.drop (k+1))):=by (have h:l=l.take k++(l[k]::l.drop (k+1)):=by rw[<-bh hk,aF]);rw[show eM l=eM (l.take k++(l[k]::l.drop (k+1))) by rw[<-h],wW];rfl
 have s:bu (eM (l.take k))=0+k*3:=by rw[BY,aO,cq (bw hk)];omega
 rw[e,<-s];exact eY _ (cuC l[k]) _
def HL l (hk:k<ln l):dk (eO l) (0+k*8) 8=some (guC l[k]):=by
 have e:eO l=eO (l.take k)++(guC l[k]++eO (l.drop (k+1))):=by (have h:l=l.take k++(l[k]::l.drop (k+1)):=by rw[<-bh hk,aF]);rw[show eO l=eO (l.take k++(l[k]::l.drop (k+1))) by rw[<-h],w6];rfl
 have s:bu (eO (l.take k))=0+k*8:=by rw[Cc,aO,cq (bw hk)];omega
 rw[e,<-s];exact eY _ (guC l[k]) _
def Xm (k:Nat):C:=if h:IR (k:Int) then .int k h else .val undef
def L0 h:Xm k= .int k h:=dif_pos h
def jZ:Nat->List GU->List (List SV)
 |_,[]=>[]
 |k,g::l=>[.c (Xm k),.agg [g.i.v,g.o.v]]::jZ (k+1) l
def iD: ∀k l,(jZ k l).length=ln l
 |_,[]=>rfl
 |k,g::l=>by rw[jZ,aS,iD (k+1) l,aS]
def v8: ∀j l k (hk:k<ln l),ij [] (jZ j l) k=[.c (Xm (j+k)),.agg [l[k].i.v,l[k].o.v]]
 |j,g::l,0,_=>rfl
 |j,g::l,k+1,hk=>by have:=v8 (j+1) l k (by simpa using hk);rw[show j+1+k=j+(k+1) by omega] at this;exact this
def qP: ∀j l,∀x∈jZ j l,∀y∈x,∀ρ ρ',SV.den ρ y=SV.den ρ' y
 |_,[],x,d=>by cases d
 |j,g::l,x,d=>by rcases br.1 d with rfl|d;intro y e ρ ρ';simp only[br,cd,or_false] at e;rcases e with rfl|rfl;unfold Xm;split<;>rfl;rfl;exact qP (j+1) l x d
def tP (fam:List mq) (s:SW) (l:List ZV):Prop:=s.n=ln l/\(l=[]\/ ∃r o,s.a=some ⟨r,o,none⟩/\pg fam (r,o) (qh l))
structure GU.Ok (fam:List mq) (g:GU):Prop where
 i:tP fam g.i g.il
 o:tP fam g.o g.ol
 hi:IR (g.i.n:Nat)
 ho:IR (g.o.n:Nat)
structure CU.Ok (fam:List mq) (c:CU):Prop where
 s:c.s.n=ln c.tl/\(c.tl=[]\/ ∃r o,c.s.a=some ⟨r,o,none⟩/\pg fam (r,o) (fy c.tl))
 h:IR (c.s.n:Nat)
def A4 (n:Nat) (z:ZV):Bool:= !decide (z.x<0)&&decide (z.x<(n:Int))
def qL (m:Nat) (c:CU):Bool:= !decide (minI c.made c.used< -1)&& !decide ((m:Int)<=maxI c.made c.used)
def w8 (n:Nat) (g:GU):Bool:=g.il.all (A4 n)&&g.ol.all (A4 n)
def sk (CL:List CU) (L:List GU):Bool:=CL.all (qL (ln L))&&L.all (w8 (ln CL))
end
section
def BV.t1:BV->T1
 | .c x=> .c x.c
 | .agg l=> .agg (l.map B1.c)
def BI ρ: ∀l:List B1,af ρ (l.map B1.c)=l.flatMap B1.cells
 |[]=>rfl
 |x::l=>by rw[aI,cO,BI ρ l,B1.c_cells,aL]
def BV.t1_den ρ (v:BV):v.t1.den ρ=v.den:=by
 cases v with
 |c x=>show(x.c.cells ρ).headD undef=x.cells.headD undef;rw[B1.c_cells]
 |agg l=>show Value.agg (af ρ (l.map B1.c)).toArray= .agg (l.flatMap B1.cells).toArray;rw[BI]
def By (P:Program) (k:TypeId) (v:BV):Prop:= ∃l,keyOf P k v.den=some l
def mH es:(kW es).toList=es.zipIdx.map λp=>{key:=p.1.1.den,val:=p.1.2.den,born:=p.2}:=rfl
def rQ {d x} (h:x∈(kW d).toList): ∃e∈d,x.key=e.1.den/\x.val=e.2.den:=by rw[mH] at h;obtain⟨p,f,rfl⟩:=bD.1 h;exact⟨p.1,(PF.1 f|>dV),rfl,rfl⟩
def Sc {d e} (h:e∈d): ∃x∈(kW d).toList,x.key=e.1.den/\x.val=e.2.den:=by obtain⟨i,f⟩:=List.getElem?_of_mem h;rw[mH];exact⟨_,bD.2 ⟨(e,i),PF.2 f,rfl⟩,rfl,rfl⟩
def Ju es k v:kW (es++[(k,v)])=(kW es).push {key:=k.den,val:=v.den,born:=ln es}:=by apply Array.toList_inj.1;rw[mH,Array.toList_push,mH,List.zipIdx_append,aV];simp[List.zipIdx]
section
variable {N:Nat} {w0:ip} {hf:Nat->Option aY} {ρ0:fF} {w:World}
def dv.newM (h:dv N w0 hf ρ0 w) {n} (T:hf n=none) {c} (P:c.mapOf=some ([],0)):dv N w0 (df hf n c) (ig ρ0 n (w.heap.size,0)) (w.alloc (.map #[] 0)):=by
 obtain⟨nt,B⟩:=qR P;have J:c.ro=true:=by rw[B]
 have Z:c.cs=[]:=by rw[B]
 have A:c.void=true:=by unfold aY.void;rw[J,Z]
 have F: ∀i d,hf i=some d->i≠n:=λi d f e=>by rw[e,T] at f;cases f
 have m: ∀i d,df hf n c i=some d->(i=n/\d=c)\/(i≠n/\hf i=some d):=λi d f=>by unfold df at f;split at f;rename_i e;cases f;exact .inl ⟨e,rfl⟩;rename_i e;exact .inr ⟨e,f⟩
 have r: ∀i,i≠n->ig ρ0 n (w.heap.size,0) i=ρ0 i:=λi e=>if_neg e;have y:ig ρ0 n (w.heap.size,0) n=(w.heap.size,0):=if_pos rfl;have Y:Below w.heap.size w (w.alloc (.map #[] 0)):=(Below.refl _ _).alloc (ai _) _;have g:=h.below Y;refine⟨λi d f M=> ?_,λi d f o=> ?_,λi j d e f o G s u=> ?_,λU L i d f=> ?_,g.bel,g.big,λi f=> ?_,λi d e f s=> ?_,λi j d e f G o s u=> ?_,g.fam.up (λi d f I=> ?_) λj d G o=> ?_⟩;rcases m i d f with⟨rfl,rfl⟩|⟨e,f⟩;rw[A] at M;cases M;rw[r i e];exact g.old i d f M;rcases m i d f with⟨rfl,rfl⟩|⟨e,f⟩;rw[J] at o;cases o;rw[r i e];exact g.own i d f o;rcases m i d f with⟨rfl,rfl⟩|⟨z,p⟩;rw[J] at o;cases o;rcases m j e G with⟨rfl,rfl⟩|⟨H,q⟩;rw[A] at s;cases s;rw[r i z,r j H];exact g.apart i j d e p o q s u;rcases m i d f with⟨rfl,rfl⟩|⟨e,f⟩;exact fq.void A U i _;exact g.holds U (λk Q=>by obtain⟨R,E⟩:=aK.1 Q;have:=L k (by unfold df;rw[if_neg (F k R E)];exact Q);rw[this,r k (F k R E)]) i d f;obtain⟨O,V⟩:=g.ext i f;have D:i≠n:=λe=>by rw[e,T] at O;cases O
 rw[r i D];refine⟨?_,V⟩;unfold df;rw[if_neg D];exact O;rcases m i d f with⟨rfl,rfl⟩|⟨W,f⟩;rw[P] at s;cases s;rw[y];exact⟨h.big,heap_alloc_new w (.map #[] 0)⟩;rw[r i W];exact g.maps i d e f s;have low: ∀i d,hf i=some d->d.mapOf.isSome=true->(ρ0 i).1<w.heap.size:=λi d f I=>by obtain⟨x,X⟩:=aK.1 I;exact(aE.1 (h.maps i d x f X).2).1
 rcases m i d f with⟨rfl,rfl⟩|⟨z,p⟩<;>rcases m j e G with⟨rfl,rfl⟩|⟨H,q⟩;exact absurd rfl u;rw[y,r j H];have:=low j e q s;simp;omega;rw[y,r i z];have:=low i d p o;simp;omega;rw[r i z,r j H];exact h.mapA i j d e p q o s u;rcases m i d f with⟨rfl,rfl⟩|⟨z,p⟩;rw[LK (by rw[P];rfl)] at I;cases I;exact⟨i,d,p,rfl⟩;rcases m j d G with⟨rfl,rfl⟩|⟨z,q⟩;rw[J] at o;cases o;exact .inl ⟨j,d,q,o,by rw[r j z]⟩
def dv.setM (h:dv N w0 hf ρ0 w) {b blk c} (hb:hf b=some blk) (hm:blk.mapOf.isSome=true) {x} (U:c.mapOf=some x): dv N w0 (df hf b c) ρ0 (ChangeMaps.setBlock w (ρ0 b).1 (.map (kW x.1) x.2)):=by
 obtain⟨y,X⟩:=aK.1 hm;have hat:=h.maps b blk y hb X;have T:=(aE.1 hat.2).1;obtain⟨Z,J⟩:=qR U;have P:c.ro=true:=by rw[J]
 have Y:c.cs=[]:=by rw[J]
 have I:c.void=true:=by unfold aY.void;rw[P,Y]
 have B:(ChangeMaps.setBlock w (ρ0 b).1 (.map (kW x.1) x.2)).heap.size=w.heap.size:=by simp[ChangeMaps.setBlock]
 have g: ∀k,k≠(ρ0 b).1->(ChangeMaps.setBlock w (ρ0 b).1 (.map (kW x.1) x.2)).heap[k]? =w.heap[k]? :=λk E=>by simp only[ChangeMaps.setBlock];rw[Array.getElem?_setIfInBounds_ne (λe=>E e.symm)]
 have H:(ChangeMaps.setBlock w (ρ0 b).1 (.map (kW x.1) x.2)).heap[(ρ0 b).1]? =some (.map (kW x.1) x.2):=by simp only[ChangeMaps.setBlock];rw[Array.getElem?_setIfInBounds_self_of_lt T]
 have m: ∀i d,df hf b c i=some d->(i=b/\d=c)\/(i≠b/\hf i=some d):=λi d f=>by unfold df at f;split at f;rename_i e;cases f;exact .inl ⟨e,rfl⟩;rename_i e;exact .inr ⟨e,f⟩
 have D: ∀z,gt (df hf b c) z ρ0->gt hf z ρ0:=λz A i f=>A i (by unfold df;split;rfl;exact f);refine⟨λi d f G=> ?_,λi d f p=> ?_,λi j d e f p M u s=> ?_,λz A i d f=> ?_,⟨?_,?_⟩,by rw[B];exact h.big,λi f=> ?_,λi d e f u=> ?_,λi j d e f M p u s=> ?_,(h.fam.keep λ_ _ _ _ _ _ _ _ E _=>g _ λF=> ?_).up (λi d f hm=> ?_) λj d M p=> ?_⟩;rcases m i d f with⟨rfl,rfl⟩|⟨e,f⟩;rw[I] at G;cases G;rw[B];exact h.old i d f G;rcases m i d f with⟨rfl,rfl⟩|⟨e,f⟩;rw[P] at p;cases p;exact h.own i d f p;rcases m i d f with⟨rfl,rfl⟩|⟨R,q⟩;rw[P] at p;cases p;rcases m j e M with⟨rfl,rfl⟩|⟨W,r⟩;rw[I] at u;cases u;exact h.apart i j d e q p r u s;rcases m i d f with⟨rfl,rfl⟩|⟨e,f⟩;exact fq.void I z i _;refine(kR d).elim (λG=>fq.void G z i _) λG=>(h.holds z (D z A) i d f).keep (g _ λF=> ?_);have:=(h.holds z (D z A) i d f).isCells G (o:= .map (kW y.1) y.2) (by rw[F];exact hat.2);cases this;exact h.bel.below.trans ⟨rfl,rfl,rfl,by rw[B];exact ai _,λk E=>g k (by have:=hat.1;omega)⟩;exact h.bel.oth.trans ⟨by rw[B];exact ai _,λk o E V=>(g k λF=>by rw[F,hat.2] at E;cases E;cases V).trans E⟩;obtain⟨O,Q⟩:=h.ext i f;refine⟨?_,Q⟩;unfold df;split;rfl;exact O;rcases m i d f with⟨rfl,rfl⟩|⟨F,f⟩;rw[U] at u;cases u;exact⟨hat.1,H⟩;have L:=h.maps i d e f u;exact⟨L.1,(g _ (h.mapA b i blk d hb f hm (by rw[u];rfl) F)).trans L.2⟩;rcases m i d f with⟨rfl,rfl⟩|⟨R,q⟩<;>rcases m j e M with⟨rfl,rfl⟩|⟨W,r⟩;exact absurd rfl s;exact h.mapA i j blk e hb r hm u s;exact h.mapA i j d blk q hb p hm s;exact h.mapA i j d e q r p u s;obtain⟨x',O,Q⟩:=E.row;rw[F,hat.2] at O;cases O;cases Q;rcases m i d f with⟨rfl,rfl⟩|⟨R,q⟩;rw[LK (by rw[U];rfl)] at hm;cases hm;exact⟨i,d,q,rfl⟩;rcases m j d M with⟨rfl,rfl⟩|⟨R,r⟩;rw[P] at p;cases p;exact .inl ⟨j,d,r,p,rfl⟩
end
def XP (P:Program) (T:TypeId->Option TI) (o:Oper) (d:List SV) (hp:List aY) (K:List SV->List aY->Prop):Prop:=
 match o.op with
 | .makeMap t none=>jQ hp ⟨.m t [] 0,true,[],1⟩ λj=>pE hp λn=>fI o.dst (.c (.mp n)) d λd=>K d j
 | .lookup t m k true=>(match gv d m with
  | .c (.mp b)=>(match an hp b with
   |some ⟨.m _ g _,true,[],1⟩=> ∃(f i:_) (kb z:BV),P.underlying t=some (.map f i)/\Maps.Keyed P f/\(∀h,(gv d k).den h=kb.den)/\By P f kb/\(∀e∈g,By P f e.1)/\(∀w,(zeroValue i).run P w= .ok z.den w)/\
    ((∀e∈g,e.1.den≠kb.den)->fI o.dst (.tup [z.t1,.c (.val (.bool false))]) d λd=>K d hp)/\
    ∀e∈g,e.1.den=kb.den->fI o.dst (.tup [e.2.t1,.c (.val (.bool true))]) d λd=>K d hp
   |_=>sQ o 51 (kU o d))
  |_=>sQ o 52 (kU o d))
 | .mapUpdate t m k v=>(match gv d m with
  | .c (.mp b)=>(match an hp b with
   |some ⟨.m q g p,true,[],1⟩=> ∃(f i:_) (kb vb:BV),P.underlying t=some (.map f i)/\Maps.Keyed P f/\(∀h,(gv d k).den h=kb.den)/\(∀h,(gv d v).den h=vb.den)/\By P f kb/\(∀e∈g,By P f e.1)/\p=ln g/\(∀e∈g,e.1.den≠kb.den)/\
    fU hp b ⟨.m q (g++[(kb,vb)]) (p+1),true,[],1⟩ λhp=>fI o.dst uv d λd=>K d hp
   |_=>sQ o 53 (kU o d))
  |_=>sQ o 54 (kU o d))
 |_=>JS T o d hp K
section
variable {P:Program} {T:TypeId->Option TI} (hT:Fw P T)
def Fi {o a w next Q v w'} (d:(execOp a.eval o).run P w= .ok (.value v) w') (e:next (a.put o.dst v) w'):o.wp P a w next Q:=by unfold Oper.wp;rw[d];exact e
def YW {o a w next Q w'} (d:(execOp a.eval o).run P w= .ok .skip w') (e:next (a.put o.dst undef) w'):o.wp P a w next Q:=by unfold Oper.wp;rw[d];exact e
include hT
def Mo:yl P (XP P T):=by
 intro o V A K h N w0 a w next Q hr X
 unfold XP at h;split at h;rename_i t p;obtain⟨d,B,i,L⟩:=hr;rw[eW,gq,dp] at h;have s:an A (ln A)=none:=fY A;have E: ∀b,an (A++[b])=df (an A) (ln A) b:=λb=>fi _ _;refine Fi (v:= .map (some w.heap.size)) (w':=w.alloc (.map #[] 0)) ?_ (X _ _ _ _ h (iN.put (ρ1:=ig d (ln A) (w.heap.size,0)) i L ?_ (λj I=> ?_) o.dst λρ y=> ?_));simp only[execOp,p,Option.map_none,aX,run_makeMap,aB,bc];rw[E];exact B.newM s rfl;rw[E];exact n7 s j I;have a2:ρ (ln A)=(w.heap.size,0):=by rw[y _ (by rw[E];unfold df;rw[if_pos rfl];rfl)];unfold ig;rw[if_pos rfl]
 simp[SV.den,C.den,C.cells,a2];rename_i t m k p;split at h;rename_i b hm;split at h;rename_i mt r G M;obtain⟨kt,et,D,z,hu,J,hk,⟨kl,hkl⟩,F,hz,h1,h2⟩:=h;obtain⟨d,B,i,L⟩:=hr;have f:a.eval=gI (gv V) d:=fP (i d (gt.refl _ _));have Z:a.eval m= .map (some (d b).1):=by rw[f];show(gv V m).den d=_;rw[hm];rfl
 have ek:a.eval k=D.den:=by rw[f];exact hk d
 have hat:=B.maps b _ (r,G) M rfl;have q: ∀e∈(kW r).toList,∃l,keyOf P kt e.key=some l:=λx W=>by obtain⟨e,u,g,-⟩:=rQ W;rw[g];exact F e u
 rcases J.find w hkl (kW r).toList q with⟨R,Y⟩|⟨j,e0,R,Y,f3⟩;have h1:=h1 λe u H=>by obtain⟨x,W,g,-⟩:=Sc u;exact Y x W (g.trans H)
 rw[dp] at h1;refine Fi (v:= .tuple #[z.den,.bool false]) (w':=w) ?_ (X _ _ _ _ h1 (iN.put (ρ1:=d) i L B (λj I=>⟨I,rfl⟩) o.dst λρ y=> ?_));have O:(Instr.lookup t (a.eval m) (a.eval k) true).run P w= .ok (.tuple #[z.den,.bool false]) w:=by rw[Z,ek];simp[Instr.lookup,run_underlying hu,MapKept.run_getObj_map hat.2,J.check w _ hkl,R,hz w,Result.andThen]
 simp only[execOp,p,aX,O,aB,bc];simp only[SV.den,aI,dj,BV.t1_den];rfl;obtain⟨e,u,g,a1⟩:=rQ (dV Y);have h2:=h2 e u (g.symm.trans f3);rw[dp] at h2;refine Fi (v:= .tuple #[e0.val,.bool true]) (w':=w) ?_ (X _ _ _ _ h2 (iN.put (ρ1:=d) i L B (λj I=>⟨I,rfl⟩) o.dst λρ y=> ?_));have O:(Instr.lookup t (a.eval m) (a.eval k) true).run P w= .ok (.tuple #[e0.val,.bool true]) w:=by rw[Z,ek];simp[Instr.lookup,run_underlying hu,MapKept.run_getObj_map hat.2,J.check w _ hkl,R,Result.andThen]
 simp only[execOp,p,aX,O,aB,bc];rw[a1];simp only[SV.den,aI,dj,BV.t1_den];rfl;cases h;cases h;rename_i t m k v p;split at h;rename_i b hm;split at h;rename_i mt r G M;obtain⟨kt,et,D,U,hu,J,hk,hv,⟨kl,hkl⟩,F,a0,H,h⟩:=h;obtain⟨d,B,i,L⟩:=hr;have f:a.eval=gI (gv V) d:=fP (i d (gt.refl _ _));have Z:a.eval m= .map (some (d b).1):=by rw[f];show(gv V m).den d=_;rw[hm];rfl
 have ek:a.eval k=D.den:=by rw[f];exact hk d
 have ev:a.eval v=U.den:=by rw[f];exact hv d
 have hat:=B.maps b _ (r,G) M rfl;have q: ∀e∈(kW r).toList,∃l,keyOf P kt e.key=some l:=λx W=>by obtain⟨e,u,g,-⟩:=rQ W;rw[g];exact F e u
 simp only[dR,dp] at h;rcases J.find w hkl (kW r).toList q with⟨R,-⟩|⟨j,e0,-,Y,f3⟩;refine YW (w':=ChangeMaps.setBlock w (d b).1 (.map (kW (r++[(D,U)])) (G+1))) ?_ (X _ _ _ _ h (iN.put (ρ1:=d) i L ?_ (λj I=> ?_) o.dst λρ y=>rfl));have O:(Instr.mapUpdate t (a.eval m) (a.eval k) (a.eval v)).run P w= .ok () (ChangeMaps.setBlock w (d b).1 (.map (kW (r++[(D,U)])) (G+1))):=by rw[Z,ek,ev,Ju,<-a0];simp[Instr.mapUpdate,run_underlying hu,MapKept.run_getObj_map hat.2,J.check w false hkl,R,MapKept.run_setObj_map _ hat.2,Result.andThen,ChangeMaps.setBlock]
 simp only[execOp,p,aX,O,aB,bc];rw[dt _ _ _ _ M];exact B.setM (c:=⟨.m mt (r++[(D,U)]) (G+1),true,[],1⟩) (x:=(r++[(D,U)],G+1)) M rfl rfl;rw[dt _ _ _ _ M];unfold df;split;exact⟨rfl,rfl⟩;exact⟨I,rfl⟩;obtain⟨e,u,g,-⟩:=rQ (dV Y);exact absurd (g.symm.trans f3) (H e u);cases h;cases h;exact u4 hT o V A K h hr X
end
end
section
structure RW (α:Type) where
 c:α->List C
 n:Nat
 sz: ∀a,bu (c a)=n
 pure: ∀a,cC (c a)
 one: ∀a,gJ (c a)=true
variable {α:Type}
def bG (R:RW α):List α->List C
 |[]=>[]
 |a::l=>R.c a++bG R l
def hZ (R:RW α): ∀l:List α,bu (bG R l)=ln l*R.n
 |[]=>(jw _).symm
 |a::l=>by rw[bG,cw,hZ R l,R.sz,aS,s5,Nat.one_mul,fu]
def en (R:RW α): ∀a b:List α,bG R (a++b)=bG R a++bG R b
 |[],_=>rfl
 |x::a,b=>by rw[cK,bG,en R a b,bG,aJ]
def cJ {a b} (h:cC a) (k:cC b):cC (a++b):=λe d=>by rw[dG,dG,h e d,k e d]
def ab (R:RW α): ∀l:List α,cC (bG R l)
 |[]=>λ_ _=>rfl
 |a::l=>cJ (R.pure a) (ab R l)
def fZ (R:RW α): ∀l:List α,gJ (bG R l)=true
 |[]=>rfl
 |a::l=>by rw[bG,nS,R.one,fZ R l];rfl
def km (R:RW α) {l:List α} {k:Nat} (hk:k<ln l):bG R l=bG R (l.take k)++(R.c l[k]++bG R (l.drop (k+1))):=by
 have h:l=l.take k++(l[k]::l.drop (k+1)):=by rw[<-bh hk,aF]
 rw[show bG R l=bG R (l.take k++(l[k]::l.drop (k+1))) by rw[<-h],en];rfl
def fx (R:RW α) {l:List α} {k:Nat} (hk:k<=ln l):bu (bG R (l.take k))=k*R.n:=by rw[hZ,aO,cq hk]
def sf (R:RW α) (l:List α) {k:Nat} (hk:k<ln l):dk (bG R l) (0+k*R.n) R.n=some (R.c l[k]):=by rw[km R hk,aN,<-fx R (bw hk)];have h:=eY (bG R (l.take k)) (R.c l[k]) (bG R (l.drop (k+1)));rw[R.sz] at h;exact h
def MZ {l m r i n o k} (h1:dk l i n=some m) (h2:dk m o k=some r):dk l (i+o) k=some r:=by
 obtain⟨a,b,rfl,d,_⟩:=gr h1;obtain⟨x,y,rfl,g,f⟩:=gr h2;have e:a++(x++(r++y)++b)=(a++x)++(r++(y++b)):=by simp[aJ]
 rw[e,<-d,<-g,<-f,<-cw];exact eY _ _ _
def kN (R:RW α) (l:List α) {k:Nat} (hk:k<=ln l):dk (bG R l) 0 (k*R.n)=some (bG R (l.take k)):=by have h:=eY [] (bG R (l.take k)) (bG R (l.drop k));rw[fx R hk,ge,<-en,aF] at h;exact h
def gQ (R:RW α) (l:List α):dk (bG R l) 0 (ln l*R.n)=some (bG R l):=by have h:=kN R l (ai _);rwa[bP] at h
def iH (R:RW α) (l:List α) {k:Nat} (hk:k<ln l) (a:α):ga (bG R l) (0+k*R.n) (R.c a)=some (bG R (l.set k a)):=by
 have e:=km R hk;have s:bu (bG R (l.take k))=0+k*R.n:=by rw[fx R (bw hk),aN]
 rw[e,<-s,jt (bG R (l.take k)) (R.c l[k]) (bG R (l.drop (k+1))) (R.c a) ((R.sz a).trans (R.sz l[k]).symm),cZ,if_pos hk,en];rfl
structure OL (α:Type) where
 l:List α
 nl:Bool
 cap:Nat
 ok:bZ nl (ln l) cap
def OL.sl (o:OL α) (b:Nat):SV:= .c (.sli o.nl b 0 (ln o.l) o.cap o.ok)
def OL.t (o:OL α) (b:Nat):T1:= .c (.sli o.nl b 0 (ln o.l) o.cap o.ok)
def OL.ch (o:OL α) (b:Nat):C:= .sli o.nl b 0 (ln o.l) o.cap o.ok
def OL.blk (o:OL α) (R:RW α) (t:TypeId):aY:=⟨.t t,o.nl,bG R o.l,(o.cap-ln o.l)*R.n⟩
def OL.none:OL α:=⟨[],true,0,ai _,dc,fr⟩
def OL.new (o:OL α) (R:RW α) t:CW (o.blk R t):=by
 refine⟨ab R o.l,?_⟩
 cases h:o.nl with
 |false=>exact .inl h
 |true=>right;have e:=o.ok.1;have d:=o.ok.2.2 h;have:o.l=[]:=aU om;unfold OL.blk aY.void;rw[h,this];rfl
def OL.app (o:OL α) (R:RW α) t {m lim} (hm:(ln o.l+m)*R.n<=lim):TyX.t t= .t t/\o.nl=o.nl/\bu (bG R o.l)=ln o.l*R.n/\(o.nl=false->bu (bG R o.l)+(o.cap-ln o.l)*R.n=o.cap*R.n)/\(ln o.l+m)*R.n<=lim:=by have d:bu (bG R o.l)=ln o.l*R.n:=hZ R o.l;refine⟨rfl,rfl,d,λ_=> ?_,hm⟩;rw[d,<-s5];have:=o.ok.1;congr 1;omega
def OL.push (o:OL α) (m:List α) {n} (e:ln m=n) d (h2:bZ (o.nl&&decide (n=0)) (ln o.l+n) d):OL α:=⟨o.l++m,o.nl&&decide (n=0),d,by rw[aa,e];exact h2⟩
def OL.push_sl (o:OL α) (m:List α) {n} (e:ln m=n) d (h2:bZ (o.nl&&decide (n=0)) (ln o.l+n) d) b ρ:(SV.c (.sli (o.nl&&decide (n=0)) b 0 (ln o.l+n) d h2)).den ρ=((o.push m e d h2).sl b).den ρ:=by simp only[OL.sl,OL.push,SV.den,C.den,C.cells,aa,e]
def OL.push_blk (o:OL α) (R:RW α) t (m:List α) {n} (e:ln m=n) d (h2:bZ (o.nl&&decide (n=0)) (ln o.l+n) d) {cs} (f: ∀ρ,af ρ cs=af ρ (bG R m)): TyX.t t=((o.push m e d h2).blk R t).ty/\(o.nl&&decide (n=0))=((o.push m e d h2).blk R t).ro/\(d-(ln o.l+n))*R.n=((o.push m e d h2).blk R t).tl/\ ∀ρ,af ρ (bG R o.l++cs)=af ρ ((o.push m e d h2).blk R t).cs:=by refine⟨rfl,rfl,?_,λρ=> ?_⟩;simp only[OL.push,OL.blk,aa,e];show _=af ρ (bG R (o.l++m));rw[en,bp,bp,f]
def OL.put (o:OL α) (k:Nat) (a:α):OL α:=⟨o.l.set k a,o.nl,o.cap,by rw[aZ];exact o.ok⟩
def OL.put_sl (o:OL α) k (a:α) b ρ:(o.sl b).den ρ=((o.put k a).sl b).den ρ:=by simp only[OL.sl,OL.put,SV.den,C.den,C.cells,aZ]
def OL.put_tl (o:OL α) k (a:α) (R:RW α) t:(o.blk R t).tl=((o.put k a).blk R t).tl:=by simp only[OL.put,OL.blk,aZ]
def OL.made (l:List α) nl cap (ok:bZ nl (ln l) cap):OL α:=⟨l,nl,cap,ok⟩
end
section
structure LI (α:Type) where
 s:SW
 l:List α
 hn:s.n=ln l
variable {α:Type}
def iX:RW (LI α):=⟨λx=>[x.s.v],1,fr,λ_ _ _=>rfl,fr⟩
def InL (R:RW α) (fam:List mq) (x:LI α):Prop:=x.l=[]\/ ∃r o,x.s.a=some ⟨r,o,none⟩/\pg fam (r,o) (bG R x.l)
def InL.mono {R:RW α} {a b:List mq} (h:m3 a b) {x:LI α} (k:InL R a x):InL R b x:=by rcases k with k|⟨r,o,k1,k2⟩;exact .inl k;exact .inr ⟨r,o,k1,h.inF k2⟩
def OL.li (o:OL α) (r:Nat):LI α:=⟨⟨jK o.nl ⟨r,0,Option.none⟩,ln o.l,o.cap⟩,o.l,rfl⟩
def OL.li_in {o:OL α} {R:RW α} {fam:List mq} {r:Nat} (h:bG R o.l=[]\/pg fam (r,0) (bG R o.l)) (e:0<R.n):InL R fam (o.li r):=by
 cases hn:o.nl with
 |true=>left;have f:=o.ok.1;have d:=o.ok.2.2 hn;exact aU (by show (ln o.l)=0;omega)
 |false=>rcases h with h|h;left;show o.l=[];have:=hZ R o.l;rw[h] at this;have d:ln o.l*R.n=0:=this.symm;exact aU ((Nat.mul_eq_zero.1 d).resolve_right om);refine .inr ⟨r,0,?_,h⟩;show jK o.nl ⟨r,0,Option.none⟩=_;rw[hn];rfl
def OL.nil_cs {o:OL α} {R:RW α} (h:o.nl=true):bG R o.l=[]:=by have e:=o.ok.1;have d:=o.ok.2.2 h;rw[aU (show (ln o.l)=0 by omega)];rfl
def bU:RW TR:=⟨qd,9,fr,λ_ _ _=>rfl,fr⟩
def fp:RW PT:=⟨mK,3,fr,λ_ _ _=>rfl,fr⟩
def lH: ∀l:List TR,fy l=bG bU l
 |[]=>rfl
 |t::l=>by rw[fy,lH l];rfl
end
section
variable {α:Type}
def mj (R:RW α) (cs:List C) (off:Nat) (l:List α):Prop:= ∃X Y,cs=X++(bG R l++Y)/\bu X=off
def mj.self (R:RW α) (l:List α):mj R (bG R l) 0 l:=⟨[],[],sp,rfl⟩
def mj.get {R:RW α} {cs:List C} {off:Nat} {l:List α} (h:mj R cs off l) {k:Nat} (hk:k<ln l):dk cs (off+k*R.n) R.n=some (R.c l[k]):=by
 obtain⟨X,Y,rfl,rfl⟩:=h;rw[km R hk];have e:X++((bG R (l.take k)++(R.c l[k]++bG R (l.drop (k+1))))++Y)=(X++bG R (l.take k))++(R.c l[k]++(bG R (l.drop (k+1))++Y)):=by simp[List.append_assoc]
 rw[e,<-fx R (bw hk),<-cw];have h:=eY (X++bG R (l.take k)) (R.c l[k]) (bG R (l.drop (k+1))++Y);rw[R.sz] at h;exact h
def mj.all {R:RW α} {cs:List C} {off:Nat} {l:List α} (h:mj R cs off l):dk cs off (ln l*R.n)=some (bG R l):=by obtain⟨X,Y,rfl,rfl⟩:=h;have h:=eY X (bG R l) Y;rw[hZ] at h;exact h
def mj.take {R:RW α} {cs:List C} {off:Nat} {l:List α} (h:mj R cs off l) (k:Nat):mj R cs off (l.take k):=by obtain⟨X,Y,rfl,rfl⟩:=h;refine⟨X,bG R (l.drop k)++Y,?_,rfl⟩;rw[<-List.append_assoc (bG R (l.take k)),<-en,List.take_append_drop]
def mj.drop {R:RW α} {cs:List C} {off:Nat} {l:List α} (h:mj R cs off l) {k:Nat} (hk:k<=ln l):mj R cs (off+k*R.n) (l.drop k):=by obtain⟨X,Y,rfl,rfl⟩:=h;refine⟨X++bG R (l.take k),Y,?_,?_⟩;rw[List.append_assoc,<-List.append_assoc (bG R (l.take k)),<-en,List.take_append_drop];rw[cw,fx R hk]
def mj.from {R:RW α} {cs:List C} {off:Nat} {l:List α} (h:mj R cs off l) {k m:Nat} (hk:k<=ln l) (hm:ln l<=m):mj R cs (gP off R.n k m) (l.drop k):=by
 cases k with
 |zero=>exact h.drop (ah _)|>λh=>(by rw[jw,fM] at h;exact h)
 |succ k=>show mj R cs (if m=k+1 then off else off+(k+1)*R.n) _;split;rename_i e;have d:l.drop (k+1)=[]:=ky om;rw[d];obtain⟨X,Y,rfl,rfl⟩:=h;exact⟨X,bG R l++Y,rfl,rfl⟩;exact h.drop hk
def mj.own (R:RW α) (o:OL α) t:mj R (o.blk R t).cs 0 o.l:=mj.self R o.l
def mj.get2 {R:RW α} {cs:List C} {off:Nat} {l:List α} (h:mj R cs off l) {k o n:Nat} (ho:o=off+k*R.n) (hn:n=R.n) (hk:k<l.length):dk cs o n=some (R.c l[k]):=by
 subst ho hn;exact h.get hk
def mj.part2 {R:RW α} {cs:List C} {off:Nat} {l:List α} (h:mj R cs off l) {k o i n:Nat} (ho:o=off+k*R.n+i) (hk:k<l.length) {r:List C} (hr:dk (R.c l[k]) i n=some r):dk cs o n=some r:=by
 subst ho;exact MZ (h.get hk) hr
end
structure OT where
 l:List TR
 nl:Bool
 cap:Nat
 ok:bZ nl (ln l) cap
def OT.sl (o:OT) (b:Nat):SV:= .c (.sli o.nl b 0 (ln o.l) o.cap o.ok)
def OT.blk (o:OT):aY:=⟨58,o.nl,fy o.l,(o.cap-ln o.l)*9⟩
def OT.none:OT:=⟨[],true,0,by unfold bZ;decide⟩
def OT.new (o:OT):CW o.blk:=by
 refine⟨lC o.l,?_⟩
 cases h:o.nl with
 |false=>exact .inl h
 |true=>right;have e:=o.ok.1;have d:=o.ok.2.2 h;have:o.l=[]:=aU om;unfold OT.blk aY.void;rw[h,this];rfl
def OT.app (o:OT) {m} (hm:(ln o.l+m)*9<=5000000000000):o.blk.ty= 58 /\o.blk.ro=o.nl/\bu o.blk.cs=ln o.l*9/\(o.nl=false->bu o.blk.cs+o.blk.tl=o.cap*9)/\(ln o.l+m)*9<=5000000000000:=by
 have d:bu o.blk.cs=ln o.l*9:=by show bu (fy o.l)=_;rw[wG];omega
 refine⟨rfl,rfl,d,λ_=> ?_,hm⟩;rw[d];show (ln o.l)*9+(o.cap-ln o.l)*9=o.cap*9;have:=o.ok.1;omega
def OT.push (o:OT) (m:List TR) {n:Nat} (e:ln m=n) (d:Nat) (h2:bZ (o.nl&&decide (n=0)) (ln o.l+n) d):OT:=⟨o.l++m,o.nl&&decide (n=0),d,by rw[aa,e];exact h2⟩
def OT.push_sl (o:OT) m {n} (e:ln m=n) d (h2:bZ (o.nl&&decide (n=0)) (ln o.l+n) d) b ρ:(SV.c (.sli (o.nl&&decide (n=0)) b 0 (ln o.l+n) d h2)).den ρ=((o.push m e d h2).sl b).den ρ:=by simp only[OT.sl,OT.push,SV.den,C.den,C.cells,aa,e]
def OT.push_blk (o:OT) m {n} (e:ln m=n) d (h2:bZ (o.nl&&decide (n=0)) (ln o.l+n) d) {cs} (f: ∀ρ,af ρ cs=af ρ (fy m)): 58 =(o.push m e d h2).blk.ty/\(o.nl&&decide (n=0))=(o.push m e d h2).blk.ro/\(d-(ln o.l+n))*9=(o.push m e d h2).blk.tl/\ ∀ρ,af ρ (fy o.l++cs)=af ρ (o.push m e d h2).blk.cs:=by refine⟨rfl,rfl,?_,λρ=> ?_⟩;simp only[OT.push,OT.blk,aa,e];show _=af ρ (fy (o.l++m));rw[xy,bp,bp,f]
section
variable {p q:PT} {k cap:Nat} {cs:List C}
def eN (p q:PT):Bool:=decide (p.x=q.x)&&(decide (p.y=q.y)&&decide (p.z=q.z))
def xi (f g i d e h:Int):Bool:=cond (!decide (f=d)) (decide (f<d)) (cond (!decide (g=e)) (decide (g<e)) (decide (i<h)))
def eh (p q:PT):Bool:=xi p.x p.y p.z q.x q.y q.z
def LtP (p q:PT):Prop:=p.x<q.x\/(p.x=q.x/\(p.y<q.y\/(p.y=q.y/\p.z<q.z)))
def v7 p q:eh p q=true↔LtP p q:=by unfold eh xi LtP;by_cases hx:p.x=q.x;by_cases hy:p.y=q.y;simp[hx,hy];simp[hx,hy];simp[hx]
def PT.ext' (hx:p.x=q.x) (hy:p.y=q.y) (d:p.z=q.z):p=q:=by cases p;cases q;simp only at hx hy d;subst hx hy d;rfl
def jV p q:eN p q=true↔p=q:=by unfold eN;simp only[aG,decide_eq_true_eq];exact⟨λ⟨a,b,c⟩=>PT.ext' a b c,λh=>by subst h;exact⟨rfl,rfl,rfl⟩⟩
def JJ {r} (h:eh p q=true) (h':eh q r=true):eh p r=true:=by rw[v7] at*;unfold LtP at*;omega
def ST (h:eh p q=false) (e:p≠q):eh q p=true:=by
 have g: ¬LtP p q:=λd=>by rw[(v7 p q).2 d] at h;cases h
 have f: ¬(p.x=q.x/\p.y=q.y/\p.z=q.z):=λ⟨a,b,c⟩=>e (PT.ext' a b c);rw[v7];unfold LtP at*;omega
def PW (l:List PT):Prop:=l.Pairwise λp q=>eh p q=true
def a3c {l} (h:PW l) {i j} (hi:i<ln l) (hj:j<ln l) (d:i<j):eh l[i] l[j]=true:=a3J.1 h i j hi hj d
def MU {l} (h:PW l) (hk:k<=ln l) (h1: ∀i (hi:i<ln l),i<k->eh l[i] p=true) (h2: ∀hk:k<ln l,eh p l[k]=true):PW (l.take k++p::l.drop k):=by
 unfold PW;rw[List.pairwise_append,a0s];have o: ∀x∈l.drop k,eh p x=true:=λx g=>by obtain⟨i,hi,rfl⟩:=ns g;(have d:k+i<ln l:=by simp at hi;omega);rw[List.getElem_drop];have hkl:k<ln l:=om;by_cases h0:i=0;subst h0;exact h2 hkl;exact JJ (h2 hkl) (a3c h hkl d om)
 have m: ∀x∈l.take k,eh x p=true:=λx g=>by obtain⟨i,hi,rfl⟩:=ns g;(have d:i<k/\i<ln l:=by simp at hi;omega);rw[List.getElem_take];exact h1 i d.2 d.1
 have e:PW (l.take k++l.drop k):=by rw[aF];exact h
 unfold PW at e;rw[List.pairwise_append] at e;refine⟨e.1,⟨o,e.2.1⟩,λa j b f=> ?_⟩;rcases br.1 f with rfl|f;exact m a j;exact e.2.2 a j b f
def Mc {l:List PT} :q∈l.take k++p::l.drop k↔q=p\/q∈l:=by
 conv=>rhs;rhs;rw[<-aF k l]
 simp only[aT,br];constructor;rintro(h|rfl|h);exact .inr (.inl h);exact .inl rfl;exact .inr (.inr h);rintro(rfl|h|h);exact .inr (.inl rfl);exact .inl h;exact .inr (.inr h)
def pk (t:TR):List PT:=[t.a,t.b,t.c]
def cor (l:List TR):List PT:=l.flatMap pk
def fm:List PT->List C
 |[]=>[]
 |p::l=>mK p++fm l
def kj: ∀l:List PT,bu (fm l)=3*ln l
 |[]=>rfl
 |_::l=>by rw[fm,cw,kj l,aS];show 3+_=_;omega
def jq: ∀a b:List PT,fm (a++b)=fm a++fm b
 |[],_=>rfl
 |_::l,b=>by rw[cK,fm,jq l b,fm,aJ]
def fL: ∀l:List PT,cC (fm l)
 |[]=>λ_ _=>rfl
 |_::l=>cL ff (fL l)
def mS: ∀l:List PT,gJ (fm l)=true
 |[]=>rfl
 |_::l=>by rw[fm,nS,mS l];rfl
def ib l (hk:k<ln l):dk (fm l) (k*3) 3=some (mK l[k]):=by
 have e:fm l=fm (l.take k)++(mK l[k]++fm (l.drop (k+1))):=by (have h:l=l.take k++(l[k]::l.drop (k+1)):=by rw[<-bh hk,aF]);rw[show fm l=fm (l.take k++(l[k]::l.drop (k+1))) by rw[<-h],jq];rfl
 have s:bu (fm (l.take k))=k*3:=by rw[kj];simp;omega
 rw[e,<-s];exact eY _ (mK l[k]) _
def sN l (hk:k<=ln l):dk (fm l) 0 (k*3)=some (fm (l.take k)):=by have h:=eY [] (fm (l.take k)) (fm (l.drop k));rw[kj,aO,cq hk,ge,<-jq,aF,eI] at h;exact h
def sM l (hk:k<=ln l) (d:ln l<=cap):dk (fm l) (gP 0 3 k cap) ((ln l-k)*3)=some (fm (l.drop k)):=by
 have h:=eY (fm (l.take k)) (fm (l.drop k)) [];rw[bk,<-jq,aF,kj,kj,aO,cq hk,bN] at h
 cases k with
 |zero=>simpa[gP,eI] using h
 |succ k=>show dk (fm l) (if cap=k+1 then 0 else 0+(k+1)*3) _=_;split;rename_i e;have:ln l=k+1:=om;rw[this,kz,jw,HO,ky om];rfl;rw[aN,eI (k+1),eI (ln l-(k+1))];exact h
structure OP where
 l:List PT
 nl:Bool
 cap:Nat
 ok:bZ nl (ln l) cap
def OP.sl (o:OP) (b:Nat):SV:= .c (.sli o.nl b 0 (ln o.l) o.cap o.ok)
def OP.blk (o:OP):aY:=⟨33,o.nl,fm o.l,(o.cap-ln o.l)*3⟩
def OP.none:OP:=⟨[],true,0,by unfold bZ;decide⟩
def OP.new (o:OP):CW o.blk:=by
 refine⟨fL o.l,?_⟩
 cases h:o.nl with
 |false=>exact .inl h
 |true=>right;have e:=o.ok.1;have d:=o.ok.2.2 h;have:o.l=[]:=aU om;unfold OP.blk aY.void;rw[h,this];rfl
def OP.app (o:OP) {m} (hm:(ln o.l+m)*3<=17592186044416):o.blk.ty= 33 /\o.blk.ro=o.nl/\bu o.blk.cs=ln o.l*3/\(o.nl=false->bu o.blk.cs+o.blk.tl=o.cap*3)/\(ln o.l+m)*3<=17592186044416:=by
 have d:bu o.blk.cs=ln o.l*3:=by show bu (fm o.l)=_;rw[kj];omega
 refine⟨rfl,rfl,d,λ_=> ?_,hm⟩;rw[d];show (ln o.l)*3+(o.cap-ln o.l)*3=o.cap*3;have:=o.ok.1;omega
def OP.push (o:OP) (m:List PT) {n:Nat} (e:ln m=n) (d:Nat) (h2:bZ (o.nl&&decide (n=0)) (ln o.l+n) d):OP:=⟨o.l++m,o.nl&&decide (n=0),d,by rw[aa,e];exact h2⟩
def OP.push_sl (o:OP) m {n} (e:ln m=n) d (h2:bZ (o.nl&&decide (n=0)) (ln o.l+n) d) b ρ:(SV.c (.sli (o.nl&&decide (n=0)) b 0 (ln o.l+n) d h2)).den ρ=((o.push m e d h2).sl b).den ρ:=by simp only[OP.sl,OP.push,SV.den,C.den,C.cells,aa,e]
def OP.push_blk (o:OP) m {n} (e:ln m=n) d (h2:bZ (o.nl&&decide (n=0)) (ln o.l+n) d) (f: ∀ρ,af ρ cs=af ρ (fm m)): 33 =(o.push m e d h2).blk.ty/\(o.nl&&decide (n=0))=(o.push m e d h2).blk.ro/\(d-(ln o.l+n))*3=(o.push m e d h2).blk.tl/\ ∀ρ,af ρ (fm o.l++cs)=af ρ (o.push m e d h2).blk.cs:=by refine⟨rfl,rfl,?_,λρ=> ?_⟩;simp only[OP.push,OP.blk,aa,e];show _=af ρ (fm (o.l++m));rw[jq,bp,bp,f]
structure ED where
 a:PT
 b:PT
def Oh (e:ED):List C:=[.int e.a.x e.a.hx,.int e.a.y e.a.hy,.int e.a.z e.a.hz,.int e.b.x e.b.hx,.int e.b.y e.b.hy,.int e.b.z e.b.hz]
def gK:List ED->List C
 |[]=>[]
 |p::l=>Oh p++gK l
def lg: ∀l:List ED,bu (gK l)=6*ln l
 |[]=>rfl
 |_::l=>by rw[gK,cw,lg l,aS];show 6+_=_;omega
def kg: ∀a b:List ED,gK (a++b)=gK a++gK b
 |[],_=>rfl
 |_::l,b=>by rw[cK,gK,kg l b,gK,aJ]
def lf: ∀l:List ED,cC (gK l)
 |[]=>λ_ _=>rfl
 |_::l=>cL ff (lf l)
def s7: ∀l:List ED,gJ (gK l)=true
 |[]=>rfl
 |_::l=>by rw[gK,nS,s7 l];rfl
def UE l (hk:k<ln l):dk (gK l) (k*6) 6=some (Oh l[k]):=by
 have e:gK l=gK (l.take k)++(Oh l[k]++gK (l.drop (k+1))):=by (have h:l=l.take k++(l[k]::l.drop (k+1)):=by rw[<-bh hk,aF]);rw[show gK l=gK (l.take k++(l[k]::l.drop (k+1))) by rw[<-h],kg];rfl
 have s:bu (gK (l.take k))=k*6:=by rw[lg];simp;omega
 rw[e,<-s];exact eY _ (Oh l[k]) _
def Br l (hk:k<=ln l):dk (gK l) 0 (k*6)=some (gK (l.take k)):=by have h:=eY [] (gK (l.take k)) (gK (l.drop k));rw[lg,aO,cq hk,ge,<-kg,aF,eI] at h;exact h
def Bq l (hk:k<=ln l) (d:ln l<=cap):dk (gK l) (gP 0 6 k cap) ((ln l-k)*6)=some (gK (l.drop k)):=by
 have h:=eY (gK (l.take k)) (gK (l.drop k)) [];rw[bk,<-kg,aF,lg,lg,aO,cq hk,bN] at h
 cases k with
 |zero=>simpa[gP,eI] using h
 |succ k=>show dk (gK l) (if cap=k+1 then 0 else 0+(k+1)*6) _=_;split;rename_i e;have:ln l=k+1:=om;rw[this,kz,jw,HO,ky om];rfl;rw[aN,eI (k+1),eI (ln l-(k+1))];exact h
structure OE where
 l:List ED
 nl:Bool
 cap:Nat
 ok:bZ nl (ln l) cap
def OE.sl (o:OE) (b:Nat):SV:= .c (.sli o.nl b 0 (ln o.l) o.cap o.ok)
def OE.blk (o:OE):aY:=⟨186,o.nl,gK o.l,(o.cap-ln o.l)*6⟩
def OE.none:OE:=⟨[],true,0,by unfold bZ;decide⟩
def OE.new (o:OE):CW o.blk:=by
 refine⟨lf o.l,?_⟩
 cases h:o.nl with
 |false=>exact .inl h
 |true=>right;have e:=o.ok.1;have d:=o.ok.2.2 h;have:o.l=[]:=aU om;unfold OE.blk aY.void;rw[h,this];rfl
def OE.app (o:OE) {m} (hm:(ln o.l+m)*6<=5000000000000):o.blk.ty= 186 /\o.blk.ro=o.nl/\bu o.blk.cs=ln o.l*6/\(o.nl=false->bu o.blk.cs+o.blk.tl=o.cap*6)/\(ln o.l+m)*6<=5000000000000:=by
 have d:bu o.blk.cs=ln o.l*6:=by show bu (gK o.l)=_;rw[lg];omega
 refine⟨rfl,rfl,d,λ_=> ?_,hm⟩;rw[d];show (ln o.l)*6+(o.cap-ln o.l)*6=o.cap*6;have:=o.ok.1;omega
def OE.push (o:OE) (m:List ED) {n:Nat} (e:ln m=n) (d:Nat) (h2:bZ (o.nl&&decide (n=0)) (ln o.l+n) d):OE:=⟨o.l++m,o.nl&&decide (n=0),d,by rw[aa,e];exact h2⟩
def OE.push_sl (o:OE) m {n} (e:ln m=n) d (h2:bZ (o.nl&&decide (n=0)) (ln o.l+n) d) b ρ:(SV.c (.sli (o.nl&&decide (n=0)) b 0 (ln o.l+n) d h2)).den ρ=((o.push m e d h2).sl b).den ρ:=by simp only[OE.sl,OE.push,SV.den,C.den,C.cells,aa,e]
def OE.push_blk (o:OE) m {n} (e:ln m=n) d (h2:bZ (o.nl&&decide (n=0)) (ln o.l+n) d) (f: ∀ρ,af ρ cs=af ρ (gK m)): 186 =(o.push m e d h2).blk.ty/\(o.nl&&decide (n=0))=(o.push m e d h2).blk.ro/\(d-(ln o.l+n))*6=(o.push m e d h2).blk.tl/\ ∀ρ,af ρ (gK o.l++cs)=af ρ (o.push m e d h2).blk.cs:=by refine⟨rfl,rfl,?_,λρ=> ?_⟩;simp only[OE.push,OE.blk,aa,e];show _=af ρ (gK (o.l++m));rw[kg,bp,bp,f]
def a7Q {a b d hb} (e:a=b) ρ:(SV.c (.int a d)).den ρ=(SV.c (.int b hb)).den ρ:=by subst e;rfl
def mg {nl n} (h:bZ nl n cap) (hk:k<=n):IR k:=by have:=h.ir;unfold IR at*;omega
def Lz:Dn
 |[.agg [.int x1 _,.int y1 _,.int z1 _],.agg [.int x2 _,.int y2 _,.int z2 _]]=>
  some (none,.c (.val (.bool (xi x1 y1 z1 x2 y2 z2))))
 |_=>none
def Uq:dW prog 103 Lz:=dC (un:=20) (n:=0) ⟨func103,kr,kr⟩ kB bg λr p v d=>by
 unfold Lz at d;split at d;rename_i B j y m z h x f u e A g;cases d;refine⟨[.agg [.int B j,.int y m,.int z h],.agg [.int x f,.int u e,.int A g]],fr,ff,ff,λ_=> ?_⟩;refine zB ?_ ?_<;>intro i;conv=>whnf
 intro s;rw[xi,i];rfl;refine zB ?_ ?_<;>intro o;conv=>whnf
 intro s;rw[xi,i,o];rfl;conv=>whnf
 intro s;rw[xi,i,o];rfl;cases d
def QH:List (FuncId×Dn):=(103,Lz)::base
def kA:dU QH:= .cons Uq<|kB
def Jd:Dn
 |[.agg [.int x1 _,.int y1 _,.int z1 _,.int x2 _,.int y2 _,.int z2 _],.agg [.int u1 _,.int v1 _,.int w1 _,.int u2 _,.int v2 _,.int w2 _]]=>
  some (none,.c (.val (.bool (cond (!(decide (x1=u1)&&(decide (y1=v1)&&decide (z1=w1)))) (xi x1 y1 z1 u1 v1 w1) (xi x2 y2 z2 u2 v2 w2)))))
 |_=>none
def Ys:dW prog 156 Jd:=dC (un:=20) (n:=0) ⟨func156,kr,kr⟩ kA bg λz p v d=>by
 unfold Jd at d;split at d;rename_i N o F r G h D f B e L g M x J j A u I i E m H s;cases d;refine⟨[.agg [.int N o,.int F r,.int G h,.int D f,.int B e,.int L g],.agg [.int M x,.int J j,.int A u,.int I i,.int E m,.int H s]],fr,ff,ff,λ_=> ?_⟩;refine zB ?_ ?_<;>intro y;conv=>whnf
 intro O;rw[y];rfl;conv=>whnf
 intro O;rw[y];rfl;cases d
def a0D:List (FuncId×Dn):=(156,Jd)::QH
def fW:dU a0D:= .cons Ys<|kA
end
def jC (t:TR):TR:=bif eh t.c t.a&&(eh t.c t.b|| !eh t.b t.a) then⟨t.c,t.a,t.b⟩ else bif eh t.b t.a then⟨t.b,t.c,t.a⟩ else t
def MG t:jC t=t\/jC t=⟨t.b,t.c,t.a⟩\/jC t=⟨t.c,t.a,t.b⟩:=by unfold jC;cases eh t.c t.a&&(eh t.c t.b|| !eh t.b t.a);cases eh t.b t.a;exact .inl rfl;exact .inr (.inl rfl);exact .inr (.inr rfl)
def oU {S:PT->Prop} {t:TR} (h:S t.a/\S t.b/\S t.c):S (jC t).a/\S (jC t).b/\S (jC t).c:=by rcases MG t with e|e|e<;>rw[e];exact h;exact⟨h.2.1,h.2.2,h.1⟩;exact⟨h.2.2,h.1,h.2.1⟩
def wF {s t} (h:s=t) ρ:(SV.agg (qd s)).den ρ=(SV.agg (qd t)).den ρ:=by rw[h]
def S2 (s t:TR):Bool:=bif !eN s.a t.a then eh s.a t.a else bif !eN s.b t.b then eh s.b t.b else bif !eN s.c t.c then eh s.c t.c else false
def ss {a b} (e:a=b) ρ:(SV.c (.val (.bool a))).den ρ=(SV.c (.val (.bool b))).den ρ:=by subst e;rfl
def kM {a b d hb} (e:a=b) ρ:(SV.c (.int a d)).den ρ=(SV.c (.int b hb)).den ρ:=by subst e;rfl
def LA:Dn
 |[.agg [.int x1 hx1,.int y1 hy1,.int z1 hz1,.int x2 hx2,.int y2 hy2,.int z2 hz2,.int x3 hx3,.int y3 hy3,.int z3 hz3]]=>
  some (none,.agg (qd (jC (⟨⟨x1,y1,z1,hx1,hy1,hz1⟩,⟨x2,y2,z2,hx2,hy2,hz2⟩,⟨x3,y3,z3,hx3,hy3,hz3⟩⟩:TR))))
 |_=>none
def Uv:dW prog 100 LA:=dC (un:=20) (n:=0) ⟨func100,kr,kr⟩ kA bg λI p v H=>by
 unfold LA at H;split at H;rename_i B k y o z j x e u d A i E h r m D q;cases H;refine⟨[.agg [.int B k,.int y o,.int z j,.int x e,.int u d,.int A i,.int E h,.int r m,.int D q]],fr,ff,ff,λ_=> ?_⟩;refine zB ?_ ?_<;>intro s;have s:eh (⟨⟨B,y,z,k,o,j⟩,⟨x,u,A,e,d,i⟩,⟨E,r,D,h,m,q⟩⟩:TR).c (⟨⟨B,y,z,k,o,j⟩,⟨x,u,A,e,d,i⟩,⟨E,r,D,h,m,q⟩⟩:TR).a=true:=s;refine zB ?_ ?_<;>intro G;have G:eh (⟨⟨B,y,z,k,o,j⟩,⟨x,u,A,e,d,i⟩,⟨E,r,D,h,m,q⟩⟩:TR).c (⟨⟨B,y,z,k,o,j⟩,⟨x,u,A,e,d,i⟩,⟨E,r,D,h,m,q⟩⟩:TR).b=true:=G;conv=>whnf
 exact λF=>wF (s:=⟨(⟨⟨B,y,z,k,o,j⟩,⟨x,u,A,e,d,i⟩,⟨E,r,D,h,m,q⟩⟩:TR).c,(⟨⟨B,y,z,k,o,j⟩,⟨x,u,A,e,d,i⟩,⟨E,r,D,h,m,q⟩⟩:TR).a,(⟨⟨B,y,z,k,o,j⟩,⟨x,u,A,e,d,i⟩,⟨E,r,D,h,m,q⟩⟩:TR).b⟩) (t:=jC (⟨⟨B,y,z,k,o,j⟩,⟨x,u,A,e,d,i⟩,⟨E,r,D,h,m,q⟩⟩:TR)) (by unfold jC;simp only[s,G];rfl) F;have G:eh (⟨⟨B,y,z,k,o,j⟩,⟨x,u,A,e,d,i⟩,⟨E,r,D,h,m,q⟩⟩:TR).c (⟨⟨B,y,z,k,o,j⟩,⟨x,u,A,e,d,i⟩,⟨E,r,D,h,m,q⟩⟩:TR).b=false:=G;refine zB ?_ ?_<;>intro g;have g:(!eh (⟨⟨B,y,z,k,o,j⟩,⟨x,u,A,e,d,i⟩,⟨E,r,D,h,m,q⟩⟩:TR).b (⟨⟨B,y,z,k,o,j⟩,⟨x,u,A,e,d,i⟩,⟨E,r,D,h,m,q⟩⟩:TR).a)=true:=g;conv=>whnf
 exact λF=>wF (s:=⟨(⟨⟨B,y,z,k,o,j⟩,⟨x,u,A,e,d,i⟩,⟨E,r,D,h,m,q⟩⟩:TR).c,(⟨⟨B,y,z,k,o,j⟩,⟨x,u,A,e,d,i⟩,⟨E,r,D,h,m,q⟩⟩:TR).a,(⟨⟨B,y,z,k,o,j⟩,⟨x,u,A,e,d,i⟩,⟨E,r,D,h,m,q⟩⟩:TR).b⟩) (t:=jC (⟨⟨B,y,z,k,o,j⟩,⟨x,u,A,e,d,i⟩,⟨E,r,D,h,m,q⟩⟩:TR)) (by unfold jC;simp only[s,G,g];rfl) F;have g:(!eh (⟨⟨B,y,z,k,o,j⟩,⟨x,u,A,e,d,i⟩,⟨E,r,D,h,m,q⟩⟩:TR).b (⟨⟨B,y,z,k,o,j⟩,⟨x,u,A,e,d,i⟩,⟨E,r,D,h,m,q⟩⟩:TR).a)=false:=g;refine zB ?_ ?_<;>intro f;have f:eh (⟨⟨B,y,z,k,o,j⟩,⟨x,u,A,e,d,i⟩,⟨E,r,D,h,m,q⟩⟩:TR).b (⟨⟨B,y,z,k,o,j⟩,⟨x,u,A,e,d,i⟩,⟨E,r,D,h,m,q⟩⟩:TR).a=true:=f;conv=>whnf
 exact λF=>wF (s:=⟨(⟨⟨B,y,z,k,o,j⟩,⟨x,u,A,e,d,i⟩,⟨E,r,D,h,m,q⟩⟩:TR).b,(⟨⟨B,y,z,k,o,j⟩,⟨x,u,A,e,d,i⟩,⟨E,r,D,h,m,q⟩⟩:TR).c,(⟨⟨B,y,z,k,o,j⟩,⟨x,u,A,e,d,i⟩,⟨E,r,D,h,m,q⟩⟩:TR).a⟩) (t:=jC (⟨⟨B,y,z,k,o,j⟩,⟨x,u,A,e,d,i⟩,⟨E,r,D,h,m,q⟩⟩:TR)) (by unfold jC;simp only[s,G,f];rfl) F;have f:eh (⟨⟨B,y,z,k,o,j⟩,⟨x,u,A,e,d,i⟩,⟨E,r,D,h,m,q⟩⟩:TR).b (⟨⟨B,y,z,k,o,j⟩,⟨x,u,A,e,d,i⟩,⟨E,r,D,h,m,q⟩⟩:TR).a=false:=f;rw[f] at g;cases g;have s:eh (⟨⟨B,y,z,k,o,j⟩,⟨x,u,A,e,d,i⟩,⟨E,r,D,h,m,q⟩⟩:TR).c (⟨⟨B,y,z,k,o,j⟩,⟨x,u,A,e,d,i⟩,⟨E,r,D,h,m,q⟩⟩:TR).a=false:=s;refine zB ?_ ?_<;>intro f;have f:eh (⟨⟨B,y,z,k,o,j⟩,⟨x,u,A,e,d,i⟩,⟨E,r,D,h,m,q⟩⟩:TR).b (⟨⟨B,y,z,k,o,j⟩,⟨x,u,A,e,d,i⟩,⟨E,r,D,h,m,q⟩⟩:TR).a=true:=f;conv=>whnf
 exact λF=>wF (s:=⟨(⟨⟨B,y,z,k,o,j⟩,⟨x,u,A,e,d,i⟩,⟨E,r,D,h,m,q⟩⟩:TR).b,(⟨⟨B,y,z,k,o,j⟩,⟨x,u,A,e,d,i⟩,⟨E,r,D,h,m,q⟩⟩:TR).c,(⟨⟨B,y,z,k,o,j⟩,⟨x,u,A,e,d,i⟩,⟨E,r,D,h,m,q⟩⟩:TR).a⟩) (t:=jC (⟨⟨B,y,z,k,o,j⟩,⟨x,u,A,e,d,i⟩,⟨E,r,D,h,m,q⟩⟩:TR)) (by unfold jC;simp only[s,f];rfl) F;have f:eh (⟨⟨B,y,z,k,o,j⟩,⟨x,u,A,e,d,i⟩,⟨E,r,D,h,m,q⟩⟩:TR).b (⟨⟨B,y,z,k,o,j⟩,⟨x,u,A,e,d,i⟩,⟨E,r,D,h,m,q⟩⟩:TR).a=false:=f;conv=>whnf
 exact λF=>wF (s:=(⟨⟨B,y,z,k,o,j⟩,⟨x,u,A,e,d,i⟩,⟨E,r,D,h,m,q⟩⟩:TR)) (t:=jC (⟨⟨B,y,z,k,o,j⟩,⟨x,u,A,e,d,i⟩,⟨E,r,D,h,m,q⟩⟩:TR)) (by unfold jC;simp only[s,f];rfl) F;cases H
def WH:Dn
 |[.agg [.int xx1 hxx1,.int xy1 hxy1,.int xz1 hxz1,.int xx2 hxx2,.int xy2 hxy2,.int xz2 hxz2,.int xx3 hxx3,.int xy3 hxy3,.int xz3 hxz3],.agg [.int ux1 hux1,.int uy1 huy1,.int uz1 huz1,.int ux2 hux2,.int uy2 huy2,.int uz2 huz2,.int ux3 hux3,.int uy3 huy3,.int uz3 huz3]]=>
  some (none,.c (.val (.bool (S2 (⟨(⟨xx1,xy1,xz1,hxx1,hxy1,hxz1⟩:PT),(⟨xx2,xy2,xz2,hxx2,hxy2,hxz2⟩:PT),(⟨xx3,xy3,xz3,hxx3,hxy3,hxz3⟩:PT)⟩:TR) (⟨(⟨ux1,uy1,uz1,hux1,huy1,huz1⟩:PT),(⟨ux2,uy2,uz2,hux2,huy2,huz2⟩:PT),(⟨ux3,uy3,uz3,hux3,huy3,huz3⟩:PT)⟩:TR)))))
 |_=>none
def a0e:dW prog 143 WH:=dC (un:=20) (n:=0) ⟨func143,kr,kr⟩ kA bg λa0 p v hd=>by
 unfold WH at hd;split at hd;rename_i Q u R g M e J s P k H i D x F z O q B r L f U o T y E d G j V h N A I m;cases hd;refine⟨[.agg [.int Q u,.int R g,.int M e,.int J s,.int P k,.int H i,.int D x,.int F z,.int O q],.agg [.int B r,.int L f,.int U o,.int T y,.int E d,.int G j,.int V h,.int N A,.int I m]],fr,ff,ff,λ_=> ?_⟩;refine zB ?_ ?_<;>intro W;have W:(!eN (⟨Q,R,M,u,g,e⟩:PT) (⟨B,L,U,r,f,o⟩:PT))=true:=W;conv=>whnf
 exact λY=>ss (show eh (⟨Q,R,M,u,g,e⟩:PT) (⟨B,L,U,r,f,o⟩:PT)=S2 (⟨(⟨Q,R,M,u,g,e⟩:PT),(⟨J,P,H,s,k,i⟩:PT),(⟨D,F,O,x,z,q⟩:PT)⟩:TR) (⟨(⟨B,L,U,r,f,o⟩:PT),(⟨T,E,G,y,d,j⟩:PT),(⟨V,N,I,h,A,m⟩:PT)⟩:TR) by unfold S2;rw[W];rfl) Y;have W:(!eN (⟨Q,R,M,u,g,e⟩:PT) (⟨B,L,U,r,f,o⟩:PT))=false:=W;refine zB ?_ ?_<;>intro X;have X:(!eN (⟨J,P,H,s,k,i⟩:PT) (⟨T,E,G,y,d,j⟩:PT))=true:=X;conv=>whnf
 exact λY=>ss (show eh (⟨J,P,H,s,k,i⟩:PT) (⟨T,E,G,y,d,j⟩:PT)=S2 (⟨(⟨Q,R,M,u,g,e⟩:PT),(⟨J,P,H,s,k,i⟩:PT),(⟨D,F,O,x,z,q⟩:PT)⟩:TR) (⟨(⟨B,L,U,r,f,o⟩:PT),(⟨T,E,G,y,d,j⟩:PT),(⟨V,N,I,h,A,m⟩:PT)⟩:TR) by unfold S2;rw[W,X];rfl) Y;have X:(!eN (⟨J,P,H,s,k,i⟩:PT) (⟨T,E,G,y,d,j⟩:PT))=false:=X;refine zB ?_ ?_<;>intro Z;have Z:(!eN (⟨D,F,O,x,z,q⟩:PT) (⟨V,N,I,h,A,m⟩:PT))=true:=Z;conv=>whnf
 exact λY=>ss (show eh (⟨D,F,O,x,z,q⟩:PT) (⟨V,N,I,h,A,m⟩:PT)=S2 (⟨(⟨Q,R,M,u,g,e⟩:PT),(⟨J,P,H,s,k,i⟩:PT),(⟨D,F,O,x,z,q⟩:PT)⟩:TR) (⟨(⟨B,L,U,r,f,o⟩:PT),(⟨T,E,G,y,d,j⟩:PT),(⟨V,N,I,h,A,m⟩:PT)⟩:TR) by unfold S2;rw[W,X,Z];rfl) Y;have Z:(!eN (⟨D,F,O,x,z,q⟩:PT) (⟨V,N,I,h,A,m⟩:PT))=false:=Z;conv=>whnf
 exact λY=>ss (show false=S2 (⟨(⟨Q,R,M,u,g,e⟩:PT),(⟨J,P,H,s,k,i⟩:PT),(⟨D,F,O,x,z,q⟩:PT)⟩:TR) (⟨(⟨B,L,U,r,f,o⟩:PT),(⟨T,E,G,y,d,j⟩:PT),(⟨V,N,I,h,A,m⟩:PT)⟩:TR) by unfold S2;rw[W,X,Z];rfl) Y;cases hd
def Dc:List (FuncId×Dn):=(100,LA)::(143,WH)::QH
def jx:dU Dc:= .cons Uv<| .cons a0e<|kA
def a4i (un:Nat):ic:={vA un Dc with O:=lR qo}
def Gq un:iU prog (a4i un):=⟨(cm jx un).T,(cm jx un).D,gy eD,(cm jx un).R,λ_ _ _ _ h=>(show False from h).elim⟩
def a0U:cP:=λd e K=> ∃f o1 A c1 h1 n2 o2 B c2 h2 t1 t2 csA csB,d=[.c (.sli f 0 o1 (ln A) c1 h1),.c (.sli n2 1 o2 (ln B) c2 h2)]/\e=[⟨.t t1,true,csA,0⟩,⟨.t t2,true,csB,0⟩]/\(cC csA/\cC csB/\mj bU csA o1 A/\mj bU csB o2 B)/\ln A+ln B<=100000/\
 ∀o:OL TR,ln o.l=ln A+ln B->(∀t∈o.l,t∈A\/t∈B)->K (o.sl 2) [o.blk bU 58]
def dH {e:Type} {l:List e} {x y:e} {p:e->Prop} (h: ∀t∈l,p t) (hx:p x) (hy:y∈l++[x]):p y:=by rcases aT.1 hy with d|d;exact h _ d;rw[bq.1 d];exact hx
def Wl:jv prog 121 a0U:=cV (Gq 0) bj (ck (Gq 0) bj bg 0) ⟨func121,kr,kr⟩ λQ W K O=>by
 obtain⟨n1,o1,A,c1,P,n2,o2,B,R,z,t1,Z,a0,D,rfl,rfl,⟨M,L,hA,T⟩,X,O⟩:=O;refine⟨zD,?_⟩;conv=>whnf
 refine zK [0,1,1000+ 58] [0,1,5,6,7] [0,1,2] (G:={p:(Nat×Nat)×OL TR//p.1.1<=ln A/\p.1.2<=ln B/\ln p.2.l=p.1.1+p.1.2/\ ∀t∈p.2.l,t∈A\/t∈B}) (λg=>[(5,g.1.2.sl 2),(6,.c (.int (g.1.1.2:Nat) (aR z g.2.2.1))),(7,.c (.int (g.1.1.1:Nat) (aR P g.2.1)))]) (λg=>[(2,g.1.2.blk bU 58)]) (λg=>ln A-g.1.1.1) ⟨((0,0),OL.none),ah _,ah _,rfl,(λt h=>by cases h)⟩ trivial ?_;rintro ⟨⟨⟨i,j⟩,o⟩,I,d,f,e⟩ vs2;have I:i<=ln A:=I;have d:j<=ln B:=d;have f:ln o.l=i+j:=f;have e: ∀t∈o.l,t∈A\/t∈B:=e;dsimp only;refine zB ?_ ?_<;>intro F;have u:i<ln A:=dL F;conv=>whnf
 refine zK [0,1,2] [0,1,5,6,7] [0,1,2] (G:={p:Nat×OL TR//p.1<=ln B/\ln p.2.l=i+p.1/\ ∀t∈p.2.l,t∈A\/t∈B}) (λg=>[(5,g.1.2.sl 2),(6,.c (.int (g.1.1:Nat) (aR z g.2.1)))]) (λg=>[(2,g.1.2.blk bU 58)]) (λg=>ln B-g.1.1) ⟨(j,o),d,f,e⟩ trivial ?_;rintro ⟨⟨j,o⟩,d,f,e⟩ vs4;have d:j<=ln B:=d;have f:ln o.l=i+j:=f;have e: ∀t∈o.l,t∈A\/t∈B:=e;dsimp only;have H:IR (j:Int):=aR z d;refine zB ?_ ?_<;>intro E;have y:j<ln B:=dL E;refine wM ?_;refine zB ?_ ?_<;>intro s;have s:(!S2 B[j] A[i])=true:=s;refine eS ?_;exact .inl ⟨rfl,o.app bU 58 (m:=1) (by show(ln o.l+1)*9<=5000000000000;omega),λq r=> dD [0,1,4] ⟨((i+1,j),o.push [A[i]] rfl q r),u,d,(by show(o.l++[A[i]]).length=_;rw[aa,f];simp only[qs];omega),(λt x=>dH (p:=λt=>t∈A\/t∈B) e (.inl (ak u)) x)⟩⟩;have s:(!S2 B[j] A[i])=false:=s;refine eS ?_;exact .inl ⟨rfl,o.app bU 58 (m:=1) (by show(ln o.l+1)*9<=5000000000000;omega),λq r=> dD [0,1,4] ⟨(j+1,o.push [B[j]] rfl q r),y,(by show(o.l++[B[j]]).length=_;rw[aa,f];simp only[qs];omega),(λt x=>dH (p:=λt=>t∈A\/t∈B) e (.inr (ak y)) x)⟩⟩;have y: ¬j<ln B:=λh=>absurd (decide_eq_true (Int.ofNat_lt.2 h)) (by rw[show decide ((j:Int)<(ln B:Nat))=false from E];decide);refine eS ?_;exact .inl ⟨rfl,o.app bU 58 (m:=1) (by show(ln o.l+1)*9<=5000000000000;omega),λq r=> dD [0,1,4] ⟨((i+1,j),o.push [A[i]] rfl q r),u,d,(by show(o.l++[A[i]]).length=_;rw[aa,f];simp only[qs];omega),(λt x=>dH (p:=λt=>t∈A\/t∈B) e (.inl (ak u)) x)⟩⟩;have J:ln A<=i:=gi F;obtain rfl:i=ln A:=bo I J;have H:IR (j:Int):=aR z d;conv=>whnf
 conv=>arg 2;tactic'=>exact fO (k:=j) (hi:=H) rfl rfl rfl rfl d
 conv=>whnf
 have N:dk D (gP o2 9 j R) ((ln B-j)*9)=some (bG bU (B.drop j)):=by have h:=(T.from d z.1).all;rw[bN] at h;exact h
 left;conv=>whnf
 rw[show dk (⟨.t Z,true,D,0⟩:aY).cs (gP o2 9 j R) ((ln B-j)*9)=_ from N];exact⟨fZ bU _,o.app bU 58 (m:=ln B-j) (by show(ln o.l+(ln B-j))*9<=5000000000000;omega),λq r=>⟨[0,1,3],[0,1,2],λY=>⟨M,L,cJ (ab bU _) (ab bU _),_,[(o.push (B.drop j) (n:=ln B-j) bN q r).blk bU 58],rfl,⟨⟨rfl,rfl,rfl,fr⟩,⟨rfl,rfl,rfl,fr⟩,o.push_blk bU 58 (n:=ln B-j) (B.drop j) bN q r fr,trivial⟩,⟨OL.new _ bU _,trivial⟩,(o.push (B.drop j) (n:=ln B-j) bN q r).sl 2,λU=>o.push_sl (n:=ln B-j) (B.drop j) bN q r 2 U,O _ (by show(o.l++B.drop j).length=_;rw[aa,f,bN];omega) (λt x=>(aT.1 x).elim (e t) λh=> .inr (sX h))⟩⟩⟩
def a4j (un:Nat):ic:={vA un Dc with O:=lR qo,ord:=λn=>n==4}
def ot un:iU prog (a4j un):=⟨(cm jx un).T,(cm jx un).D,gy eD,(cm jx un).R,λ_ _ _ _ h=>(show False from h).elim⟩
def Lm (n:Nat):cP:=λd f K=> ∃e off A c h t cs,d=[.c (.sli e 0 off (ln A) c h)]/\f=[⟨.t t,true,cs,0⟩]/\(cC cs/\mj bU cs off A)/\ln A<=n+1/\ln A<=100000/\
 K (.c (.sli e 0 off (ln A) c h)) []/\ ∀o:OL TR,ln o.l=ln A->(∀t∈o.l,t∈A)->K (o.sl 1) [o.blk bU 58]
def LT {n} (h:n<=100000):IR ((n/2:Nat):Int):=ui
def Xe {n:Nat}:((n:Int).tdiv 2)=((n/2:Nat):Int):=rfl
def YX {n:Nat} (h:n<=100000):IntKind.i64.wrap ((n:Int).tdiv 2)=((n/2:Nat):Int):=by rw[Xe,cN (LT h)]
def Ud {nl b off n m cap h h'} (e:n=m):SV.c (.sli nl b off n cap h)=SV.c (.sli nl b off m cap h'):=by subst e;rfl
def L5 {a b d hb} (e:a=b):SV.c (.int a d)=SV.c (.int b hb):=by subst e;rfl
def Ws:jv prog 101 (Lm 0):=cV (ot 0) bj (ck (ot 0) bj bg 0) ⟨func101,kr,kr⟩ λi j K m=>by
 obtain⟨p,g,A,c,h,t,r,rfl,rfl,⟨k,q⟩,d,_,f,-⟩:=m;refine⟨zD,?_⟩;refine zB ?_ ?_<;>intro e;have e:ln A<2:=by have:=of_decide_eq_true e;omega
 exact⟨[0],[0],λo=>by refine⟨k,?_⟩;exact⟨_,[],rfl,gz _,trivial,.c (.sli p 0 g (ln A) c h),fr,f⟩⟩;have e:2<=ln A:=by have:=of_decide_eq_false e;omega
 exact absurd d om
def Wt (n:Nat) (ih:jv prog 101 (Lm n)):jv prog 101 (Lm (n+1)):=cV (ot 0) bj (dX (.cons Wl (.cons ih .nil)) (ck (ot 0) bj bg 0)) ⟨func101,by kernel_rfl,by kernel_rfl⟩ λargs ros K hc=>by
 obtain⟨nl,off,A,c,h,t,cs,rfl,rfl,⟨hp,hA⟩,hlen,hbig,hc0,hc⟩:=hc;refine⟨zD,?_⟩;refine zB ?_ ?_<;>intro h2;have h2:ln A<2:=by have:=of_decide_eq_true h2;omega
 exact⟨[0],[0],λvs9=>by refine⟨hp,?_⟩;exact⟨_,[],rfl,⟨⟨rfl,rfl,rfl,λ_=>rfl⟩,trivial⟩,trivial,.c (.sli nl 0 off (ln A) c h),λ_=>rfl,hc0⟩⟩;have h2:2<=ln A:=by have:=of_decide_eq_false h2;omega
 obtain⟨m,hm⟩: ∃m,m=ln A/2:=⟨_,rfl⟩;have hmi:IR (m:Int):=by rw[hm];exact LT hbig
 have hme:IntKind.i64.wrap (((ln A:Nat):Int).tdiv 2)=(m:Int):=by rw[hm];exact YX hbig
 have hm1:m<ln A:=by omega
 have hm0:0<m:=by omega
 obtain⟨A1,hA1⟩: ∃A1,A1=A.take m:=⟨_,rfl⟩;have l1:ln A1=m:=by rw[hA1,aO];omega
 have a1:mj bU cs off A1:=by rw[hA1];exact hA.take m
 obtain⟨A2,hA2⟩: ∃A2,A2=A.drop m:=⟨_,rfl⟩;have l2:ln A2=ln A-m:=by rw[hA2,bN]
 have a2:mj bU cs (gP off 9 m c) A2:=by rw[hA2];exact hA.from (by omega) h.1
 have m1: ∀t∈A1,t∈A:=λt ht=>by rw[hA1] at ht;exact sY ht
 have m2: ∀t∈A2,t∈A:=λt ht=>by rw[hA2] at ht;exact sX ht
 conv=>whnf
 conv=>arg 2;tactic'=>exact fN (k:=m) (hi:=hmi) rfl rfl rfl (L5 hme) (by exact(by have:=h.1;omega)) (by exact gL h (by omega))
 conv=>whnf
 conv=>arg 2;tactic'=>exact fO (k:=m) (hi:=hmi) rfl rfl rfl (L5 hme) (by exact(by omega))
 refine⟨?_,trivial⟩;refine⟨⟨hp,trivial⟩,nl,off,A1,c,(show bZ nl (ln A1) c by rw[l1];exact gL h (by omega)),_,cs,congrArg (λv=>[v]) (Ud l1.symm),rfl,⟨hp,a1⟩,(by omega),(by omega),?_,λo1 k1 q1=> ?_⟩;refine⟨⟨hp,trivial⟩,nl,gP off 9 m c,A2,c-m,(show bZ nl (ln A2) (c-m) by rw[l2];exact h.sub ⟨by omega,h.1,ai _⟩),_,cs,congrArg (λv=>[v]) (Ud l2.symm),rfl,⟨hp,a2⟩,(by omega),(by omega),?_,λo2 k2 q2=> ?_⟩;refine⟨⟨hp,hp,trivial⟩,nl,off,A1,c,(show bZ nl (ln A1) c by rw[l1];exact gL h (by omega)),nl,gP off 9 m c,A2,c-m,(show bZ nl (ln A2) (c-m) by rw[l2];exact h.sub ⟨by omega,h.1,ai _⟩),_,_,_,_,rfl,rfl,⟨hp,hp,a1,a2⟩,(by omega),λo k q=> ?_⟩;refine⟨[0,1],[0,1],λvs9=> ?_⟩;refine⟨hp,ab bU _,?_⟩;exact⟨_,[o.blk bU 58],rfl,⟨⟨rfl,rfl,rfl,λ_=>rfl⟩,⟨rfl,rfl,rfl,λ_=>rfl⟩,trivial⟩,⟨OL.new _ bU _,trivial⟩,o.sl 1,λ_=>rfl,hc o (by omega) (λt ht=>(q t ht).elim (λz=>m1 t z) (λz=>m2 t z))⟩;refine⟨⟨hp,ab bU _,trivial⟩,nl,off,A1,c,(show bZ nl (ln A1) c by rw[l1];exact gL h (by omega)),o2.nl,0,o2.l,o2.cap,o2.ok,_,_,_,_,rfl,rfl,⟨hp,ab bU _,a1,mj.self bU o2.l⟩,(by omega),λo k q=> ?_⟩;refine⟨[0,2],[0,1],λvs9=> ?_⟩;refine⟨hp,ab bU _,?_⟩;exact⟨_,[o.blk bU 58],rfl,⟨⟨rfl,rfl,rfl,λ_=>rfl⟩,⟨rfl,rfl,rfl,λ_=>rfl⟩,trivial⟩,⟨OL.new _ bU _,trivial⟩,o.sl 1,λ_=>rfl,hc o (by omega) (λt ht=>(q t ht).elim (λz=>m1 t z) (λz=>m2 t (q2 t z)))⟩;refine⟨⟨hp,trivial⟩,nl,gP off 9 m c,A2,c-m,(show bZ nl (ln A2) (c-m) by rw[l2];exact h.sub ⟨by omega,h.1,ai _⟩),_,cs,congrArg (λv=>[v]) (Ud l2.symm),rfl,⟨hp,a2⟩,(by omega),(by omega),?_,λo2 k2 q2=> ?_⟩;refine⟨⟨ab bU _,hp,trivial⟩,o1.nl,0,o1.l,o1.cap,o1.ok,nl,gP off 9 m c,A2,c-m,(show bZ nl (ln A2) (c-m) by rw[l2];exact h.sub ⟨by omega,h.1,ai _⟩),_,_,_,_,rfl,rfl,⟨ab bU _,hp,mj.self bU o1.l,a2⟩,(by omega),λo k q=> ?_⟩;refine⟨[0,2],[0,1],λvs9=> ?_⟩;refine⟨hp,ab bU _,?_⟩;exact⟨_,[o.blk bU 58],rfl,⟨⟨rfl,rfl,rfl,λ_=>rfl⟩,⟨rfl,rfl,rfl,λ_=>rfl⟩,trivial⟩,⟨OL.new _ bU _,trivial⟩,o.sl 1,λ_=>rfl,hc o (by omega) (λt ht=>(q t ht).elim (λz=>m1 t (q1 t z)) (λz=>m2 t z))⟩;refine⟨⟨ab bU _,ab bU _,trivial⟩,o1.nl,0,o1.l,o1.cap,o1.ok,o2.nl,0,o2.l,o2.cap,o2.ok,_,_,_,_,rfl,rfl,⟨ab bU _,ab bU _,mj.self bU o1.l,mj.self bU o2.l⟩,(by omega),λo k q=> ?_⟩;refine⟨[0,3],[0,1],λvs9=> ?_⟩;refine⟨hp,ab bU _,?_⟩;exact⟨_,[o.blk bU 58],rfl,⟨⟨rfl,rfl,rfl,λ_=>rfl⟩,⟨rfl,rfl,rfl,λ_=>rfl⟩,trivial⟩,⟨OL.new _ bU _,trivial⟩,o.sl 1,λ_=>rfl,hc o (by omega) (λt ht=>(q t ht).elim (λz=>m1 t (q1 t z)) (λz=>m2 t (q2 t z)))⟩
def RJ:(n:Nat)->jv prog 101 (Lm n)
 |0=>Ws
 |n+1=>Wt n (RJ n)
def vO:cP:=λd e K=> ∃f off A c h t cs,d=[.c (.sli f 0 off (ln A) c h)]/\e=[⟨.t t,true,cs,0⟩]/\(cC cs/\mj bU cs off A)/\ln A<=100000/\
 ∀o:OL TR,ln o.l=ln A->(∀t∈o.l,∃u∈A,jC u=t)->K (o.sl 1) [o.blk bU 58]
def rL:jv prog 73 vO:=cV (ot 0) bj (dX (.cons (RJ 100000) .nil) (ck (ot 0) bj bg 0)) ⟨func73,kr,kr⟩ λI M K r=>by
 obtain⟨Q,z,A,c,h,t,O,rfl,rfl,⟨q,T⟩,J,r⟩:=r;refine⟨zD,?_⟩;conv=>whnf
 refine fC (G:={p:Nat×OL TR//p.1<=ln A/\ln p.2.l=p.1/\ ∀t∈p.2.l,∃u∈A,jC u=t}×(Nat->Value)) (λg=>(.c (.sli Q 0 z (ln A) c h):: .c (.val (g.2 1)):: .c (.val (g.2 2))::g.1.1.2.sl 1:: .c (.int (g.1.1.1:Nat) (aR h g.1.2.1)):: .c (.val (g.2 5)):: .c (.val (g.2 6)):: .c (.val (g.2 7)):: .c (.val (g.2 8)):: .c (.val (g.2 9)):: .c (.val (g.2 10)):: .c (.val (g.2 11)):: .c (.val (g.2 12)):: .c (.val (g.2 13)):: .c (.val (g.2 14)):: .c (.val (g.2 15)):: .c (.val (g.2 16)):: .c (.val (g.2 17)):: .c (.val (g.2 18)):: .c (.val (g.2 19)):: .c (.val (g.2 20))::[])) (λg=>[⟨.t t,true,O,0⟩,g.1.1.2.blk bU 58]) (λg=>ln A-g.1.1.1) ?_ ?_;refine⟨[0,1000+ 58],[0,3,4],[0],λF=> ?_⟩;refine⟨q,?_⟩;refine⟨_,_,?_,?_,(⟨(0,OL.none),ah _,rfl,(λt h=>by cases h)⟩,F),rfl,rfl⟩;exact⟨fr,fr,fr,fr,fr,gm _⟩;exact⟨⟨rfl,rfl,rfl,fr⟩,⟨rfl,rfl,rfl,fr⟩,trivial⟩;rintro⟨⟨⟨k,o⟩,j,i,e⟩,R⟩;have j:k<=ln A:=j;have i:ln o.l=k:=i;have e: ∀t∈o.l,∃u∈A,jC u=t:=e;dsimp only;refine zB ?_ ?_<;>intro f;have d:k<ln A:=dL f;refine eS ?_;left;refine⟨rfl,o.app bU 58 (m:=1) (by show(ln o.l+1)*9<=5000000000000;omega),λB E=> ?_⟩;refine⟨[0,3],[0,3,4],[0,1],λx=> ?_⟩;refine⟨q,cJ (ab bU _) ff,?_⟩;refine⟨_,_,?_,?_,(⟨(k+1,o.push [jC A[k]] rfl B E),d,(by show(o.l++[jC A[k]]).length=_;rw[aa,i];rfl),(λt s=>dH (p:=λt=> ∃u∈A,jC u=t) e ⟨_,ak d,rfl⟩ s)⟩,x),(by show (ln A)-(k+1)<ln A-k;omega),rfl,rfl⟩;exact⟨fr,fr,fr,λH=>o.push_sl (n:=1) [jC A[k]] rfl B E 1 H,λH=>kM (dr (n:=ln A) d h.ir) H,gm _⟩;exact⟨⟨rfl,rfl,rfl,fr⟩,o.push_blk bU 58 (n:=1) [jC A[k]] rfl B E fr,trivial⟩;have y:ln A<=k:=gi f;obtain rfl:k=ln A:=bo j y;refine⟨⟨ab bU _,trivial⟩,o.nl,0,o.l,o.cap,o.ok,_,_,rfl,rfl,⟨ab bU _,mj.self bU o.l⟩,om,om,?_,λo2 L P=> ?_⟩;refine⟨[0,1],[0,1],λD=> ?_⟩;refine⟨q,ab bU _,?_⟩;exact⟨_,[o.blk bU 58],rfl,⟨⟨rfl,rfl,rfl,fr⟩,⟨rfl,rfl,rfl,fr⟩,trivial⟩,⟨OL.new _ bU _,trivial⟩,o.sl 1,fr,r o i e⟩;refine⟨[0,2],[0,1],λD=> ?_⟩;refine⟨q,ab bU _,?_⟩;exact⟨_,[o2.blk bU 58],rfl,⟨⟨rfl,rfl,rfl,fr⟩,⟨rfl,rfl,rfl,fr⟩,trivial⟩,⟨OL.new _ bU _,trivial⟩,o2.sl 1,fr,r o2 (L.trans i) (λt s=>e t (P t s))⟩
section
variable {u:PT} {A:List TR}
def Bf (p:PT) (t:TR):Bool:=eN p t.a||(eN p t.b||eN p t.c)
def qW (p u v:PT):PT:=bif eN p u then v else p
def jO (t:TR) (u v:PT):TR:=⟨qW t.a u v,qW t.b u v,qW t.c u v⟩
def lm {p v} (h:eN p u=true):qW p u v=v:=by unfold qW;rw[h];rfl
def lj {p v} (h:eN p u=false):qW p u v=p:=by unfold qW;rw[h];rfl
def qX {t v a b c} (d:qW t.a u v=a) (hb:qW t.b u v=b) (e:qW t.c u v=c):(⟨a,b,c⟩:TR)=jO t u v:=by unfold jO;rw[d,hb,e]
def Ly:Dn
 |[.agg [.int px hpx,.int py hpy,.int pz hpz],.agg [.int tx1 htx1,.int ty1 hty1,.int tz1 htz1,.int tx2 htx2,.int ty2 hty2,.int tz2 htz2,.int tx3 htx3,.int ty3 hty3,.int tz3 htz3]]=>
  some (none,.c (.val (.bool (Bf (⟨px,py,pz,hpx,hpy,hpz⟩:PT) (⟨⟨tx1,ty1,tz1,htx1,hty1,htz1⟩,⟨tx2,ty2,tz2,htx2,hty2,htz2⟩,⟨tx3,ty3,tz3,htx3,hty3,htz3⟩⟩:TR)))))
 |_=>none
def Up:dW prog 194 Ly:=dC (un:=20) (n:=0) ⟨func194,kr,kr⟩ jx bg λP p v O=>by
 unfold Ly at O;split at O;rename_i I s H q J D B i r g x h G k z d o m y f F j E e;cases O;refine⟨[.agg [.int I s,.int H q,.int J D],.agg [.int B i,.int r g,.int x h,.int G k,.int z d,.int o m,.int y f,.int F j,.int E e]],fr,ff,ff,λ_=> ?_⟩;refine zB ?_ ?_<;>intro L;have L:eN (⟨I,H,J,s,q,D⟩:PT) (⟨⟨B,r,x,i,g,h⟩,⟨G,z,o,k,d,m⟩,⟨y,F,E,f,j,e⟩⟩:TR).a=true:=L;conv=>whnf
 exact λN=>ss (show true=Bf (⟨I,H,J,s,q,D⟩:PT) (⟨⟨B,r,x,i,g,h⟩,⟨G,z,o,k,d,m⟩,⟨y,F,E,f,j,e⟩⟩:TR) by unfold Bf;rw[L];rfl) N;have L:eN (⟨I,H,J,s,q,D⟩:PT) (⟨⟨B,r,x,i,g,h⟩,⟨G,z,o,k,d,m⟩,⟨y,F,E,f,j,e⟩⟩:TR).a=false:=L;refine zB ?_ ?_<;>intro M;have M:eN (⟨I,H,J,s,q,D⟩:PT) (⟨⟨B,r,x,i,g,h⟩,⟨G,z,o,k,d,m⟩,⟨y,F,E,f,j,e⟩⟩:TR).b=true:=M;conv=>whnf
 exact λN=>ss (show true=Bf (⟨I,H,J,s,q,D⟩:PT) (⟨⟨B,r,x,i,g,h⟩,⟨G,z,o,k,d,m⟩,⟨y,F,E,f,j,e⟩⟩:TR) by unfold Bf;rw[L,M];rfl) N;have M:eN (⟨I,H,J,s,q,D⟩:PT) (⟨⟨B,r,x,i,g,h⟩,⟨G,z,o,k,d,m⟩,⟨y,F,E,f,j,e⟩⟩:TR).b=false:=M;conv=>whnf
 exact λN=>ss (show eN (⟨I,H,J,s,q,D⟩:PT) (⟨⟨B,r,x,i,g,h⟩,⟨G,z,o,k,d,m⟩,⟨y,F,E,f,j,e⟩⟩:TR).c=Bf (⟨I,H,J,s,q,D⟩:PT) (⟨⟨B,r,x,i,g,h⟩,⟨G,z,o,k,d,m⟩,⟨y,F,E,f,j,e⟩⟩:TR) by unfold Bf;rw[L,M];rfl) N;cases O
def DC:Dn
 |[.agg [.int tx1 htx1,.int ty1 hty1,.int tz1 htz1,.int tx2 htx2,.int ty2 hty2,.int tz2 htz2,.int tx3 htx3,.int ty3 hty3,.int tz3 htz3],.agg [.int ux hux,.int uy huy,.int uz huz],.agg [.int vx hvx,.int vy hvy,.int vz hvz]]=>
  some (none,.agg (qd (jO (⟨⟨tx1,ty1,tz1,htx1,hty1,htz1⟩,⟨tx2,ty2,tz2,htx2,hty2,htz2⟩,⟨tx3,ty3,tz3,htx3,hty3,htz3⟩⟩:TR) (⟨ux,uy,uz,hux,huy,huz⟩:PT) (⟨vx,vy,vz,hvx,hvy,hvz⟩:PT))))
 |_=>none
def MP:dW prog 180 DC:=dC (un:=20) (n:=0) ⟨func180,kr,kr⟩ jx bg λX p v W=>by
 unfold DC at W;split at W;rename_i y i q g r h D k x d o m s f B j z e N F O E P G T L R I U J;cases W;refine⟨[.agg [.int y i,.int q g,.int r h,.int D k,.int x d,.int o m,.int s f,.int B j,.int z e],.agg [.int N F,.int O E,.int P G],.agg [.int T L,.int R I,.int U J]],fr,ff,ff,λ_=> ?_⟩;refine zB ?_ ?_<;>intro V;have V:eN (⟨⟨y,q,r,i,g,h⟩,⟨D,x,o,k,d,m⟩,⟨s,B,z,f,j,e⟩⟩:TR).a (⟨N,O,P,F,E,G⟩:PT)=true:=V;refine zB ?_ ?_<;>intro M;have M:eN (⟨⟨y,q,r,i,g,h⟩,⟨D,x,o,k,d,m⟩,⟨s,B,z,f,j,e⟩⟩:TR).b (⟨N,O,P,F,E,G⟩:PT)=true:=M;refine zB ?_ ?_<;>intro H;have H:eN (⟨⟨y,q,r,i,g,h⟩,⟨D,x,o,k,d,m⟩,⟨s,B,z,f,j,e⟩⟩:TR).c (⟨N,O,P,F,E,G⟩:PT)=true:=H;conv=>whnf
 conv=>whnf
 exact λQ=>wF (qX (a:=(⟨T,R,U,L,I,J⟩:PT)) (b:=(⟨T,R,U,L,I,J⟩:PT)) (c:=(⟨T,R,U,L,I,J⟩:PT)) (lm V) (lm M) (lm H)) Q;have H:eN (⟨⟨y,q,r,i,g,h⟩,⟨D,x,o,k,d,m⟩,⟨s,B,z,f,j,e⟩⟩:TR).c (⟨N,O,P,F,E,G⟩:PT)=false:=H;conv=>whnf
 conv=>whnf
 exact λQ=>wF (qX (a:=(⟨T,R,U,L,I,J⟩:PT)) (b:=(⟨T,R,U,L,I,J⟩:PT)) (c:=(⟨⟨y,q,r,i,g,h⟩,⟨D,x,o,k,d,m⟩,⟨s,B,z,f,j,e⟩⟩:TR).c) (lm V) (lm M) (lj H)) Q;have M:eN (⟨⟨y,q,r,i,g,h⟩,⟨D,x,o,k,d,m⟩,⟨s,B,z,f,j,e⟩⟩:TR).b (⟨N,O,P,F,E,G⟩:PT)=false:=M;refine zB ?_ ?_<;>intro H;have H:eN (⟨⟨y,q,r,i,g,h⟩,⟨D,x,o,k,d,m⟩,⟨s,B,z,f,j,e⟩⟩:TR).c (⟨N,O,P,F,E,G⟩:PT)=true:=H;conv=>whnf
 conv=>whnf
 exact λQ=>wF (qX (a:=(⟨T,R,U,L,I,J⟩:PT)) (b:=(⟨⟨y,q,r,i,g,h⟩,⟨D,x,o,k,d,m⟩,⟨s,B,z,f,j,e⟩⟩:TR).b) (c:=(⟨T,R,U,L,I,J⟩:PT)) (lm V) (lj M) (lm H)) Q;have H:eN (⟨⟨y,q,r,i,g,h⟩,⟨D,x,o,k,d,m⟩,⟨s,B,z,f,j,e⟩⟩:TR).c (⟨N,O,P,F,E,G⟩:PT)=false:=H;conv=>whnf
 conv=>whnf
 exact λQ=>wF (qX (a:=(⟨T,R,U,L,I,J⟩:PT)) (b:=(⟨⟨y,q,r,i,g,h⟩,⟨D,x,o,k,d,m⟩,⟨s,B,z,f,j,e⟩⟩:TR).b) (c:=(⟨⟨y,q,r,i,g,h⟩,⟨D,x,o,k,d,m⟩,⟨s,B,z,f,j,e⟩⟩:TR).c) (lm V) (lj M) (lj H)) Q;have V:eN (⟨⟨y,q,r,i,g,h⟩,⟨D,x,o,k,d,m⟩,⟨s,B,z,f,j,e⟩⟩:TR).a (⟨N,O,P,F,E,G⟩:PT)=false:=V;refine zB ?_ ?_<;>intro M;have M:eN (⟨⟨y,q,r,i,g,h⟩,⟨D,x,o,k,d,m⟩,⟨s,B,z,f,j,e⟩⟩:TR).b (⟨N,O,P,F,E,G⟩:PT)=true:=M;refine zB ?_ ?_<;>intro H;have H:eN (⟨⟨y,q,r,i,g,h⟩,⟨D,x,o,k,d,m⟩,⟨s,B,z,f,j,e⟩⟩:TR).c (⟨N,O,P,F,E,G⟩:PT)=true:=H;conv=>whnf
 conv=>whnf
 exact λQ=>wF (qX (a:=(⟨⟨y,q,r,i,g,h⟩,⟨D,x,o,k,d,m⟩,⟨s,B,z,f,j,e⟩⟩:TR).a) (b:=(⟨T,R,U,L,I,J⟩:PT)) (c:=(⟨T,R,U,L,I,J⟩:PT)) (lj V) (lm M) (lm H)) Q;have H:eN (⟨⟨y,q,r,i,g,h⟩,⟨D,x,o,k,d,m⟩,⟨s,B,z,f,j,e⟩⟩:TR).c (⟨N,O,P,F,E,G⟩:PT)=false:=H;conv=>whnf
 conv=>whnf
 exact λQ=>wF (qX (a:=(⟨⟨y,q,r,i,g,h⟩,⟨D,x,o,k,d,m⟩,⟨s,B,z,f,j,e⟩⟩:TR).a) (b:=(⟨T,R,U,L,I,J⟩:PT)) (c:=(⟨⟨y,q,r,i,g,h⟩,⟨D,x,o,k,d,m⟩,⟨s,B,z,f,j,e⟩⟩:TR).c) (lj V) (lm M) (lj H)) Q;have M:eN (⟨⟨y,q,r,i,g,h⟩,⟨D,x,o,k,d,m⟩,⟨s,B,z,f,j,e⟩⟩:TR).b (⟨N,O,P,F,E,G⟩:PT)=false:=M;refine zB ?_ ?_<;>intro H;have H:eN (⟨⟨y,q,r,i,g,h⟩,⟨D,x,o,k,d,m⟩,⟨s,B,z,f,j,e⟩⟩:TR).c (⟨N,O,P,F,E,G⟩:PT)=true:=H;conv=>whnf
 conv=>whnf
 exact λQ=>wF (qX (a:=(⟨⟨y,q,r,i,g,h⟩,⟨D,x,o,k,d,m⟩,⟨s,B,z,f,j,e⟩⟩:TR).a) (b:=(⟨⟨y,q,r,i,g,h⟩,⟨D,x,o,k,d,m⟩,⟨s,B,z,f,j,e⟩⟩:TR).b) (c:=(⟨T,R,U,L,I,J⟩:PT)) (lj V) (lj M) (lm H)) Q;have H:eN (⟨⟨y,q,r,i,g,h⟩,⟨D,x,o,k,d,m⟩,⟨s,B,z,f,j,e⟩⟩:TR).c (⟨N,O,P,F,E,G⟩:PT)=false:=H;conv=>whnf
 conv=>whnf
 exact λQ=>wF (qX (a:=(⟨⟨y,q,r,i,g,h⟩,⟨D,x,o,k,d,m⟩,⟨s,B,z,f,j,e⟩⟩:TR).a) (b:=(⟨⟨y,q,r,i,g,h⟩,⟨D,x,o,k,d,m⟩,⟨s,B,z,f,j,e⟩⟩:TR).b) (c:=(⟨⟨y,q,r,i,g,h⟩,⟨D,x,o,k,d,m⟩,⟨s,B,z,f,j,e⟩⟩:TR).c) (lj V) (lj M) (lj H)) Q;cases W
def IA:List (FuncId×Dn):=(194,Ly)::(180,DC)::Dc
def mM:dU IA:= .cons Up<| .cons MP<|jx
def a4k (un:Nat):ic:={vA un IA with O:=lR qo}
def ou un:iU prog (a4k un):=⟨(cm mM un).T,(cm mM un).D,gy eD,(cm mM un).R,λ_ _ _ _ h=>(show False from h).elim⟩
def JU (t:TR):Bool:= !eN t.a t.b&&(!eN t.b t.c&& !eN t.c t.a)
def qz (A:List TR) (u v:PT):List TR:=(A.map (λt=>jO t u v)).filter JU
def NT {v t}:qz (A++[t]) u v=qz A u v++bif JU (jO t u v) then [jO t u v] else []:=by unfold qz;rw[aV,a9H,a0r,nQ,List.filter_nil];cases JU (jO t u v)<;>rfl
def vQ {v k} (hk:k<ln A):qz (A.take (k+1)) u v=qz (A.take k) u v++bif JU (jO A[k] u v) then [jO A[k] u v] else []:=by rw[<-NT,List.take_append_getElem hk]
def Dp {v} :(qz A u v).length<=ln A:=by unfold qz;exact aC (Id _ _) (CS (bO _))
def Rp {v t} (h:t∈qz A u v): ∃s∈A,jO s u v=t:=by obtain⟨s,e,d⟩:=bD.1 (iQ.1 h).1;exact⟨s,e,d⟩
def V0 {v s} (h:s∈A) (hs:JU (jO s u v)=false):(qz A u v).length<ln A:=by unfold qz;refine Nat.lt_of_lt_of_eq (List.length_filter_lt_length_iff_exists.2 ⟨_,bD.2 ⟨s,h,rfl⟩,by rw[hs];decide⟩) (bO _)
def pC (p:PT):List C:=[.int p.x p.hx,.int p.y p.hy,.int p.z p.hz]
def QT:cP:=λd e K=> ∃f off A c h t cs u v,d=[.c (.sli f 0 off (ln A) c h),.agg (pC u),.agg (pC v)]/\e=[⟨.t t,true,cs,0⟩]/\(cC cs/\mj bU cs off A)/\ln A<=100000/\
 ∀o:OL TR,ln o.l=(qz A u v).length->(∀t∈o.l,∃s∈qz A u v,jC s=t)->K (o.sl 1) [o.blk bU 58]
def Rw:jv prog 150 QT:=cV (ou 0) bj (dX (.cons rL .nil) (ck (ou 0) bj bg 0)) ⟨func150,kr,kr⟩ λz E K y=>by
 obtain⟨Q,H,A,c,h,t,O,u,v,rfl,rfl,⟨P,N⟩,B,y⟩:=y;refine⟨zD,?_⟩;conv=>whnf
 refine zK [0,1,2,1000+ 58] [0,4,5,7,8] [0,3] (G:={p:Nat×OL TR//p.1<=ln A/\p.2.l=qz (A.take p.1) u v}) (λg=>[(7,g.1.2.sl 3),(8,.c (.int (g.1.1:Nat) (aR h g.2.1)))]) (λg=>[(3,g.1.2.blk bU 58)]) (λg=>ln A-g.1.1) ⟨(0,OL.none),ah _,rfl⟩ trivial ?_;rintro ⟨⟨k,o⟩,s,f⟩ vs2;have s:k<=ln A:=s;have f:o.l=qz (A.take k) u v:=f;have M:ln o.l<=ln A:=by rw[f];exact aC Dp (by rw[aO];omega)
 dsimp only;refine zB ?_ ?_<;>intro r;have e:k<ln A:=dL r;have F:IR (k:Int):=aR h s;refine eS ?_;refine zB ?_ ?_<;>intro i;have i:(!eN (jO A[k] u v).a (jO A[k] u v).b)=true:=i;refine zB ?_ ?_<;>intro j;have j:(!eN (jO A[k] u v).b (jO A[k] u v).c)=true:=j;refine zB ?_ ?_<;>intro q;have q:(!eN (jO A[k] u v).c (jO A[k] u v).a)=true:=q;have d:JU (jO A[k] u v)=true:=by unfold JU;rw[i,j,q];rfl
 refine iT ?_;exact⟨rfl,o.app bU 58 (m:=1) (by show(ln o.l+1)*9<=5000000000000;omega),λI L=> dD [0,1,2,6] ⟨(k+1,o.push [jO A[k] u v] rfl I L),e,(by show o.l++[jO A[k] u v]=_;rw[vQ e,d,f];rfl)⟩⟩;have q:(!eN (jO A[k] u v).c (jO A[k] u v).a)=false:=q;have d:JU (jO A[k] u v)=false:=by unfold JU;rw[i,j,q];rfl
 iterate 2
  try
   have j:(!eN (jO A[k] u v).b (jO A[k] u v).c)=false:=j
   have d:JU (jO A[k] u v)=false:=by unfold JU;rw[i,j];rfl
  exact dD [0,1,2,3] ⟨(k+1,o),e,(by show o.l=_;rw[vQ e,d,f];exact(bk _).symm)⟩
 have i:(!eN (jO A[k] u v).a (jO A[k] u v).b)=false:=i;have d:JU (jO A[k] u v)=false:=by unfold JU;rw[i];rfl
 exact dD [0,1,2,3] ⟨(k+1,o),e,(by show o.l=_;rw[vQ e,d,f];exact(bk _).symm)⟩;have x:ln A<=k:=gi r;obtain rfl:k=ln A:=bo s x;rw[bP] at f;exact⟨⟨ab bU _,trivial⟩,o.nl,0,o.l,o.cap,o.ok,_,_,rfl,rfl,⟨ab bU _,mj.self bU o.l⟩,om,λo2 D J=> zO [0,4] [0,1] (y o2 (by rw[D,f]) (by rw[<-f];exact J))⟩
end
def Zt:cP:=λd f K=> ∃g len e h i l p,d=[.c (.sli g 0 0 len e h),.agg (mK p)]/\f=[⟨i,true,fm l,0⟩]/\ln l=len/\len<=1000000/\PW l/\
 (p∈l->K (.c (.sli g 0 0 len e h)) [])/\ ∀o:OP,PW o.l->(∀q,q∈o.l↔q=p\/q∈l)->ln o.l=ln l+1->K (o.sl 1) [o.blk]
def OC {l p k} {hlt:k<ln l} (h: ∀i (hi:i<ln l),i<k->eh l[i] p=true) (hk:eh l[k] p=true): ∀i (hi:i<ln l),i<k+1->eh l[i] p=true:=λi hi d=>by by_cases e:i=k;subst e;exact hk;exact h i hi om
def a1p:jv prog 171 Zt:=cV (cm kA 0) bj (ck (cm kA 0) bj bg 0) ⟨func171,kr,kr⟩ λV Z K P=>by
 obtain⟨nl,_,M,u,Y,l,p,rfl,rfl,rfl,T,R,P,W⟩:=P
 refine⟨λI a0 e=> ?_,?_⟩
 ·have:=e 0 (Nat.zero_lt_one)
  simp only[cg,SV.den,C.den,C.cells,this]
  rfl
 conv=>whnf
 refine fC (G:={k:Nat//k<=ln l/\ ∀i (X:i<ln l),i<k->eh l[i] p=true}×(Nat->Value)) (λg=>.c (.sli nl 0 0 (ln l) M u):: .c (.val (g.2 1)):: .c (.val (g.2 2)):: .c (.ptr 1 0):: .c (.val (g.2 4)):: .c (.int (g.1.1:Nat) (mg u g.1.2.1))::tn g.2 6 43 []) (λ_=>[⟨Y,true,fm l,0⟩,⟨33,false,mK p,0⟩]) (λg=>ln l-g.1.1) ?_ ?_
 ·refine⟨[0,1],[0,3,5],[0],λU=> ?_⟩
  refine⟨fL l,_,_,?_,?_,(⟨0,ah _,λi _ h=>by omega⟩,U),rfl,rfl⟩
  ·exact⟨fr,fr,fr,fr,fr,fr,fr,fr,fr,fr,fr,fr,fr,fr,fr,fr,fr,fr,fr,fr,fr,fr,fr,fr,fr,fr,fr,fr,fr,fr,fr,fr,fr,fr,fr,fr,fr,fr,fr,fr,fr,fr,fr,fr,fr,fr,fr,fr,fr,trivial⟩
  ·exact gz _
 ·rintro⟨⟨k,m,B⟩,U⟩
  refine zB (λd=> ?_) λx=> ?_
  ·have d:k<ln l:=dL d
   conv=>whnf
   rw[be (ho:= ?hoi1) (hT:= ?hTi1) (hx:= ?hxi1) (hk:= ?hki1) (hlt:= ?hlti1)]
   case hoi1=>rfl
   case hTi1=>rfl
   case hxi1=>rfl
   case hki1=>rfl
   case hlti1=>exact d
   conv=>whnf
   rw[ap (ho:= ?hol1) (hT:= ?hTl1) (hx:= ?hxl1) (hb:= ?hbl1) (hm:= ?hml1) (hv:= ?hvl1)]
   case hol1=>rfl
   case hTl1=>rfl
   case hxl1=>rfl
   case hbl1=>rfl
   case hml1=>exact(by rw[aN];exact ib l d:dk (fm l) (0+k*3) 3=some (mK l[k]))
   case hvl1=>rfl
   refine zB ?_ ?_<;>intro j
   ·have j:eh l[k] p=false:=by rw[<-Bool.not_eq_true'];exact j
    conv=>whnf
    refine IC (a44 d) ?_
    conv=>whnf
    rw[be (ho:= ?hoi2) (hT:= ?hTi2) (hx:= ?hxi2) (hk:= ?hki2) (hlt:= ?hlti2)]
    case hoi2=>rfl
    case hTi2=>rfl
    case hxi2=>rfl
    case hki2=>rfl
    case hlti2=>exact d
    conv=>whnf
    rw[ap (ho:= ?hol2) (hT:= ?hTl2) (hx:= ?hxl2) (hb:= ?hbl2) (hm:= ?hml2) (hv:= ?hvl2)]
    case hol2=>rfl
    case hTl2=>rfl
    case hxl2=>rfl
    case hbl2=>rfl
    case hml2=>exact(by rw[aN];exact ib l d:dk (fm l) (0+k*3) 3=some (mK l[k]))
    case hvl2=>rfl
    refine zB ?_ ?_<;>intro D
    ·have D:l[k]=p:=(jV _ _).1 D
     have hm:p∈l:=D▸ak d
     exact zO [0] [0] (P hm)
    ·have D:l[k]≠p:=λe=>by have Q:=(jV _ _).2 e;rw[show eN l[k] p=false from D] at Q;cases Q
     have A: ∀h:k<ln l,eh p l[k]=true:=λ_=>ST j D
     conv=>whnf
     rw[fN (h2:=gL u m) (ho:= ?hosa) (hT:= ?hTsa) (hx:= ?hxsa) (hk:= ?hksa) (hlt:= ?hltsa)]
     case hosa=>rfl
     case hTsa=>rfl
     case hxsa=>rfl
     case hksa=>rfl
     case hltsa=>exact aC m u.1
     conv=>whnf
     rw[sN l m]
     refine⟨mS _,om,λH J=> ?_⟩
     have r:bu (fm (l.take k))=k*3:=by rw[kj,aO];omega
     have y:bu (mK p)=3:=rfl
     refine⟨rfl,⟨rfl,rfl,r,λ_=>by have:=J.1;show bu (fm (l.take k))+(H-k)*3=H*3;omega,om⟩,λE L=> ?_⟩
     have o:bu (fm (l.take k)++mK p)=(k+1)*3:=by rw[cw,r,y];omega
     conv=>whnf
     rw[fO (ho:= ?hota) (hT:= ?hTta) (hx:= ?hxta) (hk:= ?hkta) (hlt:= ?hltta)]
     case hota=>rfl
     case hTta=>rfl
     case hxta=>rfl
     case hkta=>rfl
     case hltta=>exact m
     conv=>whnf
     rw[sM l m u.1]
     refine⟨mS _,⟨rfl,rfl,o,λ_=>by have:=L.1;show bu (fm (l.take k)++mK p)+(E-(k+1))*3=E*3;omega,om⟩,λz N=>⟨[0,5],[0,1],λs=>⟨fL l,cL (cL (fL _) ff) (fL _),?_⟩⟩⟩
     conv=>whnf
     have f:(l.take k++p::l.drop k).length=k+1+(ln l-k):=by simp only[aa,aO,aS,bN];omega
     have F:bZ ((decide (k=0)&&decide (1=0))&&decide (ln l-k=0)) (l.take k++p::l.drop k).length z:=by rw[f];exact N
     refine⟨_,[(OP.mk _ _ z F).blk],rfl,⟨mL _,⟨rfl,rfl,?_,λI=> ?_⟩,trivial⟩,⟨OP.new _,trivial⟩,(OP.mk _ _ z F).sl 1,λI=> ?_,W _ (MU R m B A) (λq=>Mc) ?_⟩
     ·simp only[OP.blk,f]
     ·simp only[OP.blk,jq,fm,aJ];rfl
     ·simp only[OP.sl,SV.den,C.den,C.cells,f]
     ·show(l.take k++p::l.drop k).length=_;omega
   ·have j:eh l[k] p=true:=by rw[<-Bool.not_eq_false'];exact j
    conv=>whnf
    refine (qg [0,1] [0,3,5] [0] (λs=>(⟨k+1,d,λi X O=>OC B j i X O⟩,s)) (λs=>zL) (λs=>⟨fL l,?_,?_⟩))
    ·exact⟨fr,fr,fr,fr,fr,iY (dr d u.ir) _ _,fr,fr,fr,fr,fr,fr,fr,fr,fr,fr,fr,fr,fr,fr,fr,fr,fr,fr,fr,fr,fr,fr,fr,fr,fr,fr,fr,fr,fr,fr,fr,fr,fr,fr,fr,fr,fr,fr,fr,fr,fr,fr,fr,trivial⟩
    ·exact gz _
  ·have x:ln l<=k:=gi x
   have A: ∀h:k<ln l,eh p l[k]=true:=λh=>by omega
   conv=>whnf
   refine FL (a43 x) ?_
   conv=>whnf
   rw[fN (h2:=gL u m) (ho:= ?hosb) (hT:= ?hTsb) (hx:= ?hxsb) (hk:= ?hksb) (hlt:= ?hltsb)]
   case hosb=>rfl
   case hTsb=>rfl
   case hxsb=>rfl
   case hksb=>rfl
   case hltsb=>exact aC m u.1
   conv=>whnf
   rw[sN l m]
   refine⟨mS _,om,λH J=> ?_⟩
   have r:bu (fm (l.take k))=k*3:=by rw[kj,aO];omega
   have y:bu (mK p)=3:=rfl
   refine⟨rfl,⟨rfl,rfl,r,λ_=>by have:=J.1;show bu (fm (l.take k))+(H-k)*3=H*3;omega,om⟩,λE L=> ?_⟩
   have o:bu (fm (l.take k)++mK p)=(k+1)*3:=by rw[cw,r,y];omega
   conv=>whnf
   rw[fO (ho:= ?hotb) (hT:= ?hTtb) (hx:= ?hxtb) (hk:= ?hktb) (hlt:= ?hlttb)]
   case hotb=>rfl
   case hTtb=>rfl
   case hxtb=>rfl
   case hktb=>rfl
   case hlttb=>exact m
   conv=>whnf
   rw[sM l m u.1]
   refine⟨mS _,⟨rfl,rfl,o,λ_=>by have:=L.1;show bu (fm (l.take k)++mK p)+(E-(k+1))*3=E*3;omega,om⟩,λz N=>⟨[0,5],[0,1],λs=>⟨fL l,cL (cL (fL _) ff) (fL _),?_⟩⟩⟩
   conv=>whnf
   have f:(l.take k++p::l.drop k).length=k+1+(ln l-k):=by simp only[aa,aO,aS,bN];omega
   have F:bZ ((decide (k=0)&&decide (1=0))&&decide (ln l-k=0)) (l.take k++p::l.drop k).length z:=by rw[f];exact N
   refine⟨_,[(OP.mk _ _ z F).blk],rfl,⟨mL _,⟨rfl,rfl,?_,λI=> ?_⟩,trivial⟩,⟨OP.new _,trivial⟩,(OP.mk _ _ z F).sl 1,λI=> ?_,W _ (MU R m B A) (λq=>Mc) ?_⟩
   ·simp only[OP.blk,f]
   ·simp only[OP.blk,jq,fm,aJ];rfl
   ·simp only[OP.sl,SV.den,C.den,C.cells,f]
   ·show(l.take k++p::l.drop k).length=_;omega
section
variable {k j:Nat} {T:List PT}
def AB {l m r i n o} (h1:dk l i n=some m) (h2:dk m o k=some r):dk l (i+o) k=some r:=by
 obtain⟨a,b,rfl,d,_⟩:=gr h1;obtain⟨x,y,rfl,g,f⟩:=gr h2;have e:a++(x++(r++y)++b)=(a++x)++(r++(y++b)):=by simp[aJ]
 rw[e,<-d,<-g,<-f,<-cw];exact eY _ _ _
def vk l (hk:k<ln l) o {r} (h:dk (qd l[k]) o 3=some r):dk (fy l) (0+k*9+o) 3=some r:=by rw[aN];exact AB (ng l hk) h
def Rs l (hk:k<ln l) q:q∈cor (l.take (k+1))↔q∈cor (l.take k)\/q∈pk l[k]:=by rw[bE hk];unfold cor;rw[dG,aT];simp
def zv {l:List PT} {C:PT->Prop} (hj:j<ln T) (h: ∀q,q∈l↔C q\/q∈T.take j) (hm:T[j]∈l) (q:PT):q∈l↔C q\/q∈T.take (j+1):=by rw[bE hj,aT,bq];constructor;intro e;rcases(h q).1 e with d|d;exact .inl d;exact .inr (.inl d);rintro(d|d|rfl);exact(h q).2 (.inl d);exact(h q).2 (.inr d);exact hm
def Eh {l e:List PT} {C:PT->Prop} (hj:j<ln T) (h: ∀q,q∈l↔C q\/q∈T.take j) (f: ∀q,q∈e↔q=T[j]\/q∈l) (q:PT):q∈e↔C q\/q∈T.take (j+1):=by rw[bE hj,aT,bq,f,h];constructor;rintro(d|d|d);exact .inr (.inr d);exact .inl d;exact .inr (.inl d);rintro(d|d|d);exact .inr (.inl d);exact .inr (.inr d);exact .inl d
def uu:cP:=λd f K=> ∃i len e h g l,d=[.c (.sli i 0 0 len e h)]/\f=[⟨g,true,fy l,0⟩]/\ln l=len/\len<=300000/\
 ∀o:OP,PW o.l->(∀q,q∈o.l↔q∈cor l)->ln o.l<=3*len->K (o.sl 1) [o.blk]
def a55:List (FuncId×cP):=[(171,Zt)]
def UV:iL prog a55:= .cons a1p .nil
def ir3 (h:j<=3):IR j:=ui
def a3F (l:List TR) (k:Nat) (o:OP):Prop:=PW o.l/\(∀q,q∈o.l↔q∈cor (l.take k))/\ln o.l<=3*k
def a0o (l:List TR) (k:Nat) (T:List PT) (j:Nat) (o:OP):Prop:=PW o.l/\(∀q,q∈o.l↔q∈cor (l.take k)\/q∈T.take j)/\ln o.l<=3*k+j
def a0o.len {l o} (h:a0o l k T j o) (hk:k<ln l) (hl:ln l<=300000) (hj:j<=3):ln o.l<=1000000:=by have:=h.2.2;omega
def vR:jv prog 145 uu:=cV (cm kA 0) bj (dX UV (ck (cm kA 0) bj bg 0)) ⟨func145,kr,kr⟩ λJ N K F=>by
 obtain⟨L,_,z,y,H,l,rfl,rfl,rfl,i,F⟩:=F
 refine⟨λP O e=> ?_,?_⟩
 ·have:=e 0 (Nat.zero_lt_one)
  simp only[cg,SV.den,C.den,C.cells,this]
 conv=>whnf
 refine fC (G:={g:Nat×OP×(Nat->Value)//g.1<=ln l/\a3F l g.1 g.2.1}) (λg=>.c (.sli L 0 0 (ln l) z y):: .c (.val (g.1.2.2 1)):: .c (.val (g.1.2.2 2))::g.1.2.1.sl 1:: .c (.int (g.1.1:Nat) (mg y g.2.1))::tn g.1.2.2 5 20 []) (λg=>[⟨H,true,fy l,0⟩,g.1.2.1.blk]) (λg=>ln l-g.1.1) ?_ ?_
 ·refine⟨[0,1000+ 33],[0,3,4],[0],λI=> ?_⟩
  refine⟨eb l,_,_,?_,?_,⟨(0,OP.none,I),ah _,List.Pairwise.nil,λq=>Iff.rfl,ah _⟩,rfl,rfl⟩
  ·exact⟨fr,fr,fr,fr,fr,fr,fr,fr,fr,fr,fr,fr,fr,fr,fr,fr,fr,fr,fr,fr,fr,fr,fr,fr,fr,trivial⟩
  ·exact gz _
 ·rintro⟨⟨k,o,I⟩,E,p⟩
  have E:k<=ln l:=E
  have p:a3F l k o:=p
  refine zB (λh=> ?_) λs=> ?_
  ·have h:k<ln l:=dL h
   conv=>whnf
   refine fC (G:={g:Nat×OP×(Nat->Value)//g.1<=3/\a0o l k (pk l[k]) g.1 g.2.1}) (λg=>.c (.sli L 0 0 (ln l) z y):: .c (.val (g.1.2.2 1)):: .c (.val (g.1.2.2 2))::g.1.2.1.sl 1:: .c (.int (k:Nat) (mg y E)):: .c (.int (g.1.1:Nat) (ir3 g.2.1))::tn g.1.2.2 6 19 []) (λg=>[⟨H,true,fy l,0⟩,g.1.2.1.blk]) (λg=>3-g.1.1) ?_ ?_
   ·refine⟨[0,1],[0,3,4,5],[0,1],λD=> ?_⟩
    refine⟨eb l,o.new.1,_,_,?_,?_,⟨(0,o,D),ah _,p.1,λq=>by rw[p.2.1];simp,p.2.2⟩,rfl,rfl⟩
    ·exact⟨fr,fr,fr,fr,fr,fr,fr,fr,fr,fr,fr,fr,fr,fr,fr,fr,fr,fr,fr,fr,fr,fr,fr,fr,fr,trivial⟩
    ·exact gz _
   ·rintro⟨⟨j,o2,D⟩,M,f⟩
    have M:j<=3:=M
    have f:a0o l k (pk l[k]) j o2:=f
    have u:j=3\/j=0\/j=1\/j=2:=om
    rcases u with rfl|rfl|rfl|rfl
    ·conv=>whnf
     refine (qg [0,1] [0,3,4] [0,1] (λd=>⟨(k+1,o2,d),h,f.1,λq=>by rw[Rs l h];exact f.2.1 q,by have:=f.2.2;show (ln o2.l)<=3*(k+1);omega⟩) (λd=>zL) (λd=>⟨eb l,o2.new.1,?_,?_⟩))
     ·exact⟨fr,fr,fr,fr,iY (dr h y.ir) _ _,fr,fr,fr,fr,fr,fr,fr,fr,fr,fr,fr,fr,fr,fr,fr,fr,fr,fr,fr,fr,trivial⟩
     ·exact gz _
    ·conv=>whnf
     rw[be (ho:= ?hoi0) (hT:= ?hTi0) (hx:= ?hxi0) (hk:= ?hki0) (hlt:= ?hlti0)]
     case hoi0=>rfl
     case hTi0=>rfl
     case hxi0=>rfl
     case hki0=>rfl
     case hlti0=>exact h
     conv=>whnf
     rw[ap (ho:= ?hol0) (hT:= ?hTl0) (hx:= ?hxl0) (hb:= ?hbl0) (hm:= ?hml0) (hv:= ?hvl0)]
     case hol0=>rfl
     case hTl0=>rfl
     case hxl0=>rfl
     case hbl0=>rfl
     case hml0=>exact vk l h _ (r:=mK l[k].a) rfl
     case hvl0=>rfl
     refine⟨ff,⟨fL o2.l,trivial⟩,⟨_,_,_,_,_,o2.l,l[k].a,rfl,rfl,rfl,f.len h i dc,f.1,λA=> ?_,λm B x i=> ?_⟩⟩
     ·conv=>whnf
      refine (qg [0,1] [0,3,4,5] [0,1] (λd=>⟨(1,o2,d),(by decide:1<=3),f.1,zv (T:=pk l[k]) (C:=λq=>q∈cor (l.take k)) (j:=0) (show 0<3 by decide) f.2.1 A,eH f.2.2⟩) (λd=>zL) (λd=>⟨eb l,o2.new.1,?_,?_⟩))
      ·exact⟨fr,fr,fr,fr,fr,fr,fr,fr,fr,fr,fr,fr,fr,fr,fr,fr,fr,fr,fr,fr,fr,fr,fr,fr,fr,trivial⟩
      ·exact gz _
     ·conv=>whnf
      refine (qg [0,2] [0,3,4,5] [0,1] (λd=>⟨(1,m,d),(by decide:1<=3),B,Eh (T:=pk l[k]) (C:=λq=>q∈cor (l.take k)) (j:=0) (show 0<3 by decide) f.2.1 x,by have:=f.2.2;show (ln m.l)<=3*k+1;omega⟩) (λd=>zL) (λd=>⟨eb l,m.new.1,?_,?_⟩))
      ·exact⟨fr,fr,fr,fr,fr,fr,fr,fr,fr,fr,fr,fr,fr,fr,fr,fr,fr,fr,fr,fr,fr,fr,fr,fr,fr,trivial⟩
      ·exact gz _
    ·conv=>whnf
     rw[be (ho:= ?hoi1) (hT:= ?hTi1) (hx:= ?hxi1) (hk:= ?hki1) (hlt:= ?hlti1)]
     case hoi1=>rfl
     case hTi1=>rfl
     case hxi1=>rfl
     case hki1=>rfl
     case hlti1=>exact h
     conv=>whnf
     rw[ap (ho:= ?hol1) (hT:= ?hTl1) (hx:= ?hxl1) (hb:= ?hbl1) (hm:= ?hml1) (hv:= ?hvl1)]
     case hol1=>rfl
     case hTl1=>rfl
     case hxl1=>rfl
     case hbl1=>rfl
     case hml1=>exact vk l h _ (r:=mK l[k].b) rfl
     case hvl1=>rfl
     refine⟨ff,⟨fL o2.l,trivial⟩,⟨_,_,_,_,_,o2.l,l[k].b,rfl,rfl,rfl,f.len h i dc,f.1,λA=> ?_,λm B x i=> ?_⟩⟩
     ·conv=>whnf
      refine (qg [0,1] [0,3,4,5] [0,1] (λd=>⟨(2,o2,d),(by decide:2<=3),f.1,zv (T:=pk l[k]) (C:=λq=>q∈cor (l.take k)) (j:=1) (show 1<3 by decide) f.2.1 A,eH f.2.2⟩) (λd=>zL) (λd=>⟨eb l,o2.new.1,?_,?_⟩))
      ·exact⟨fr,fr,fr,fr,fr,fr,fr,fr,fr,fr,fr,fr,fr,fr,fr,fr,fr,fr,fr,fr,fr,fr,fr,fr,fr,trivial⟩
      ·exact gz _
     ·conv=>whnf
      refine (qg [0,2] [0,3,4,5] [0,1] (λd=>⟨(2,m,d),(by decide:2<=3),B,Eh (T:=pk l[k]) (C:=λq=>q∈cor (l.take k)) (j:=1) (show 1<3 by decide) f.2.1 x,by have:=f.2.2;show (ln m.l)<=3*k+2;omega⟩) (λd=>zL) (λd=>⟨eb l,m.new.1,?_,?_⟩))
      ·exact⟨fr,fr,fr,fr,fr,fr,fr,fr,fr,fr,fr,fr,fr,fr,fr,fr,fr,fr,fr,fr,fr,fr,fr,fr,fr,trivial⟩
      ·exact gz _
    ·conv=>whnf
     rw[be (ho:= ?hoi2) (hT:= ?hTi2) (hx:= ?hxi2) (hk:= ?hki2) (hlt:= ?hlti2)]
     case hoi2=>rfl
     case hTi2=>rfl
     case hxi2=>rfl
     case hki2=>rfl
     case hlti2=>exact h
     conv=>whnf
     rw[ap (ho:= ?hol2) (hT:= ?hTl2) (hx:= ?hxl2) (hb:= ?hbl2) (hm:= ?hml2) (hv:= ?hvl2)]
     case hol2=>rfl
     case hTl2=>rfl
     case hxl2=>rfl
     case hbl2=>rfl
     case hml2=>exact vk l h _ (r:=mK l[k].c) rfl
     case hvl2=>rfl
     refine⟨ff,⟨fL o2.l,trivial⟩,⟨_,_,_,_,_,o2.l,l[k].c,rfl,rfl,rfl,f.len h i dc,f.1,λA=> ?_,λm B x i=> ?_⟩⟩
     ·conv=>whnf
      refine (qg [0,1] [0,3,4,5] [0,1] (λd=>⟨(3,o2,d),(by decide:3<=3),f.1,zv (T:=pk l[k]) (C:=λq=>q∈cor (l.take k)) (j:=2) (show 2<3 by decide) f.2.1 A,eH f.2.2⟩) (λd=>zL) (λd=>⟨eb l,o2.new.1,?_,?_⟩))
      ·exact⟨fr,fr,fr,fr,fr,fr,fr,fr,fr,fr,fr,fr,fr,fr,fr,fr,fr,fr,fr,fr,fr,fr,fr,fr,fr,trivial⟩
      ·exact gz _
     ·conv=>whnf
      refine (qg [0,2] [0,3,4,5] [0,1] (λd=>⟨(3,m,d),(by decide:3<=3),B,Eh (T:=pk l[k]) (C:=λq=>q∈cor (l.take k)) (j:=2) (show 2<3 by decide) f.2.1 x,by have:=f.2.2;show (ln m.l)<=3*k+3;omega⟩) (λd=>zL) (λd=>⟨eb l,m.new.1,?_,?_⟩))
      ·exact⟨fr,fr,fr,fr,fr,fr,fr,fr,fr,fr,fr,fr,fr,fr,fr,fr,fr,fr,fr,fr,fr,fr,fr,fr,fr,trivial⟩
      ·exact gz _
  ·have s:k=ln l:=bo E (gi s)
   subst s
   exact zO [0,1] [0,1] (F o p.1 (λq=>by rw[p.2.1 q,bP]) p.2.2)
end
section
variable {k:Nat}
def IK:cP:=λd f K=> ∃i len e h g l,d=[.c (.sli i 0 0 len e h)]/\f=[⟨g,true,fy l,0⟩]/\ln l=len/\len<=300000/\ ∀o:OE,ln o.l=3*len->K (o.sl 1) [o.blk]
def HP l (hk:k<ln l):dk (fy l) (0+k*9) 9=some (qd l[k]):=by rw[aN];exact ng l hk
def AA l (hk:k<ln l):dk (gK l) (0+k*6) 6=some (Oh l[k]):=by rw[aN];exact UE l hk
def trE (t:TR):List ED:=[⟨t.a,t.b⟩,⟨t.b,t.c⟩,⟨t.c,t.a⟩]
def Ls:jv prog 154 IK:=cV (cm fW 0) bj (ck (cm fW 0) bj bg 0) ⟨func154,kr,kr⟩ λj u K h=>by
 obtain⟨z,_,s,r,y,l,rfl,rfl,rfl,i,h⟩:=h;refine⟨zD,?_⟩;conv=>whnf
 refine zK [0,1000+ 186] [0,3,4] [0,1] (G:={g:Nat×OE//g.1<=ln l/\ln g.2.l=3*g.1}) (λg=>[(3,g.1.2.sl 1),(4,.c (.int (g.1.1:Nat) (mg r g.2.1)))]) (λg=>[(1,g.1.2.blk)]) (λg=>ln l-g.1.1) ⟨(0,OE.none),ah _,rfl⟩ trivial ?_;rintro ⟨⟨k,o⟩,f,e⟩ vs;have f:k<=ln l:=f;have e:ln o.l=3*k:=e;dsimp only;refine zB ?_ ?_<;>intro d;have d:k<ln l:=dL d;obtain⟨T,hT⟩: ∃T,T=l[k]:=⟨_,rfl⟩;have q:dk (fy l) (0+k*9) 9=some (qd T):=by rw[hT];exact HP l d
 refine p6 ?_;conv=>arg 2;tactic'=>exact ap rfl rfl rfl rfl q rfl
 exact⟨rfl,OE.app o (m:=3) (by rw[e];omega),λx p=> dD [0,4] ⟨(k+1,o.push (trE T) rfl x p),d,by show(o.l++_).length=_;rw[aa,e];show 3*k+3=_;omega⟩⟩;have d:ln l<=k:=gi d;obtain rfl:k=ln l:=bo f d;exact zO [0,1] [0,1] (h o e)
def IJ:cP:=λd g K=> ∃j len f h i l e,d=[.c (.sli j 0 0 len f h),.agg (Oh e)]/\g=[⟨i,true,gK l,0⟩]/\ln l=len/\ ∀(c:Nat) hc,K (.c (.int (c:Nat) hc)) []
def ZH {nl} {c n cap:Nat} (h:bZ nl n cap) (hk:k<=n) (d:c<=k):IR (c:Nat):=mg h (aC d hk)
def Lr:jv prog 155 IJ:=cV (cm fW 0) bj (ck (cm fW 0) bj bg 0) ⟨func155,kr,kr⟩ λm q K j=>by
 obtain⟨x,_,p,h,u,l,e,rfl,rfl,rfl,j⟩:=j;refine⟨λy r o=> ?_,?_⟩;have s:=o 0 (Nat.zero_lt_succ _);simp only[cg,SV.den,C.den,C.cells,s];rfl;conv=>whnf
 refine zK [0,1] [0,3,5,6] [0] (G:={g:Nat×Nat//g.1<=ln l/\g.2<=g.1}) (λg=>[(5,.c (.int (g.1.2:Nat) (ZH h g.2.1 g.2.2))),(6,.c (.int (g.1.1:Nat) (mg h g.2.1)))]) (λ_=>[]) (λg=>ln l-g.1.1) ⟨(0,0),ah _,ah _⟩ trivial ?_;rintro ⟨⟨k,c⟩,i,f⟩ vs;have i:k<=ln l:=i;have f:c<=k:=f;dsimp only;refine zB ?_ ?_<;>intro d;have d:k<ln l:=dL d;refine eS ?_;refine zB ?_ ?_<;>intro _;exact dD [0,1] ⟨(k+1,c+1),d,om⟩;exact dD [0,1] ⟨(k+1,c),d,om⟩;exact zO [0] [0] (j c (ZH h i f))
end
section
variable {j:Nat} {e:ED} {nl:Bool}
def xE (l:List ED) (j:Nat) (e:ED):List ED:=l.take j++e::l.drop j
def uR {l} (h:j<=ln l):(xE l j e).length=j+1+(ln l-j):=by unfold xE;simp only[aa,aO,aS,bN];omega
def rU {l c} (hj:j<=ln l) (h:bZ nl (j+1+(ln l-j)) c):bZ nl (xE l j e).length c:=by rw[uR hj];exact h
def Xl {l c b} (hj:j<=ln l) h ρ:(SV.c (.sli nl b 0 (j+1+(ln l-j)) c h)).den ρ=((OE.mk (xE l j e) nl c (rU hj h)).sl b).den ρ:=by simp only[OE.sl,SV.den,C.den,C.cells,uR hj]
def SM {l c} (hj:j<=ln l) h: 186 =(OE.mk (xE l j e) nl c (rU hj h)).blk.ty/\nl=(OE.mk (xE l j e) nl c (rU hj h)).blk.ro/\(c-(j+1+(ln l-j)))*6=(OE.mk (xE l j e) nl c (rU hj h)).blk.tl/\ ∀ρ,af ρ ((gK (l.take j)++Oh e)++gK (l.drop j))=af ρ (OE.mk (xE l j e) nl c (rU hj h)).blk.cs:=by refine⟨rfl,rfl,?_,λρ=> ?_⟩;simp only[OE.blk,uR hj];show _=af ρ (gK (xE l j e));unfold xE;rw[kg,aJ];rfl
def xQ:cP:=λd g K=> ∃nl len f h i l,d=[.c (.sli nl 0 0 len f h)]/\g=[⟨i,true,fy l,0⟩]/\ln l=len/\len<=300000/\ ∀o:OE,ln o.l<=3*len->K (o.sl 1) [o.blk]
def a6U:List (FuncId×cP):=[(154,IK),(155,IJ)]
def VQ:iL prog a6U:= .cons Ls<| .cons Lr .nil
def ZE {n k:Nat} (h:k<=3*n) (d:n<=300000):IR (k:Nat):=ui
def yI:jv prog 126 xQ:=cV (cm fW 0) bj (dX VQ (ck (cm fW 0) bj bg 0)) ⟨func126,kr,kr⟩ λB J K y=>by
 obtain⟨nl,_,I,O,P,l,rfl,rfl,rfl,h,y⟩:=y;refine⟨zD,?_⟩;refine⟨⟨eb l,trivial⟩,⟨_,_,_,_,_,l,rfl,rfl,rfl,h,λi D=> ?_⟩⟩;conv=>whnf
 refine zK [0,1,1000+ 186] [3,4,5] [0,1,2] (G:={g:Nat×OE//g.1<=ln i.l/\ln g.2.l<=g.1}) (λg=>[(4,g.1.2.sl 2),(5,.c (.int (g.1.1:Nat) (ZE (by have:=g.2.1;omega:g.1.1<=3*ln l) h)))]) (λg=>[(2,g.1.2.blk)]) (λg=>ln i.l-g.1.1) ⟨(0,OE.none),ah _,ah _⟩ trivial ?_;rintro ⟨⟨k,o⟩,s,q⟩ vs;have s:k<=ln i.l:=s;have q:ln o.l<=k:=q;dsimp only;refine zB ?_ ?_<;>intro d;have d:k<ln i.l:=dL d;obtain⟨e,he2⟩: ∃e,e=i.l[k]:=⟨_,rfl⟩;have M:dk (gK i.l) (0+k*6) 6=some (Oh e):=by rw[he2];exact AA i.l d
 conv=>whnf
 conv=>arg 2;tactic'=>exact be (k:=k) (hi:=(ZE (by omega:k<=3*ln l) h)) rfl rfl rfl rfl d
 conv=>whnf
 conv=>arg 2;tactic'=>exact ap rfl rfl rfl rfl M rfl
 refine⟨ff,⟨lf i.l,trivial⟩,⟨_,_,_,_,_,i.l,⟨e.b,e.a⟩,rfl,rfl,rfl,λQ N=> ?_⟩⟩;refine zB ?_ ?_<;>intro _;exact dD [0,1,2] ⟨(k+1,o),d,eH q⟩;refine⟨ff,⟨lf o.l,trivial⟩,⟨_,_,_,_,_,o.l,e,rfl,rfl,rfl,λz L=> ?_⟩⟩;refine zB ?_ ?_<;>intro _;exact dD [0,1,2] ⟨(k+1,o),d,eH q⟩;conv=>whnf
 refine zK [0,1,2,3] [3,4,5,6,7] [0,1,2] (G:={j:Nat//j<=ln o.l}) (λg=>[(7,.c (.int (g.1:Nat) (mg o.ok g.2)))]) (λ_=>[]) (λg=>ln o.l-g.1) ⟨0,ah _⟩ trivial ?_;rintro ⟨j,f⟩ vs2;have f:j<=ln o.l:=f;dsimp only;refine zB ?_ ?_<;>intro m;have m:j<ln o.l:=dL m;refine eS ?_;refine zB ?_ ?_<;>intro _
 iterate 2
  try exact dD [0,1,2,3] ⟨j+1,m⟩
  have r:bu (gK (o.l.take j))=j*6:=by rw[lg,aO];omega
  have x:bu (Oh e)=6:=rfl
  have p:bu (gK (o.l.take j)++Oh e)=(j+1)*6:=by rw[cw,r,x];omega
  conv=>whnf
  conv=>arg 2;tactic'=>exact fN (k:=j) (hi:=mg o.ok f) rfl rfl rfl rfl (aC f o.ok.1) (gL o.ok f)
  conv=>whnf
  conv=>
   arg 2
   tactic'=>exact Br o.l f
  refine⟨s7 _,om,λz E=>⟨rfl,⟨rfl,rfl,r,λ_=>by have:=E.1;show bu (gK (o.l.take j))+(z-j)*6=z*6;omega,om⟩,λA H=> ?_⟩⟩
  conv=>whnf
  conv=>arg 2;tactic'=>exact fO (hi:=mg o.ok f) rfl rfl rfl rfl f
  conv=>whnf
  conv=>
   arg 2
   tactic'=>exact Bq o.l f o.ok.1
  exact⟨s7 _,⟨rfl,rfl,p,λ_=>by have:=H.1;show bu (gK (o.l.take j)++Oh e)+(A-(j+1))*6=A*6;omega,om⟩,λF u=> nq [0,1,7] ⟨(k+1,OE.mk (xE o.l j e) _ F (rU f u)),d,by show(xE o.l j e).length<=k+1;rw[uR f];omega⟩ (zA (Xl f u) (pc (SM f u)))⟩
 have d:ln i.l<=k:=gi d;obtain rfl:k=ln i.l:=bo s d;exact zO [0,2] [0,1] (y o (by rw[<-D];exact q))
end
def K8:cP:=λd f K=> ∃i len e h g l p q,d=[.c (.sli i 0 0 len e h),.agg (mK p),.agg (mK q)]/\f=[⟨g,true,fy l,0⟩]/\ln l=len/\ ∀r b,K (.tup [.agg (mK r),.c (.val (.bool b))]) []
def irz:IR (0:Int):=dc
def zPT:PT:=⟨0,0,0,irz,irz,irz⟩
def Rt:jv prog 198 K8:=cV (cm fW 0) bj (ck (cm fW 0) bj bg 0) ⟨func198,kr,kr⟩ λh m K e=>by
 obtain⟨r,_,j,i,o,l,p,q,rfl,rfl,rfl,e⟩:=e;refine⟨zD,?_⟩;conv=>whnf
 refine zK [0,1,2,3] [0,4,5,6,8] [0] (G:={k:Nat//k<=ln l}) (λg=>[(8,.c (.int (g.1:Nat) (mg i g.2)))]) (λ_=>[]) (λg=>ln l-g.1) ⟨0,ah _⟩ trivial ?_;rintro ⟨k,f⟩ vs;have f:k<=ln l:=f;dsimp only;refine zB ?_ ?_<;>intro d;have d:k<ln l:=dL d;conv=>whnf
 refine .inl ⟨4,?_⟩;refine eS ?_;refine zB ?_ ?_<;>intro _;refine eS ?_;refine zB ?_ ?_<;>intro _;refine eS ?_;exact zO [0] [0] (e l[k].c true);refine eS ?_;refine zB ?_ ?_<;>intro _;refine eS ?_;refine zB ?_ ?_<;>intro _;refine eS ?_;exact zO [0] [0] (e l[k].a true);refine eS ?_;refine zB ?_ ?_<;>intro _;refine eS ?_;refine zB ?_ ?_<;>intro _;refine eS ?_;exact zO [0] [0] (e l[k].b true);exact dD [0,1,2,3] ⟨k+1,d⟩;exact dD [0,1,2,3] ⟨k+1,d⟩;refine eS ?_;refine zB ?_ ?_<;>intro _;refine eS ?_;refine zB ?_ ?_<;>intro _;refine eS ?_;exact zO [0] [0] (e l[k].b true);exact dD [0,1,2,3] ⟨k+1,d⟩;exact dD [0,1,2,3] ⟨k+1,d⟩;refine eS ?_;refine zB ?_ ?_<;>intro _;refine eS ?_;refine zB ?_ ?_<;>intro _;refine eS ?_;exact zO [0] [0] (e l[k].a true);refine eS ?_;refine zB ?_ ?_<;>intro _;refine eS ?_;refine zB ?_ ?_<;>intro _;refine eS ?_;exact zO [0] [0] (e l[k].b true);exact dD [0,1,2,3] ⟨k+1,d⟩;exact dD [0,1,2,3] ⟨k+1,d⟩;refine eS ?_;refine zB ?_ ?_<;>intro _;refine eS ?_;refine zB ?_ ?_<;>intro _;refine eS ?_;exact zO [0] [0] (e l[k].b true);exact dD [0,1,2,3] ⟨k+1,d⟩;exact dD [0,1,2,3] ⟨k+1,d⟩;have d:ln l<=k:=gi d;exact zO [0] [0] (e p false)
def Q5:cP:=λd f K=> ∃i len e h g l p,d=[.c (.sli i 0 0 len e h),.agg (mK p)]/\f=[⟨g,true,fy l,0⟩]/\ln l=len/\len<=300000/\ ∀b,K (.c (.val (.bool b))) []
def piC:List (FuncId×cP):=[(198,K8)]
def a2L:iL prog piC:= .cons Rt .nil
def a4N {n k:Nat} (h:k<=max 1 n) (d:n<=900000):IR (k:Nat):=ui
def OT.push_len1 (o:OT) {t} c (h:bZ (o.nl&&decide (1=0)) (ln o.l+1) c):(o.push [t] rfl c h).l.length=ln o.l+1:=by show(o.l++[t]).length=_;simp
def OP.push_len1 (o:OP) {t} c (h:bZ (o.nl&&decide (1=0)) (ln o.l+1) c):(o.push [t] rfl c h).l.length=ln o.l+1:=by show(o.l++[t]).length=_;simp
def oP {a b c} (h:a=b+1) (h2:b<=c):a<=c+1:=om
def Wm:jv prog 182 Q5:=cV (cm fW 0) bj (dX a2L (ck (cm fW 0) bj bg 0)) ⟨func182,kr,kr⟩ λO U K F=>by
 obtain⟨W,_,T,R,V,l,p,rfl,rfl,rfl,N,F⟩:=F;refine⟨zD,?_⟩;conv=>whnf
 refine zK [0,1,1000+ 58,1000+ 33] [0,3,5,6,7] [0,2,3] (G:={g:Nat×OT×OP//g.1<=ln l/\ln g.2.1.l<=3*g.1/\ln g.2.2.l<=3*g.1}) (λg=>[(5,g.1.2.1.sl 2),(6,g.1.2.2.sl 3),(7,.c (.int (g.1.1:Nat) (mg R g.2.1)))]) (λg=>[(2,g.1.2.1.blk),(3,g.1.2.2.blk)]) (λg=>ln l-g.1.1) ⟨(0,OT.none,OP.none),ah _,ah _,ah _⟩ trivial ?_;rintro ⟨⟨k,m,s⟩,I,J,H⟩ vs;have I:k<=ln l:=I;have J:ln m.l<=3*k:=J;have H:ln s.l<=3*k:=H;dsimp only;refine zB ?_ ?_<;>intro o;have o:k<ln l:=dL o;conv=>whnf
 refine zK [0,1,2,3] [0,3,5,6,7,8] [0,2,3] (G:={g:Nat×OT×OP//g.1<=3/\ln g.2.1.l<=3*k+g.1/\ln g.2.2.l<=3*k+g.1}) (λg=>[(5,g.1.2.1.sl 2),(6,g.1.2.2.sl 3),(8,.c (.int (g.1.1:Nat) (ir3 g.2.1)))]) (λg=>[(2,g.1.2.1.blk),(3,g.1.2.2.blk)]) (λg=>3-g.1.1) ⟨(0,m,s),ah _,J,H⟩ trivial ?_;rintro ⟨⟨j,f,s2⟩,P,e,d⟩ vs2;have P:j<=3:=P;have e:ln f.l<=3*k+j:=e;have d:ln s2.l<=3*k+j:=d;have A:j=3\/j=0\/j=1\/j=2:=om;rcases A with rfl|rfl|rfl|rfl;exact dD [0,1,2,3] ⟨(k+1,f,s2),o,by show (ln f.l)<=3*(k+1);omega,by show (ln s2.l)<=3*(k+1);omega⟩;dsimp only;refine eS ?_;refine zB ?_ ?_<;>intro _;refine eS ?_;refine⟨rfl,OT.app f (m:=1) om,λz u=> ?_⟩;refine eS ?_;exact⟨rfl,OP.app s2 (m:=1) om,λy x=> dD [0,1,5,7] ⟨(1,f.push [l[k]] rfl z u,s2.push [l[k].b] rfl y x),(by decide:1<=3),oP (f.push_len1 z u) e,oP (s2.push_len1 y x) d⟩⟩;exact dD [0,1,2,3] ⟨(1,f,s2),(by decide:1<=3),eH e,eH d⟩;dsimp only;refine eS ?_;refine zB ?_ ?_<;>intro _;refine eS ?_;refine⟨rfl,OT.app f (m:=1) om,λz u=> ?_⟩;refine eS ?_;exact⟨rfl,OP.app s2 (m:=1) om,λy x=> dD [0,1,5,7] ⟨(2,f.push [l[k]] rfl z u,s2.push [l[k].c] rfl y x),(by decide:2<=3),oP (f.push_len1 z u) e,oP (s2.push_len1 y x) d⟩⟩;exact dD [0,1,2,3] ⟨(2,f,s2),(by decide:2<=3),eH e,eH d⟩;dsimp only;refine eS ?_;refine zB ?_ ?_<;>intro _;refine eS ?_;refine⟨rfl,OT.app f (m:=1) om,λz u=> ?_⟩;refine eS ?_;exact⟨rfl,OP.app s2 (m:=1) om,λy x=> dD [0,1,5,7] ⟨(3,f.push [l[k]] rfl z u,s2.push [l[k].a] rfl y x),(by decide:3<=3),oP (f.push_len1 z u) e,oP (s2.push_len1 y x) d⟩⟩;exact dD [0,1,2,3] ⟨(3,f,s2),(by decide:3<=3),eH e,eH d⟩;have o:ln l<=k:=gi o;obtain rfl:k=ln l:=bo I o;conv=>whnf
 refine zK [0,1,2,3] [3,5,6,9] [0,2,3] (G:={q:Nat//q<=ln s.l}) (λg=>[(9,.c (.int (g.1:Nat) (mg s.ok g.2)))]) (λ_=>[]) (λg=>ln s.l-g.1) ⟨0,ah _⟩ trivial ?_;rintro ⟨q,Q⟩ vs3;have Q:q<=ln s.l:=Q;dsimp only;refine zB ?_ ?_<;>intro h;have h:q<ln s.l:=dL h;refine p6 ?_;conv=>arg 2;tactic'=>exact ap rfl rfl rfl rfl (by exact(by rw[aN];exact ib s.l h:dk (fm s.l) (0+q*3) 3=some (mK s.l[q]))) rfl
 conv=>whnf
 have M:ln m.l<=900000:=om;refine zK [0,1,2,3,4] [3,5,6,9,10,11] [0,2,3] (G:={g:Nat×PT//1<=g.1/\g.1<=max 1 (ln m.l)}) (λg=>[(11,.c (.int (g.1.1:Nat) (a4N g.2.2 M)))]) (λg=>[(4,⟨33,false,mK g.1.2,0⟩)]) (λg=>ln m.l-g.1.1) ⟨(1,s.l[q]),ai _,Nat.le_max_left _ _⟩ trivial ?_;rintro ⟨⟨i,L⟩,D,B⟩ vs4;have D:1<=i:=D;have B:i<=max 1 (ln m.l):=B;dsimp only;refine zB ?_ ?_<;>intro E;have E:i<ln m.l:=dL E;refine⟨ff,ff,⟨lC m.l,trivial⟩,⟨_,_,_,_,_,m.l,p,L,rfl,rfl,rfl,λr b=> ?_⟩⟩;refine zB ?_ ?_<;>intro _;exact dD [0,1,2,3] ⟨q+1,h⟩;refine p6 ?_;conv=>arg 2;tactic'=>exact ap rfl rfl rfl rfl (by exact(by rw[aN];exact ib s.l h:dk (fm s.l) (0+q*3) 3=some (mK s.l[q]))) rfl
 refine zB ?_ ?_<;>intro _;exact zO [0] [0] (F true);exact dD [0,1,2,3,4] ⟨(i+1,r),om,om⟩;exact dD [0,1,2,3] ⟨q+1,h⟩;exact zO [0] [0] (F false)
def QS:cP:=λd g K=> ∃j len f h i l b,d=[.c (.sli j 0 0 len f h),.c (.val (.bool b))]/\g=[⟨i,true,fy l,0⟩]/\ln l=len/\len<=300000/\ ∀e he,K (.c (.int e he)) []
def a0S:cP:=λd g K=> ∃j len f h i l,d=[.c (.sli j 0 0 len f h)]/\g=[⟨i,true,fy l,0⟩]/\ln l=len/\len<=300000/\ ∀e he,K (.c (.int e he)) []
def ckC:List (FuncId×cP):=[(154,IK),(155,IJ),(126,xQ),(145,uu),(182,Q5)]
def a01:iL prog ckC:= .cons Ls<| .cons Lr<| .cons yI<| .cons vR<| .cons Wm .nil
def Wb:jv prog 153 QS:=cV (cm fW 0) bj (dX a01 (ck (cm fW 0) bj bg 0)) ⟨func153,kr,kr⟩ λr y K h=>by
 obtain⟨J,_,x,u,F,l,b,rfl,rfl,rfl,d,h⟩:=h;refine⟨zD,?_⟩;conv=>whnf
 refine zK [0] [0,1,5] [0] (G:={k:Nat//k<=ln l}) (λg=>[(5,.c (.int (g.1:Nat) (mg u g.2)))]) (λ_=>[]) (λg=>ln l-g.1) ⟨0,ah _⟩ trivial ?_;rintro ⟨k,p⟩ vs;have p:k<=ln l:=p;dsimp only;refine zB ?_ ?_<;>intro j;have j:k<ln l:=dL j;refine wM ?_;refine zB ?_ ?_<;>intro _;exact zO [0] [0] (h _ _);refine wM ?_;refine zB ?_ ?_<;>intro _;exact zO [0] [0] (h _ _);refine wM ?_;refine zB ?_ ?_<;>intro _;exact zO [0] [0] (h _ _);exact dD [0] ⟨k+1,j⟩;refine⟨⟨eb l,trivial⟩,⟨_,_,_,_,_,l,rfl,rfl,rfl,d,λi D=> ?_⟩⟩;conv=>whnf
 refine zK [0,1] [0,1,6,7] [0,1] (G:={q:Nat//q<=ln i.l}) (λg=>[(7,.c (.int (g.1:Nat) (mg i.ok g.2)))]) (λ_=>[]) (λg=>ln i.l-g.1) ⟨0,ah _⟩ trivial ?_;rintro ⟨q,m⟩ vs3;have m:q<=ln i.l:=m;dsimp only;refine zB ?_ ?_<;>intro e;have e:q<ln i.l:=dL e;refine eS ?_;refine⟨ff,⟨lf i.l,trivial⟩,⟨_,_,_,_,_,i.l,i.l[q],rfl,rfl,rfl,λI B=> ?_⟩⟩;refine zB ?_ ?_<;>intro _;exact zO [0] [0] (h _ _);exact dD [0,1] ⟨q+1,e⟩;refine zB ?_ ?_<;>intro _;refine⟨⟨eb l,trivial⟩,⟨_,_,_,_,_,l,rfl,rfl,rfl,d,λH A=> ?_⟩⟩;refine zB ?_ ?_<;>intro _;exact zO [0] [0] (h _ _);refine⟨⟨eb l,trivial⟩,⟨_,_,_,_,_,l,rfl,rfl,rfl,d,λf s z o=> ?_⟩⟩;conv=>whnf
 refine zK [0,3] [0,8,9] [0,1] (G:={q:Nat//q<=ln f.l}) (λg=>[(9,.c (.int (g.1:Nat) (mg f.ok g.2)))]) (λ_=>[]) (λg=>ln f.l-g.1) ⟨0,ah _⟩ trivial ?_
 iterate 2
  try
   refine⟨⟨eb l,trivial⟩,⟨_,_,_,_,_,l,rfl,rfl,rfl,d,λf s z o=> ?_⟩⟩
   conv=>whnf
   refine zK [0,2] [0,8,9] [0,1] (G:={q:Nat//q<=ln f.l}) (λg=>[(9,.c (.int (g.1:Nat) (mg f.ok g.2)))]) (λ_=>[]) (λg=>ln f.l-g.1) ⟨0,ah _⟩ trivial ?_
  rintro ⟨q,m⟩ vs5
  have m:q<=ln f.l:=m
  dsimp only
  refine zB ?_ ?_<;>intro e
  have e:q<ln f.l:=dL e
  refine p6 ?_
  conv=>arg 2;tactic'=>exact ap rfl rfl rfl rfl (by exact(by rw[aN];exact ib f.l e:dk (fm f.l) (0+q*3) 3=some (mK f.l[q]))) rfl
  refine⟨ff,⟨eb l,trivial⟩,⟨_,_,_,_,_,l,f.l[q],rfl,rfl,rfl,d,λE=> ?_⟩⟩
  refine zB ?_ ?_<;>intro _
  exact zO [0] [0] (h _ _)
  exact dD [0,1] ⟨q+1,e⟩
  exact zO [0] [0] (h _ _)
def a62:List (FuncId×cP):=[(153,QS)]
def VV:iL prog a62:= .cons Wb .nil
section
variable {L:List GU} {tb tg td tc:TypeId} {n1 n2 rb rg rd rc:Bool} {l1 c1 c2:Nat} {hf:Nat->Option aY} {CL:List CU}
noncomputable abbrev cLs:Code:=match(f114).body with|some c=>c|none=> .skip
abbrev ELs:ic:=vA 20 base
abbrev HLs:=inl ELs Mh 0
def Ov (tb tg td tc:TypeId) (n1:Bool) (l1 c1:Nat) (h1:bZ n1 l1 c1) (n2:Bool) (L:List GU) (c2:Nat) (h2:bZ n2 (ln L) c2) (cs:List C):List aY:=[⟨.t tb,true,[.ptr 1 0],0⟩,⟨.t tg,true,[.sli n1 3 0 l1 c1 h1,.sli n2 2 0 (ln L) c2 h2],0⟩,⟨.t td,true,eO L,0⟩,⟨.t tc,true,cs,0⟩]
def zp {k:Nat} (hx:k<(jZ 0 L).length) (hk:k<ln L) h:(jZ 0 L)[k]=[.c (.int k h),.agg [L[k].i.v,L[k].o.v]]:=by have e:=v8 0 L k hk;rw[iE,ae hx,aN,L0 h] at e;exact e
def SX {k:Nat} (hk:k<ln L) h:ij [] (jZ 0 L) k=[.c (.int k h),.agg [L[k].i.v,L[k].o.v]]:=by rw[v8 0 L k hk,aN,L0 h]
def SY {h1 h2 cs} l: Nj ELs HLs l (jZ 0 L) (Ov tb tg td tc n1 l1 c1 h1 n2 L c2 h2 cs) cLs false 0 (.c (.val (.func (.yield l) #[] #[]))::([SV.c (.ptr 0 0)]++au ((f114).ntmps-2) uv)) (Ov tb tg td tc n1 l1 c1 h1 n2 L c2 h2 cs) λe st k _ _=>(match e with| .exit _=>False|_=>st=true\/k=(jZ 0 L).length):=by
 unfold Ov;refine⟨rfl,λm k r=>m+k=ln L/\ ∃z hz g,z=(k:Int)/\r=((.c (.val (.func (.yield l) #[] #[])):: .c (.ptr 0 0):: .c (.val (g 2)):: .c (.val (g 3)):: .c (.val (g 4)):: .c (.val (g 5)):: .c (.val (g 6)):: .c (.val (g 7)):: .c (.sli n2 2 0 (ln L) c2 h2):: .c (.int (ln L:Nat) (aR h2 (ai _))):: .c (.int z hz):: .c (.val (g 11)):: .c (.val (g 12)):: .c (.val (g 13)):: .c (.val (g 14)):: .c (.val (g 15)):: .c (.val (g 16)):: .c (.val (g 17)):: .c (.val (g 18)):: .c (.val (g 19)):: .c (.val (g 20)):: .c (.val (g 21)):: .c (.val (g 22)):: .c (.val (g 23)):: .c (.val (g 24))::[]):List SV),⟨[0,1,8,9,10],λg=>⟨?_,ln L,rfl,0,dc,g,rfl,rfl⟩⟩,?_⟩;exact λo h i=>by have q:o 0=h 0:=i 0 rfl;have p:o 2=h 2:=i 2 rfl;show cg (SV.den o) ((.c (.val (.func (.yield l) #[] #[])):: .c (.ptr 0 0):: .c (.val (g 2)):: .c (.val (g 3)):: .c (.val (g 4)):: .c (.val (g 5)):: .c (.val (g 6)):: .c (.val (g 7)):: .c (.sli n2 2 0 (ln L) c2 h2):: .c (.int (ln L:Nat) (aR h2 (ai _))):: .c (.int 0 dc):: .c (.val (g 11)):: .c (.val (g 12)):: .c (.val (g 13)):: .c (.val (g 14)):: .c (.val (g 15)):: .c (.val (g 16)):: .c (.val (g 17)):: .c (.val (g 18)):: .c (.val (g 19)):: .c (.val (g 20)):: .c (.val (g 21)):: .c (.val (g 22)):: .c (.val (g 23)):: .c (.val (g 24))::[]):List SV)=cg (SV.den h) ((.c (.val (.func (.yield l) #[] #[])):: .c (.ptr 0 0):: .c (.val (g 2)):: .c (.val (g 3)):: .c (.val (g 4)):: .c (.val (g 5)):: .c (.val (g 6)):: .c (.val (g 7)):: .c (.sli n2 2 0 (ln L) c2 h2):: .c (.int (ln L:Nat) (aR h2 (ai _))):: .c (.int 0 dc):: .c (.val (g 11)):: .c (.val (g 12)):: .c (.val (g 13)):: .c (.val (g 14)):: .c (.val (g 15)):: .c (.val (g 16)):: .c (.val (g 17)):: .c (.val (g 18)):: .c (.val (g 19)):: .c (.val (g 20)):: .c (.val (g 21)):: .c (.val (g 22)):: .c (.val (g 23)):: .c (.val (g 24))::[]):List SV);simp only[aI,dj,SV.den,C.den,C.cells,lF,q,p]
 rintro m k r ⟨x,_,hki,g,rfl,rfl⟩;refine zB ?_ ?_<;>intro j;have j:k<ln L:=dL j;refine eS ?_;refine⟨⟨rfl,rfl,by rw[iD];exact j,λo=> ?_⟩,[0,1,8,9,10],λf=>⟨?_,?_,[],λs=>⟨λ_ _ _=>rfl,?_⟩⟩⟩;rw[SX j hki];rfl;exact λo h i=>by have q:o 0=h 0:=i 0 rfl;have p:o 2=h 2:=i 2 rfl;show cg (SV.den o) ((.c (.val (.func (.yield l) #[] #[])):: .c (.ptr 0 0):: .c (.val (f 2)):: .c (.val (f 3)):: .c (.val (f 4)):: .c (.val (f 5)):: .c (.val (f 6)):: .c (.val (f 7)):: .c (.sli n2 2 0 (ln L) c2 h2):: .c (.int (ln L:Nat) (aR h2 (ai _))):: .c (.int (k:Nat) hki):: .c (.val (f 11)):: .c (.val (f 12)):: .c (.val (f 13)):: .c (.val (f 14)):: .c (.val (f 15)):: .c (.val (f 16)):: .c (.val (f 17)):: .c (.val (f 18)):: .c (.val (f 19)):: .c (.val (f 20)):: .c (.val (f 21)):: .c (.val (f 22)):: .c (.val (f 23)):: .c (.val (f 24))::[]):List SV)=cg (SV.den h) ((.c (.val (.func (.yield l) #[] #[])):: .c (.ptr 0 0):: .c (.val (f 2)):: .c (.val (f 3)):: .c (.val (f 4)):: .c (.val (f 5)):: .c (.val (f 6)):: .c (.val (f 7)):: .c (.sli n2 2 0 (ln L) c2 h2):: .c (.int (ln L:Nat) (aR h2 (ai _))):: .c (.int (k:Nat) hki):: .c (.val (f 11)):: .c (.val (f 12)):: .c (.val (f 13)):: .c (.val (f 14)):: .c (.val (f 15)):: .c (.val (f 16)):: .c (.val (f 17)):: .c (.val (f 18)):: .c (.val (f 19)):: .c (.val (f 20)):: .c (.val (f 21)):: .c (.val (f 22)):: .c (.val (f 23)):: .c (.val (f 24))::[]):List SV);simp only[aI,dj,SV.den,C.den,C.cells,lF,q,p]
 refine⟨rfl,[0,1,8,9,10],λd=>⟨?_,m-1,om,om,_,IR.wrap _,d,dr j h2.ir,rfl⟩⟩;exact λo h i=>by have q:o 0=h 0:=i 0 rfl;have p:o 2=h 2:=i 2 rfl;show cg (SV.den o) ((.c (.val (.func (.yield l) #[] #[])):: .c (.ptr 0 0):: .c (.val (d 2)):: .c (.val (d 3)):: .c (.val (d 4)):: .c (.val (d 5)):: .c (.val (d 6)):: .c (.val (d 7)):: .c (.sli n2 2 0 (ln L) c2 h2):: .c (.int (ln L:Nat) (aR h2 (ai _))):: .c (.int (IntKind.i64.wrap ((k:Int)+1)) (IR.wrap _)):: .c (.val (d 11)):: .c (.val (d 12)):: .c (.val (d 13)):: .c (.val (d 14)):: .c (.val (d 15)):: .c (.val (d 16)):: .c (.val (d 17)):: .c (.val (d 18)):: .c (.val (d 19)):: .c (.val (d 20)):: .c (.val (d 21)):: .c (.val (d 22)):: .c (.val (d 23)):: .c (.val (d 24))::[]):List SV)=cg (SV.den h) ((.c (.val (.func (.yield l) #[] #[])):: .c (.ptr 0 0):: .c (.val (d 2)):: .c (.val (d 3)):: .c (.val (d 4)):: .c (.val (d 5)):: .c (.val (d 6)):: .c (.val (d 7)):: .c (.sli n2 2 0 (ln L) c2 h2):: .c (.int (ln L:Nat) (aR h2 (ai _))):: .c (.int (IntKind.i64.wrap ((k:Int)+1)) (IR.wrap _)):: .c (.val (d 11)):: .c (.val (d 12)):: .c (.val (d 13)):: .c (.val (d 14)):: .c (.val (d 15)):: .c (.val (d 16)):: .c (.val (d 17)):: .c (.val (d 18)):: .c (.val (d 19)):: .c (.val (d 20)):: .c (.val (d 21)):: .c (.val (d 22)):: .c (.val (d 23)):: .c (.val (d 24))::[]):List SV);simp only[aI,dj,SV.den,C.den,C.cells,lF,q,p]
 conv=>whnf
 exact .inl rfl;have u:ln L<=k:=gi j;conv=>whnf
 exact .inr (by rw[iD];omega)
def a5t (ρ:fF) (b e d c:Nat):fF
 |0=>ρ b
 |1=>ρ e
 |2=>ρ d
 |3=>ρ c
 |i=>ρ i
def a1Z {ρ b k d c Z T W U h1 h2}  (N:hf b=some ⟨.t tb,rb,[.ptr k 0],Z⟩) (I:hf k=some ⟨.t tg,rg,[.sli n1 c 0 l1 c1 h1,.sli n2 d 0 (ln L) c2 h2],T⟩) (H:hf d=some ⟨.t td,rd,eO L,W⟩) (J:hf c=some ⟨.t tc,rc,eM CL,U⟩) {w} (h:GR hf ρ [b,k,d,c] w): Fo (Ov tb tg td tc n1 l1 c1 h1 n2 L c2 h2 (eM CL)) (a5t ρ b k d c) w:=by
 obtain⟨g,p,h⟩:=h;have G:g b=ρ b:=p b (by rw[N];rfl);have B:g k=ρ k:=p k (by rw[I];rfl);have D:g d=ρ d:=p d (by rw[H];rfl);have qc:g c=ρ c:=p c (by rw[J];rfl);obtain⟨b1,V,-⟩:=h b sp _ N;obtain⟨g1,O,-⟩:=h k sp _ I;obtain⟨R,X,-⟩:=h d sp _ H;obtain⟨Y,P,-⟩:=h c sp _ J
 have j: ∀{t M r z x y},(⟨t,true,z,x⟩:aY).void=false->(⟨M,r,z,y⟩:aY).void=false:=λ{t M r z x y} s=>by
  cases z with
  |nil=>cases s
  |cons a l=>cases r<;>rfl
 intro i blk u;rcases i with _|_|_|_|i;cases u;refine⟨rfl,rfl,λf m=>⟨?_,λh=>by cases h⟩,λ_=>by show(ρ b).1<_;rw[<-G];exact V (by cases rb<;>rfl),λo l q=>by cases q⟩;have Q:f 0=g b:=(m 0 rfl).trans G.symm;have E:f 1=g k:=(m 1 rfl).trans B.symm;have e:af f [.ptr 1 0]=af g [.ptr k 0]:=by simp only[af,aL,bF,C.cells,lF,E]
 show w.rangeAt (f 0).1 (f 0).2 (af f [.ptr 1 0]);rw[Q,e];exact b1.1;cases u;refine⟨rfl,rfl,λf m=>⟨?_,λh=>by cases h⟩,λ_=>by show(ρ k).1<_;rw[<-B];exact O (by cases rg<;>rfl),λo l q=>by cases q⟩;have E:f 1=g k:=(m 1 rfl).trans B.symm;have A:f 2=g d:=(m 2 rfl).trans D.symm;have F:f 3=g c:=(m 3 rfl).trans qc.symm;have e:af f [.sli n1 3 0 l1 _ h1,.sli n2 2 0 (ln L) _ h2]=af g [.sli n1 c 0 l1 _ h1,.sli n2 d 0 (ln L) _ h2]:=by simp only[af,aL,bF,C.cells,A,F]
 show w.rangeAt (f 1).1 (f 1).2 (af f [.sli n1 3 0 l1 _ h1,.sli n2 2 0 (ln L) _ h2]);rw[E,e];exact g1.1;cases u;refine⟨rfl,rfl,λf m=>⟨?_,λh=>by cases h⟩,λs=>by show(ρ d).1<_;rw[<-D];exact X (j s),λo l q=>by cases q⟩;have A:f 2=g d:=(m 2 rfl).trans D.symm;show w.rangeAt (f 2).1 (f 2).2 (af f (eO L));rw[A,show af f (eO L)=af g (eO L) from bT L _ _];exact R.1;cases u;refine⟨rfl,rfl,λf m=>⟨?_,λh=>by cases h⟩,λs=>by show(ρ c).1<_;rw[<-qc];exact P (j s),λo l q=>by cases q⟩;have F:f 3=g c:=(m 3 rfl).trans qc.symm;show w.rangeAt (f 3).1 (f 3).2 (af f (eM CL));rw[F,show af f (eM CL)=af g (eM CL) from bR CL _ _];exact Y.1;simp[Ov,an] at u
def JK {b e d c r g j i h1 h2} 
  (s:hf b=some ⟨.t tb,rb,[.ptr e 0],r⟩) (m:hf e=some ⟨.t tg,rg,[.sli n1 c 0 l1 c1 h1,.sli n2 d 0 (ln L) c2 h2],g⟩) (f:hf d=some ⟨.t td,rd,eO L,j⟩) (o:hf c=some ⟨.t tc,rc,eM CL,i⟩) ρ:
  IterOk prog 114 (([(b,0)]:List (Nat×Nat)).map λp=>lF ρ p.1 p.2).toArray (λk=>((ij [] (jZ 0 L) k).map (SV.den ρ)).toArray) (jZ 0 L).length (GR hf ρ [b,e,d,c]):=
 L7 (cm kB 20) bj (ck (cm kB 20) bj bg 0) func114 (c:=cLs) kr kr kr (qP 0 L) (hpI:=Ov tb tg td tc n1 l1 c1 h1 n2 L c2 h2 (eM CL)) (ρI:=a5t ρ b e d c) (caps:=[.c (.ptr 0 0)])
  (λw h=>a1Z s m f o h) rfl (λρ q h=>by simp only[aI,dj,SV.den,C.den,C.cells,lF,h 0 rfl]) λl=>SY l
def SU (f:FuncId) (caps:List (Nat×Nat)) (hf:Nat->Option aY) (K:List Nat->List (List SV)->Prop):Prop:=
 f= 114 /\ ∃b e d c tb tg td tc rb rg rd rc xb xg xd xc n1 l1 c1 h1 n2 L c2 h2 CL,
  caps=[(b,0)]/\hf b=some ⟨.t tb,rb,[.ptr e 0],xb⟩/\hf e=some ⟨.t tg,rg,[.sli n1 c 0 l1 c1 h1,.sli n2 d 0 (ln L) c2 h2],xg⟩/\hf d=some ⟨.t td,rd,eO L,xd⟩/\hf c=some ⟨.t tc,rc,eM CL,xc⟩/\K [b,e,d,c] (jZ 0 L)
abbrev Rr:=FuncId->List (Nat×Nat)->(Nat->Option aY)->(List Nat->List (List SV)->Prop)->Prop
def a0x (R:Rr):Prop:= ∀f d hf K,R f d hf K-> ∃i g,K i g/\eK prog f/\(∀x∈g,∀y∈x,∀e h,SV.den e y=SV.den h y)/\ ∀e:fF,
 IterOk prog f (d.map λp=>lF e p.1 p.2).toArray (λk=>((ij [] g k).map (SV.den e)).toArray) (ln g) (GR hf e i)
def OD:a0x SU:=λf e hf K h=>by obtain⟨rfl,b,x,d,c,tb,tg,td,tc,rb,rg,rd,rc,y,q,s,r,n1,l1,c1,u,n2,L,c2,p,CL,rfl,m,j,i,k,g⟩:=h;exact⟨_,_,g,⟨_, func114,kr,kr⟩,qP 0 L,λo=>JK m j i k o⟩
end
section
variable {r cs:List C} {k j:Nat} {CL:List CU} {IN:List ZV} {tb tg td tc:TypeId} {n1 n2:Bool} {L:List GU}
noncomputable abbrev cNs:Code:=match(f82).body with|some c=>c|none=> .skip
abbrev ENs:ic:={vA 20 base with O:=En qo (JS qo)}
def Pz:iU prog ENs:=⟨(cm kB 20).T,(cm kB 20).D,nH eD (u4 eD),(cm kB 20).R,λ_ _ _ _ h=>(show False from h).elim⟩
abbrev HNs:=inl ENs Mh 0
def Ox (tb tk tg td tc:TypeId) (k:Nat) (hk:IR (k:Nat)) (n1:Bool) (CL:List CU) (d:Nat) (h1:bZ n1 (ln CL) d) (n2:Bool) (L:List GU) (e:Nat) (h2:bZ n2 (ln L) e) (fam:List mq):List aY:=[⟨.t tb,true,[.ptr 2 0],0⟩,⟨.t tk,true,[.int (k:Nat) hk],0⟩,⟨.t tg,true,[.sli n1 4 0 (ln CL) d h1,.sli n2 3 0 (ln L) e h2],0⟩,⟨.t td,true,eO L,0⟩,⟨.t tc,true,eM CL,0⟩,⟨.x fam,true,[],3⟩]
def Cw {l m i n o} (h1:dk l i n=some m) (h2:dk m o k=some r):dk l (i+o) k=some r:=by
 obtain⟨a,b,rfl,d,_⟩:=gr h1;obtain⟨x,y,rfl,g,f⟩:=gr h2;have e:a++(x++(r++y)++b)=(a++x)++(r++(y++b)):=by simp[aJ]
 rw[e,<-d,<-g,<-f,<-cw];exact eY _ _ _
def MY l (hk:k<ln l) o n (h:dk (guC l[k]) o n=some r):dk (eO l) (0+k*8+o) n=some r:=Cw (HL l hk) h
def MW l (hk:k<ln l) o n (h:dk (cuC l[k]) o n=some r):dk (eM l) (0+k*3+o) n=some r:=Cw (HK l hk) h
def eC {T:TypeId->Option TI} {f:Op} {ev:Operand->SV} {hp:Nat->Option aY} {c:Call} {x:Operand} {t:TypeId} (ho:f= .call c) (o:c.callee= .builtin .len) (h:c.args.toList=[x]) (g:c.argTypes.toList=[t]) {sz:Nat} {i:Bool} {z:List C} {e:TypeId} {d:Nat} {m:List C} {eq:Option (List K)} (hT:T t=some ⟨sz,i,z,.slice e d m,eq⟩) {a:Option Addr} {n cap:Nat} (hx:ev x= .c (.val (.slice a n cap))) (hi:IR n):mf T f ev hp=some (.val (.c (.int n hi))):=by subst ho;simp only[mf,o,h,g,hT,hx];exact dif_pos hi
def AU: ∀a b:List ZV,qh (a++b)=qh a++qh b
 |[],_=>rfl
 |z::l,b=>by rw[cK,qh,AU l b];rfl
def Ic: ∀l:List ZV,bu (qh l)=ln l
 |[]=>rfl
 |z::l=>by rw[aS,<-Ic l];show 1+_=_;omega
def oO l (hk:k<ln l):jP false (qh l) (k*1) 1=some (.c (.int l[k].x l[k].hx)):=by
 have e:qh l=qh (l.take k)++([.int l[k].x l[k].hx]++qh (l.drop (k+1))):=by (have h:l=l.take k++(l[k]::l.drop (k+1)):=by rw[<-bh hk,aF]);rw[show qh l=qh (l.take k++(l[k]::l.drop (k+1))) by rw[<-h],AU];rfl
 have s:bu (qh (l.take k))=k*1:=by rw[Ic];simp;omega
 have h:dk (qh l) (k*1) 1=some [.int l[k].x l[k].hx]:=by rw[e,<-s];exact eY _ [.int l[k].x l[k].hx] _
 unfold jP;rw[h];rfl
def pm (CL:List CU) (z:ZV):Option CU:=CL[z.x.toNat]?
def fR (CL:List CU):List ZV->List (List SV)
 |[]=>[]
 |z::l=>(match pm CL z with|some c=>if 0<=c.made then [[SV.c (.int c.made c.hm)]] else []|none=>[])++fR CL l
def tN CL: ∀a b:List ZV,fR CL (a++b)=fR CL a++fR CL b
 |[],_=>rfl
 |z::l,b=>by rw[cK,fR,tN CL l b,fR,aJ]
def ra CL: ∀l:List ZV,∀x∈fR CL l,∀y∈x,∀ρ ρ',SV.den ρ y=SV.den ρ' y
 |[],x,d=>by cases d
 |z::l,x,d=>by unfold fR at d;rcases aT.1 d with d|d;split at d;split at d;rw[bq] at d;subst d;intro y e ρ ρ';rw[bq] at e;subst e;rfl;cases d;cases d;exact ra CL l x d
def JQ {z:ZV} (hj:j<ln CL) (e:z.x=(j:Nat)):fR CL [z]=if 0<=CL[j].made then [[SV.c (.int CL[j].made CL[j].hm)]] else []:=by
 have h:pm CL z=some CL[j]:=by unfold pm;rw[e,bW,ae hj]
 unfold fR;rw[h,fR,bk]
def re {q} (d:q<ln IN) (hj:j<ln CL) (e:IN[q].x=(j:Nat)):fR CL (IN.take (q+1))=fR CL (IN.take q)++if 0<=CL[j].made then [[SV.c (.int CL[j].made CL[j].hm)]] else []:=by rw[eG,ae d,eL,tN,JQ hj e]
def JP {q} (d:q<ln IN) (hj:j<ln CL) (e:IN[q].x=(j:Nat)) (hm:0<=CL[j].made):(fR CL (IN.take q)).length<(fR CL IN).length/\ij [] (fR CL IN) (fR CL (IN.take q)).length=[SV.c (.int CL[j].made CL[j].hm)]:=by
 have h:fR CL IN=fR CL (IN.take q)++([[SV.c (.int CL[j].made CL[j].hm)]]++fR CL (IN.drop (q+1))):=by have:=re d hj e;rw[if_pos hm] at this;rw[<-aJ,<-this,<-tN,aF]
 constructor;rw[h,aa,aa];show _<_+(1+_);omega;rw[iE,h,fe (ai _),kz];rfl
def eA {a b d hb} (e:a=b):SV.c (.int a d)=SV.c (.int b hb):=by subst e;rfl
def Tg {tk hk I h1 M h2 fam} (hlt:k<ln L) (D:tP fam L[k].i IN) (h:IR (L[k].i.n:Nat)) (J: ∀z∈IN,0<=z.x/\z.x<(ln CL:Nat)) l: Nj ENs HNs l (fR CL IN) (Ox tb tk tg td tc k hk n1 CL I h1 n2 L M h2 fam) cNs false 0 (.c (.val (.func (.yield l) #[] #[]))::([SV.c (.ptr 0 0),SV.c (.ptr 1 0)]++au ((f82).ntmps-3) uv)) (Ox tb tk tg td tc k hk n1 CL I h1 n2 L M h2 fam) λe st k _ _=>(match e with| .exit _=>False|_=>st=true\/k=(fR CL IN).length):=by
 unfold Ox;refine p6 ?_;conv=>arg 2;tactic'=>exact ap rfl rfl rfl rfl (MY L hlt 1 1 (r:=[L[k].i.v]) rfl) rfl
 conv=>whnf
 conv=>arg 2;tactic'=>exact eC rfl rfl rfl rfl rfl rfl h
 refine⟨rfl,λm N O=> ∃q:Nat,m+q=ln IN/\N=(fR CL (IN.take q)).length/\ ∃z J g,z=(q:Int)/\O=((.c (.val (.func (.yield l) #[] #[])):: .c (.ptr 0 0):: .c (.val (g 2)):: .c (.val (g 3)):: .c (.val (g 4)):: .c (.val (g 5)):: .c (.val (g 6)):: .c (.val (g 7)):: .c (.val (g 8)):: .c (.val (g 9)):: .c (.val (g 10)):: .c (.val (g 11)):: .c (.val (g 12)):: .c (.val (g 13)):: .c L[k].i.v:: .c (.int (L[k].i.n:Nat) h):: .c (.int z J):: .c (.val (g 17)):: .c (.val (g 18)):: .c (.val (g 19)):: .c (.val (g 20)):: .c (.val (g 21)):: .c (.val (g 22)):: .c (.val (g 23)):: .c (.val (g 24)):: .c (.val (g 25)):: .c (.val (g 26)):: .c (.val (g 27)):: .c (.val (g 28)):: .c (.val (g 29)):: .c (.val (g 30)):: .c (.val (g 31)):: .c (.val (g 32)):: .c (.val (g 33)):: .c (.val (g 34)):: .c (.val (g 35)):: .c (.val (g 36))::[]):List SV),⟨[0,1,14,15,16],λg=>⟨?_,ln IN,0,rfl,rfl,0,dc,g,rfl,rfl⟩⟩,?_⟩;exact λA p s=>by have G:A 0=p 0:=s 0 rfl;show cg (SV.den A) ((.c (.val (.func (.yield l) #[] #[])):: .c (.ptr 0 0):: .c (.val (g 2)):: .c (.val (g 3)):: .c (.val (g 4)):: .c (.val (g 5)):: .c (.val (g 6)):: .c (.val (g 7)):: .c (.val (g 8)):: .c (.val (g 9)):: .c (.val (g 10)):: .c (.val (g 11)):: .c (.val (g 12)):: .c (.val (g 13)):: .c L[k].i.v:: .c (.int (L[k].i.n:Nat) h):: .c (.int 0 dc):: .c (.val (g 17)):: .c (.val (g 18)):: .c (.val (g 19)):: .c (.val (g 20)):: .c (.val (g 21)):: .c (.val (g 22)):: .c (.val (g 23)):: .c (.val (g 24)):: .c (.val (g 25)):: .c (.val (g 26)):: .c (.val (g 27)):: .c (.val (g 28)):: .c (.val (g 29)):: .c (.val (g 30)):: .c (.val (g 31)):: .c (.val (g 32)):: .c (.val (g 33)):: .c (.val (g 34)):: .c (.val (g 35)):: .c (.val (g 36))::[]):List SV)=cg (SV.den p) ((.c (.val (.func (.yield l) #[] #[])):: .c (.ptr 0 0):: .c (.val (g 2)):: .c (.val (g 3)):: .c (.val (g 4)):: .c (.val (g 5)):: .c (.val (g 6)):: .c (.val (g 7)):: .c (.val (g 8)):: .c (.val (g 9)):: .c (.val (g 10)):: .c (.val (g 11)):: .c (.val (g 12)):: .c (.val (g 13)):: .c L[k].i.v:: .c (.int (L[k].i.n:Nat) h):: .c (.int 0 dc):: .c (.val (g 17)):: .c (.val (g 18)):: .c (.val (g 19)):: .c (.val (g 20)):: .c (.val (g 21)):: .c (.val (g 22)):: .c (.val (g 23)):: .c (.val (g 24)):: .c (.val (g 25)):: .c (.val (g 26)):: .c (.val (g 27)):: .c (.val (g 28)):: .c (.val (g 29)):: .c (.val (g 30)):: .c (.val (g 31)):: .c (.val (g 32)):: .c (.val (g 33)):: .c (.val (g 34)):: .c (.val (g 35)):: .c (.val (g 36))::[]):List SV);simp only[aI,dj,SV.den,C.den,C.cells,lF,G,SW.v]
 rintro m N O ⟨q,hmq,rfl,_,hqi,g,rfl,rfl⟩;obtain⟨F,D⟩:=D;refine zB ?_ ?_<;>intro E;have u:q<ln IN:=by rw[<-F];exact dL E
 obtain⟨r,o,ha,hfm⟩: ∃r o,L[k].i.a=some ⟨r,o,none⟩/\pg fam (r,o) (qh IN):=D.resolve_left λe=>by rw[e] at u;cases u
 conv=>whnf
 refine .inr ⟨r,o,L[k].i.n,L[k].i.c,q,by show SV.c (.val (.slice L[k].i.a _ _))=_;rw[ha],rfl,by rw[F];exact u,?_⟩;conv=>whnf
 refine .inr ⟨r,o,q*1,5,qh IN,.c (.int IN[q].x IN[q].hx),rfl,⟨_,_,_,rfl,rfl,hfm⟩,⟨oO IN u,ff⟩,?_⟩;conv=>whnf
 obtain⟨Q,V⟩:=J IN[q] (ak u);obtain⟨j,hj⟩: ∃j:Nat,IN[q].x=(j:Nat):=⟨IN[q].x.toNat,(nr Q).symm⟩;have y:j<ln CL:=om;refine p6 ?_;conv=>arg 2;tactic'=>exact ap rfl rfl rfl rfl (MW CL y 1 1 (r:=[.int CL[j].made CL[j].hm]) rfl) rfl
 refine zB ?_ ?_<;>intro B;have B:0<=CL[j].made:=of_decide_eq_true B;obtain⟨T,U⟩:=JP u y hj B;refine⟨⟨rfl,rfl,T,λA=> ?_⟩,[0,1,14,15,16,30],λf=>⟨?_,?_,[30],λP=>⟨λ_ _ _=>rfl,?_⟩⟩⟩;rw[U];rfl;exact λA p s=>by have G:A 0=p 0:=s 0 rfl;show cg (SV.den A) ((.c (.val (.func (.yield l) #[] #[])):: .c (.ptr 0 0):: .c (.val (f 2)):: .c (.val (f 3)):: .c (.val (f 4)):: .c (.val (f 5)):: .c (.val (f 6)):: .c (.val (f 7)):: .c (.val (f 8)):: .c (.val (f 9)):: .c (.val (f 10)):: .c (.val (f 11)):: .c (.val (f 12)):: .c (.val (f 13)):: .c L[k].i.v:: .c (.int (L[k].i.n:Nat) h):: .c (.int (q:Nat) hqi):: .c (.val (f 17)):: .c (.val (f 18)):: .c (.val (f 19)):: .c (.val (f 20)):: .c (.val (f 21)):: .c (.val (f 22)):: .c (.val (f 23)):: .c (.val (f 24)):: .c (.val (f 25)):: .c (.val (f 26)):: .c (.val (f 27)):: .c (.val (f 28)):: .c (.val (f 29)):: .c (.val (.bool true)):: .c (.val (f 31)):: .c (.val (f 32)):: .c (.val (f 33)):: .c (.val (f 34)):: .c (.val (f 35)):: .c (.val (f 36))::[]):List SV)=cg (SV.den p) ((.c (.val (.func (.yield l) #[] #[])):: .c (.ptr 0 0):: .c (.val (f 2)):: .c (.val (f 3)):: .c (.val (f 4)):: .c (.val (f 5)):: .c (.val (f 6)):: .c (.val (f 7)):: .c (.val (f 8)):: .c (.val (f 9)):: .c (.val (f 10)):: .c (.val (f 11)):: .c (.val (f 12)):: .c (.val (f 13)):: .c L[k].i.v:: .c (.int (L[k].i.n:Nat) h):: .c (.int (q:Nat) hqi):: .c (.val (f 17)):: .c (.val (f 18)):: .c (.val (f 19)):: .c (.val (f 20)):: .c (.val (f 21)):: .c (.val (f 22)):: .c (.val (f 23)):: .c (.val (f 24)):: .c (.val (f 25)):: .c (.val (f 26)):: .c (.val (f 27)):: .c (.val (f 28)):: .c (.val (f 29)):: .c (.val (.bool true)):: .c (.val (f 31)):: .c (.val (f 32)):: .c (.val (f 33)):: .c (.val (f 34)):: .c (.val (f 35)):: .c (.val (f 36))::[]):List SV);simp only[aI,dj,SV.den,C.den,C.cells,lF,G,SW.v]
 refine⟨rfl,[0,1,14,15,16],λd=>⟨?_,m-1,om,q+1,om,by rw[re u y hj,if_pos B,aa];rfl,_,IR.wrap _,d,dr (n:=ln IN) u (by rw[<-F];exact h),rfl⟩⟩
 iterate 2
  try
   conv=>whnf
   exact .inl rfl
   have B: ¬0<=CL[j].made:=of_decide_eq_false B
   refine⟨rfl,[0,1,14,15,16],λd=>⟨?_,m-1,om,q+1,om,by rw[re u y hj,if_neg B,bk],_,IR.wrap _,d,dr (n:=ln IN) u (by rw[<-F];exact h),rfl⟩⟩
  exact λA p s=>by have G:A 0=p 0:=s 0 rfl;show cg (SV.den A) ((.c (.val (.func (.yield l) #[] #[])):: .c (.ptr 0 0):: .c (.val (d 2)):: .c (.val (d 3)):: .c (.val (d 4)):: .c (.val (d 5)):: .c (.val (d 6)):: .c (.val (d 7)):: .c (.val (d 8)):: .c (.val (d 9)):: .c (.val (d 10)):: .c (.val (d 11)):: .c (.val (d 12)):: .c (.val (d 13)):: .c L[k].i.v:: .c (.int (L[k].i.n:Nat) h):: .c (.int (IntKind.i64.wrap ((q:Int)+1)) (IR.wrap _)):: .c (.val (d 17)):: .c (.val (d 18)):: .c (.val (d 19)):: .c (.val (d 20)):: .c (.val (d 21)):: .c (.val (d 22)):: .c (.val (d 23)):: .c (.val (d 24)):: .c (.val (d 25)):: .c (.val (d 26)):: .c (.val (d 27)):: .c (.val (d 28)):: .c (.val (d 29)):: .c (.val (d 30)):: .c (.val (d 31)):: .c (.val (d 32)):: .c (.val (d 33)):: .c (.val (d 34)):: .c (.val (d 35)):: .c (.val (d 36))::[]):List SV)=cg (SV.den p) ((.c (.val (.func (.yield l) #[] #[])):: .c (.ptr 0 0):: .c (.val (d 2)):: .c (.val (d 3)):: .c (.val (d 4)):: .c (.val (d 5)):: .c (.val (d 6)):: .c (.val (d 7)):: .c (.val (d 8)):: .c (.val (d 9)):: .c (.val (d 10)):: .c (.val (d 11)):: .c (.val (d 12)):: .c (.val (d 13)):: .c L[k].i.v:: .c (.int (L[k].i.n:Nat) h):: .c (.int (IntKind.i64.wrap ((q:Int)+1)) (IR.wrap _)):: .c (.val (d 17)):: .c (.val (d 18)):: .c (.val (d 19)):: .c (.val (d 20)):: .c (.val (d 21)):: .c (.val (d 22)):: .c (.val (d 23)):: .c (.val (d 24)):: .c (.val (d 25)):: .c (.val (d 26)):: .c (.val (d 27)):: .c (.val (d 28)):: .c (.val (d 29)):: .c (.val (d 30)):: .c (.val (d 31)):: .c (.val (d 32)):: .c (.val (d 33)):: .c (.val (d 34)):: .c (.val (d 35)):: .c (.val (d 36))::[]):List SV);simp only[aI,dj,SV.den,C.den,C.cells,lF,G,SW.v]
 have H:ln IN<=q:=by rw[<-F];exact gi E
 conv=>whnf
 exact .inr (by rw[bX H])
def oz {w d g b i t r f x y} (h:fq g ⟨t,r,cs,x⟩ b w) (hi:d i=g b) (e:af d f=af g cs):fq d ⟨t,true,f,y⟩ i w:=⟨by show w.rangeAt (d i).1 (d i).2 (af d f);rw[hi,e];exact h.1,λh=>by cases h⟩
def Nl {t d r x y} (hv:(⟨t,true,cs,x⟩:aY).void=false):(⟨d,r,cs,y⟩:aY).void=false:=by
 cases cs with
 |nil=>cases hv
 |cons a l=>cases r<;>rfl
def a5u (ρ:fF) (b e f d c fb:Nat):fF
 |0=>ρ b
 |1=>ρ e
 |2=>ρ f
 |3=>ρ d
 |4=>ρ c
 |5=>ρ fb
 |i=>ρ i
def a10 {y ρ b u s d c fb tk P I W rd Y xb xk Z xd xc E hk A h1 H h2 fam} (X:y b=some ⟨.t tb,P,[.ptr s 0],xb⟩) (O:y u=some ⟨.t tk,I,[.int (k:Nat) hk],xk⟩) (T:y s=some ⟨.t tg,W,[.sli n1 c 0 (ln CL) A h1,.sli n2 d 0 (ln L) H h2],Z⟩) (M:y d=some ⟨.t td,rd,eO L,xd⟩) (U:y c=some ⟨.t tc,Y,eM CL,xc⟩) (V:y fb=some ⟨.x fam,true,[],E⟩) (F:E=2\/E=3) {w} (h:GR y ρ [b,u,s,d,c,fb] w):Fo (Ox tb tk tg td tc k hk n1 CL A h1 n2 L H h2 fam) (a5u ρ b u s d c fb) w:=by obtain⟨f,p,h⟩:=h;have J:f b=ρ b:=p b (by rw[X];rfl);have R:f u=ρ u:=p u (by rw[O];rfl);have D:f s=ρ s:=p s (by rw[T];rfl);have G:f d=ρ d:=p d (by rw[M];rfl);have qc:f c=ρ c:=p c (by rw[U];rfl);have qf:f fb=ρ fb:=p fb (by rw[V];rfl);obtain⟨b1,bl,-⟩:=h b sp _ X;obtain⟨k1,kl,-⟩:=h u sp _ O;obtain⟨g1,gl,-⟩:=h s sp _ T;obtain⟨d1,dl,-⟩:=h d sp _ M;obtain⟨A,cl,-⟩:=h c sp _ U;obtain⟨f1,-,N⟩:=h fb sp _ V;intro i blk z;rcases i with _|_|_|_|_|_|i;cases z;refine⟨rfl,rfl,λg m=>oz b1 ((m 0 rfl).trans J.symm) ?_,λ_=>by show(ρ b).1<_;rw[<-J];exact bl (by cases P<;>rfl),λo l q=>by cases q⟩;have x1:g 2=f s:=(m 2 rfl).trans D.symm;simp only[af,aL,bF,C.cells,lF,x1];cases z;exact⟨rfl,rfl,λg m=>oz k1 ((m 1 rfl).trans R.symm) rfl,λ_=>by show(ρ u).1<_;rw[<-R];exact kl (by cases I<;>rfl),λo l q=>by cases q⟩;cases z;refine⟨rfl,rfl,λg m=>oz g1 ((m 2 rfl).trans D.symm) ?_,λ_=>by show(ρ s).1<_;rw[<-D];exact gl (by cases W<;>rfl),λo l q=>by cases q⟩;have x3:g 3=f d:=(m 3 rfl).trans G.symm;have x4:g 4=f c:=(m 4 rfl).trans qc.symm;simp only[af,aL,bF,C.cells,x3,x4];cases z;exact⟨rfl,rfl,λg m=>oz d1 ((m 3 rfl).trans G.symm) (bT L _ _),λB=>by show(ρ d).1<_;rw[<-G];exact dl (Nl B),λo l q=>by cases q⟩;cases z;exact⟨rfl,rfl,λg m=>oz A ((m 4 rfl).trans qc.symm) (bR CL _ _),λB=>by show(ρ c).1<_;rw[<-qc];exact cl (Nl B),λo l q=>by cases q⟩;cases z;refine⟨rfl,rfl,λg m=>oz (t:= .x fam) f1 ((m 5 rfl).trans qf.symm) rfl,λB=>(by cases B),λo l q e Q=> ?_⟩;cases q;rcases F with rfl|rfl;exact N true fam rfl e Q;exact N false fam rfl e Q;simp[Ox,an] at z
def Tf (f:FuncId) (caps:List (Nat×Nat)) (e:Nat->Option aY) (K:List Nat->List (List SV)->Prop):Prop:=
 f= 82 /\ ∃(b g h d c m tb tk tg td tc rb rk rg rd rc:_) (xb xk xg xd xc xf k:Nat) (hk n1 CL c1 h1 n2 L c2 h2 fam IN:_) (hlt:k<ln L),
  caps=[(b,0),(g,0)]/\e b=some ⟨.t tb,rb,[.ptr h 0],xb⟩/\e g=some ⟨.t tk,rk,[.int (k:Nat) hk],xk⟩/\e h=some ⟨.t tg,rg,[.sli n1 c 0 (ln CL) c1 h1,.sli n2 d 0 (ln L) c2 h2],xg⟩/\e d=some ⟨.t td,rd,eO L,xd⟩/\e c=some ⟨.t tc,rc,eM CL,xc⟩/\
  e m=some ⟨.x fam,true,[],xf⟩/\(xf=2\/xf=3)/\(tP fam L[k].i IN/\IR (L[k].i.n:Nat)/\ ∀z∈IN,0<=z.x/\z.x<(ln CL:Nat))/\K [b,g,h,d,c,m] (fR CL IN)
def ON:a0x Tf:=λf i Z K h=>by
 obtain⟨rfl,b,s,F,d,c,I,tb,tk,tg,td,tc,U,N,Y,R,O,X,V,P,T,Q,W,k,x,n1,CL,J,y,n2,L,G,o,fam,IN,g,rfl,M,A,z,q,B,D,e,⟨u,o2,H⟩,p⟩:=h;refine⟨_,_,p,⟨_, func82,kr,kr⟩,ra CL IN,λm=> ?_⟩
 exact L7 Pz bj (ck Pz bj bg 0) func82 (c:=cNs) kr kr kr (ra CL IN) (hpI:=Ox tb tk tg td tc k x n1 CL J y n2 L G o fam) (ρI:=a5u m b s F d c I) (caps:=[.c (.ptr 0 0),.c (.ptr 1 0)])
  (λw h=>a10 M A z q B D e h) rfl (λm E h=>by simp only[aI,dj,SV.den,C.den,C.cells,lF,h 0 rfl,h 1 rfl]) λl=>Tg g u o2 H l
def a2m:Rr:=λf d e K=>SU f d e K\/Tf f d e K
def Ma:a0x a2m:=λf d e K h=>h.elim (OD f d e K) (ON f d e K)
end
end Go.Proofs.YtlgcobafjbajdaaGreatDoor
