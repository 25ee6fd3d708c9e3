/- w -/
import Derived.Test.YtlgcobafjbajdaaGreatDoorJ01
import Derived.Test.YtlgcobafjbajdaaGreatDoorJ12
import Derived.Test.YtlgcobafjbajdaaGreatDoorJ07
import Derived.Test.YtlgcobafjbajdaaGreatDoorJ04
namespace Go.Proofs.YtlgcobafjbajdaaGreatDoor
open Tryz
open Go.RowKit
open Int renaming mul_lt_mul_of_pos_right→a2I,zero_mul→b1R
open IntKind renaming i64→ix,wrap→wr
open List renaming count_cons→jX,ext_getElem?→b0v,getElem?_set→b3s,length→ln,map→cg,map_append→aV,replicate→au
open Nat renaming beq→nu
open Option renaming some→bL
set_option linter.all false
set_option maxRecDepth 100000
set_option maxHeartbeats 32000000
section
variable {CL:List CU} {CT:List Bool}
end
def Zi:cP:=λd e K=> ∃f A c1 h1 n2 B c2 h2 ta tb,d=[.c (.sli f 0 0 (ln A) c1 h1),.c (.sli n2 1 0 (ln B) c2 h2)]/\e=[⟨.t ta,true,bG bY A,0⟩,⟨.t tb,true,bG bY B,0⟩]/\K (.c (.val (.bool (decide (A=B))))) []
def a0I {a b:Bool} (h:(!decide (a=b))=false):a=b:=by cases a<;>cases b<;>simp_all
def a0J {a b:Bool} (h:(!decide (a=b))=true): ¬a=b:=by cases a<;>cases b<;>simp_all
def a1e:jv prog 13 Zi:=cV GA bj (ck GA bj bg 0) ⟨func13,kr,kr⟩ λx E K p=>by
 obtain⟨N,A,I,y,O,B,L,F,H,J,rfl,rfl,p⟩:=p;refine⟨zD,?_⟩;refine zB ?_ ?_<;>intro q;exact⟨[0,1],[0,1],λf=>⟨ab bY A,ab bY B,_,[],rfl,gz _,trivial,.c (.val (.bool (decide (A=B)))),λo=>jD ((decide_eq_false λe=>a7F q (by rw[e])).symm) o,p⟩⟩;have q:ln A=ln B:=a7E q;conv=>whnf
 refine zK [0,1] [0,1,5] [0,1] (G:={k:Nat//k<=ln A/\ ∀i,i<k->A[i]? =B[i]?}) (λg=>[(5,.c (.int (g.1:Nat) (aR y g.2.1)))]) (λ_=>[]) (λg=>ln A-g.1) ⟨0,ah _,λi h=>absurd h (gh _)⟩ trivial ?_;rintro ⟨k,s,d⟩ vs2;have s:k<=ln A:=s;have d: ∀i,i<k->A[i]? =B[i]? :=d;dsimp only;refine zB ?_ ?_<;>intro j;have m:k<ln A:=dL j;have r:k<ln B:=om;have D:IR (k:Int):=aR y s;refine wM ?_;refine zB ?_ ?_<;>intro u;exact⟨[0,1],[0,1],λf=>⟨ab bY A,ab bY B,_,[],rfl,gz _,trivial,.c (.val (.bool (decide (A=B)))),λo=>jD ((decide_eq_false λe=>by subst e;exact a0J u rfl).symm) o,p⟩⟩;exact dD [0,1] ⟨k+1,m,λi M=>(cj i k).elim (d i) λg=>by rw[show i=k by omega,ae m,ae r,a0I u]⟩;have z:ln A<=k:=gi j;exact⟨[0,1],[0,1],λf=>⟨ab bY A,ab bY B,_,[],rfl,gz _,trivial,.c (.val (.bool (decide (A=B)))),λo=>jD ((decide_eq_true (b0v λi=>(cj i k).elim (d i) λg=>by rw[bi om,bi om])).symm) o,p⟩⟩

section
variable {err:Int} {L:List GU} {CL:List CU}
end
section
variable {L:List GU}
def a0N:cP:=λd e K=> ∃f CL c1 h1 n2 L c2 h2 fam tc td,d=[.agg [.sli f 0 0 (ln CL) c1 h1,.sli n2 1 0 (ln L) c2 h2]]/\e=[⟨.t tc,true,eM CL,0⟩,⟨.t td,true,eO L,0⟩,⟨.x fam,true,[],3⟩]/\ln L<=1000000000/\ ∀o:OL Bool,o.l=au (ln L) true->K (o.sl 3) [o.blk bY 4]
end
section
variable {o:List Bool} {k:Nat} {CL:List CU} {L:List GU}
structure UpI (CL:List CU) (L:List GU) (k:Nat) (o:List Bool):Prop where
 len:ln o=ln L
 cl: ∀i (h:i<ln L),k<=i->o.getD i false=true-> ∀z∈jN CL L[i].il,o.getD z.x.toNat false=true
end
section
variable {k:Nat} {o:List Bool}
end
section
variable {CL:List CU} {L:List GU} {CT C0:List Bool} {j:Nat}
def a09 (o:List Bool):Nat:=o.count true
structure RdI (CL:List CU) (L:List GU) (v:VW) (k:Nat) (CT:List Bool):Prop where
 top:Io CL L v CT
 fit:Ik CL L v CT\/a09 CT+k<=ln L
structure InI (CL:List CU) (L:List GU) (v:VW) (C0:List Bool) (j:Nat) (CT:List Bool):Prop where
 top:Io CL L v CT
 sub:ym CT C0
 st:(CT=C0/\ ∀i∈(l7 CL C0 (ln CL)).take j,∀c,CL[i]? =some c->qj (kL L v c)=false)\/a09 CT+1<=a09 C0
end
def uC:List (FuncId×cP):=[(25,a0W),(21,a0N),(31,Q9),(32,a3U),(22,Lk)]
structure ChG (CL:List CU) (L:List GU) (v:VW) where
 k:Nat
 o:OL Bool
 hk:k<=ln L+1
 rd:RdI CL L v k o.l
structure ChJ (CL:List CU) (L:List GU) (v:VW) (C0:List Bool) (n:Nat) where
 j:Nat
 p:OL Bool
 hj:j<=n
 inn:InI CL L v C0 j p.l
section
variable {L:List GU} {CL:List CU} {q k:Nat}
end
section
variable {r s p q:Nat} {R:List Bool}
def ptE x y z (hx:IR x:=by decide) (hy:IR y:=by decide) (hz:IR z:=by decide):PT:=⟨x,y,z,hx,hy,hz⟩
def Ky:TR:=⟨ptE 1 0 0,ptE 0 1 0,ptE 0 0 1⟩
def swE (r:Nat):SW:=⟨some ⟨r,0,none⟩,1,1⟩
def zE n (h:IR n:=by decide):ZV:=⟨n,h⟩
def xD (r s:Nat):List CU:=[⟨swE r,-1,0,[Ky],dc,dc⟩,⟨swE s,0,-1,[Ky],dc,dc⟩]
def wZ (p q:Nat):List GU:=[⟨0,swE p,swE q,⟨none,0,0⟩,15,15,false,⟨#[]⟩,[zE 0],[zE 1],dc,dc,dc⟩]
def zN0:zN 0=zE 0:=vv dc
def Sw r s p q:vC (xD r s) (wZ p q):=by
 refine⟨rfl,⟨?_,?_,?_⟩,λi j=> ?_⟩;show wN [(zE 0,zN 0)];simp[wN];intro e d c f;have d:e∈[(zE 0,zN 0)]:=d;rw[bq] at d;subst d;rw[zN0];have f:(xD r s)[0]? =some c:=f;cases f;show(-1:Int)<0;decide;show wN [(zE 1,zN 0)];simp[wN];have h:dI GU.il 0 (wZ p q)=[(zE 0,zE 0)]:=by rw[<-zN0];rfl
 have g:dI GU.ol 0 (wZ p q)=[(zE 1,zE 0)]:=by rw[<-zN0];rfl
 rw[h,g];rcases i with _|_|i;exact⟨.inl ⟨(by decide:(0:Int)<=0),_,bq.2 rfl,rfl,rfl⟩,.inr ⟨(by decide:(-1:Int)<0),λe d=>by rw[bq] at d;subst d;decide⟩⟩;exact⟨.inr ⟨(by decide:(-1:Int)<0),λe d=>by rw[bq] at d;subst d;decide⟩,.inl ⟨(by decide:(0:Int)<=0),_,bq.2 rfl,rfl,rfl⟩⟩;exact absurd j (by simp[xD])
def a4D r s p q b:iZ (xD r s) (wZ p q) [b]:=by
 refine⟨Sw r s p q,rfl,λk g _ z d c e f=> ?_⟩;obtain rfl:k=0:=by have:(wZ p q).length=1:=rfl;omega
 have d:z∈[zE 0]:=d;rw[bq] at d;subst d;have e:(xD r s)[0]? =some c:=e;cases e;exact absurd (show(0:Int)<= -1 from f) dc
def Fm x y z f p (hx:IR x:=by decide) (hy:IR y:=by decide) (hz:IR z:=by decide) (hf:IR f:=by decide) (hp:IR p:=by decide):VW:=⟨⟨x,y,z,hx,hy,hz⟩,f,p,hf,hp⟩
def a1V r s p q v b:BR (xD r s) (wZ p q) v [b]=lI (xD r s) (wZ p q) v (l7 (xD r s) [b] 2):=by unfold BR;rw[ve (a4D r s p q b)];rfl
def LQ r s p q: ∃t:SN,BR (xD r s) (wZ p q) (Fm 0 0 0 1 1) [true]=[t]/\t.made=0:=by rw[a1V];exact⟨kL (wZ p q) (Fm 0 0 0 1 1) ⟨swE s,0,-1,[Ky],dc,dc⟩,rfl,rfl⟩
def W7 r s p q:BR (xD r s) (wZ p q) (Fm 0 0 0 1 1) [false]=[]:=by rw[a1V];rfl
def a4A r s p q:BR (xD r s) (wZ p q) (Fm 1000 0 0 1 1) [true]=[]:=by rw[a1V];rfl
def a4C r s p q:xI (xD r s) (wZ p q) [true] 0=[false]:=rfl
def a4z (h:Pw (xD r s) (wZ p q) (Fm 0 0 0 1 1) [true] R):R=[false]:=by
 obtain⟨t,d,e⟩:=LQ r s p q
 cases h with
 |stop h=>rw[d] at h;cases h
 |step h hr=>
  rw[d,show kq [t]=t from rfl,e,show(0:Int).toNat=0 from rfl,a4C] at hr
  cases hr with
  |stop h=>rfl
  |step h hr=>exact absurd (W7 r s p q) h
def a4y (h:Pw (xD r s) (wZ p q) (Fm 1000 0 0 1 1) [true] R):R=[true]:=by
 cases h with
 |stop h=>rfl
 |step h hr=>exact absurd (a4A r s p q) h
def Sv {fam} (h1:pg fam (r,0) (fy [Ky])) (h2:pg fam (s,0) (fy [Ky])): ∀c∈xD r s,c.Ok fam:=λc d=>by simp only[xD,br,cd,or_false] at d;rcases d with rfl|rfl;exact⟨⟨rfl,.inr ⟨r,0,rfl,h1⟩⟩,(by decide:IR ((1:Nat):Int))⟩;exact⟨⟨rfl,.inr ⟨s,0,rfl,h2⟩⟩,(by decide:IR ((1:Nat):Int))⟩
def Su {fam} (h1:pg fam (p,0) (qh [zE 0])) (h2:pg fam (q,0) (qh [zE 1])): ∀g∈wZ p q,g.Ok fam:=λg d=>by simp only[wZ,br,cd,or_false] at d;subst d;exact⟨⟨rfl,.inr ⟨p,0,rfl,h1⟩⟩,⟨rfl,.inr ⟨q,0,rfl,h2⟩⟩,(by decide:IR ((1:Nat):Int)),(by decide:IR ((1:Nat):Int))⟩
end
section
variable {H:FuncId->List SV->List aY->(SV->List aY->Prop)->Prop} {f:FuncId} {fn:Func}
def TH {P:Program} {E:ic} (k:iU P E) (hm:P.follows .mixedOrders=true) (q:ko P H) (p:iM P f fn) {args:List SV} {v:SV} (d: ∀ρ ρ',v.den ρ=v.den ρ') (g: ∀ρ ρ',args.map (SV.den ρ)=args.map (SV.den ρ')) (h:A5 E H fn args [] λu _=> ∀ρ,u.den ρ=v.den ρ) (ρ:fF) (w:World): Calls P f (args.map (SV.den ρ)).toArray w λe w'=>e= .returned (v.den ρ)/\Below w.heap.size w w':=by have m:dv w.heap.size ⟨w,λ_=>False,ρ,0⟩ (an []) ρ w:=⟨λi b h=>by simp[an] at h,λi b h=>by simp[an] at h,λi j b c h=>by simp[an] at h,λρ _ i b h=>by simp[an] at h,sR.refl _ _,ai _,λi h=>h.elim,λi b e h=>by simp[an] at h,λi j b c h=>by simp[an] at h,λi b o l e h=>by simp[an] at h⟩;refine(sG k hm q p h w.heap.size _ ρ w m (λρ' _=>g ρ' ρ)).mono ?_;rintro e w' ⟨u,hp',ρ1,hu,hh',-,he⟩;have:=he ρ1 (gt.refl _ _);exact⟨by rw[this,hu ρ1,d ρ1 ρ],hh'.bel.below⟩
def a3a {E:ic} (i:iU prog E) (r:ko prog H) (g:iM prog f fn) {d:Dn}
  (h: ∀args p v,d args=some (p,v)->(∀ρ ρ',v.den ρ=v.den ρ')/\(∀ρ ρ',args.map (SV.den ρ)=args.map (SV.den ρ'))/\((∀q,p=some q->q)->A5 E H fn args [] λu _=> ∀ρ,u.den ρ=v.den ρ)):dW prog f d:=
 ⟨g.callable,λargs p v j=>by
  obtain⟨e,k,m⟩:=h args p v j
  exact⟨e,λo ρ w=>TH i bj r g e k (m o) ρ w⟩⟩
end
def a0l:List (FuncId×cP):=[(19,Zn),(14,Dh)]
def UT:vB prog a0l:= .cons RF<| .cons FZ .nil
def hS:FuncId->List SV->List aY->(SV->List aY->Prop)->Prop:=w7 (hfz (hsm (LU a0l (inl (a1K 0) Mh 0))) 4)
def a4H:ko prog hS:=SG (SH (a2a (lP UT (ck (nC 0) bj bg 0))) 4)
def a1W r s:bZ false (xD r s).length 2:=(by decide:bZ false 2 2)
def a1X p q:bZ false (wZ p q).length 1:=(by decide:bZ false 1 1)
def a1Y r s:(xD r s).length<=100000000000:=(by decide:2<=100000000000)
def a4B p q:(wZ p q).length<=1000000000:=(by decide:1<=1000000000)
def Jj:Dn
 |[]=>some (none,.c (.val (.bool true)))
 |_=>none
def Yy:dW prog 10 Jj:=a3a (nC 0) a4H ⟨func10,kr,kr⟩ λD p v y=>by
 unfold Jj at y;split at y;cases y;refine⟨ff,ff,λ_=> ?_⟩;conv=>whnf
 right;conv=>whnf
 refine .inr ⟨12,4,6,⟨ff,rfl,rfl⟩,λh=> ?_⟩;conv=>whnf
 refine .inr ⟨12,5,6,⟨ff,rfl,rfl⟩,λf=> ?_⟩;conv=>whnf
 refine .inr ⟨12,7,9,⟨ff,rfl,rfl⟩,λg=> ?_⟩;conv=>whnf
 refine .inr ⟨12,8,9,⟨ff,rfl,rfl⟩,λd=> ?_⟩;conv=>whnf
 refine .inr ⟨[.agg [.sli false 6 0 2 2 dc,.sli false 9 0 1 1 dc],.c (.sli false 11 0 1 1 dc),.agg (t7 (Fm 0 0 0 1 1))],[⟨33,false,[.int 50 dc,.int 0 dc,.int 0 dc],0⟩,⟨33,false,[.int 60 dc,.int 10 dc,.int 10 dc],0⟩,⟨35,false,t7 (Fm 0 0 0 100 2),0⟩,⟨35,false,t7 (Fm 55 5 5 1 1),0⟩,⟨.t 0,true,[],0⟩,⟨.t 0,true,[],0⟩,⟨55,false,eM (xD h f),0⟩,⟨.t 0,true,[],0⟩,⟨.t 0,true,[],0⟩,⟨63,false,eO (wZ g d),0⟩,⟨30,false,[.sli false 6 0 2 2 dc,.sli false 9 0 1 1 dc],0⟩,⟨4,false,[.val (.bool true)],0⟩,⟨.x [⟨(h,0),fy [Ky], 58,0⟩,⟨(f,0),fy [Ky], 58,0⟩,⟨(g,0),qh [zE 0], 3,0⟩,⟨(d,0),qh [zE 1], 3,0⟩],true,[],2⟩],gm _,(by(iterate 9 refine⟨mL _,?_⟩);refine⟨⟨rfl,rfl,rfl,λj=>(by simp[af,eO,guC,wZ,SW.v,swE,C.cells,jK,qQ])⟩,?_⟩;exact gz _),?_⟩
 refine⟨12,[6,9,11],[.agg [.sli false 0 0 2 2 dc,.sli false 1 0 1 1 dc],.c (.sli false 2 0 1 1 dc),.agg (t7 (Fm 0 0 0 1 1))],(λj m e=>by
  show cg (SV.den j) [.agg [.sli false 6 0 2 2 dc,.sli false 9 0 1 1 dc],.c (.sli false 11 0 1 1 dc),.agg (t7 (Fm 0 0 0 1 1))]=_
  have q:=e 0 _ rfl
  have k:=e 1 _ rfl
  have G:=e 2 _ rfl
  simp only[cg,SV.den,C.den,C.cells,q,k,G,aL,bF,af]
  rfl),.inl rfl,⟨bR (xD h f),bT (wZ g d),ff,trivial⟩,false,xD h f,2,a1W _ _,false,wZ g d,1,a1X _ _,false,[true],1,dc,_,_,_,_,Fm 0 0 0 1 1,rfl,rfl,⟨Sv (fam:=_) ⟨_,aP,rfl,rfl⟩ ⟨_,aD _ aP,rfl,rfl⟩,Su (fam:=_) ⟨_,aD _ (aD _ aP),rfl,rfl⟩ ⟨_,aD _ (aD _ (aD _ aP)),rfl,rfl⟩⟩,a1Y _ _,λQ L M H z=> ?_⟩
 obtain rfl:=T8 M H;obtain⟨s,F,A⟩:=LQ h f g d;obtain rfl:L=[s]:=z.trans F;refine zl3 ?_
 refine⟨12,[6,9],[.agg [.sli false 0 0 2 2 dc,.sli false 1 0 1 1 dc],.agg (t7 (Fm 0 0 0 1 1))],(λj m e=>by
  show cg (SV.den j) [.agg [.sli false 6 0 2 2 dc,.sli false 9 0 1 1 dc],.agg (t7 (Fm 0 0 0 1 1))]=_
  have q:=e 0 _ rfl
  have k:=e 1 _ rfl
  simp only[cg,SV.den,C.cells,q,k,aL,bF,af]
  rfl),.inl rfl,⟨bR (xD h f),bT (wZ g d),trivial⟩,false,xD h f,2,a1W _ _,false,wZ g d,1,a1X _ _,_,_,_,Fm 0 0 0 1 1,rfl,rfl,⟨Sv (fam:=_) ⟨_,aP,rfl,rfl⟩ ⟨_,aD _ aP,rfl,rfl⟩,Su (fam:=_) ⟨_,aD _ (aD _ aP),rfl,rfl⟩ ⟨_,aD _ (aD _ (aD _ aP)),rfl,rfl⟩⟩,a1Y _ _,a4B _ _,λo i P=> ?_⟩
 have i:=a4z (i (Sw h f g d));obtain⟨R,O,B,J⟩:=o;dsimp only at i;subst i;refine zl3 ?_
 refine⟨12,[6,9],[.agg [.sli false 0 0 2 2 dc,.sli false 1 0 1 1 dc],.agg (t7 (Fm 1000 0 0 1 1))],(λj m e=>by
  show cg (SV.den j) [.agg [.sli false 6 0 2 2 dc,.sli false 9 0 1 1 dc],.agg (t7 (Fm 1000 0 0 1 1))]=_
  have q:=e 0 _ rfl
  have k:=e 1 _ rfl
  simp only[cg,SV.den,C.cells,q,k,aL,bF,af]
  rfl),.inl rfl,⟨bR (xD h f),bT (wZ g d),trivial⟩,false,xD h f,2,a1W _ _,false,wZ g d,1,a1X _ _,_,_,_,Fm 1000 0 0 1 1,rfl,rfl,⟨Sv (fam:=_) ⟨_,aP,rfl,rfl⟩ ⟨_,aD _ aP,rfl,rfl⟩,Su (fam:=_) ⟨_,aD _ (aD _ aP),rfl,rfl⟩ ⟨_,aD _ (aD _ (aD _ aP)),rfl,rfl⟩⟩,a1Y _ _,a4B _ _,λu i P=> ?_⟩
 have i:=a4y (i (Sw h f g d));obtain⟨T,I,E,N⟩:=u;dsimp only at i;subst i;refine zB ?_ ?_<;>intro r;have r:decide (s.made=0)=true:=r;conv=>whnf
 exact λj=>jD rfl j;have r:decide (s.made=0)=false:=r;exact absurd A (of_decide_eq_false r);cases y
def QG:List (FuncId×Dn):=(10,Jj)::IB
def vN:dU QG:= .cons Yy vM
def Bb {T f ev hp t x y} (ho:f= .slice t x none (some y) none) {sz h z e d g eq} (hT:T t=some ⟨sz,h,z,.slice e d g,eq⟩) {a n c} (hx:ev x= .c (.val (.slice a n c))) {k hi} (hk:ev y= .c (.int k hi)) (hlt:k<=c):mf T f ev hp=some (.val (.c (.val (.slice a k c)))):=by subst ho;simp only[mf,hT,hx,Option.map,lW,hk];show(if k<=c then _ else _)=_;rw[if_pos hlt]
def a4Z (n:Nat):minI (n:Int) 3=((min n 3:Nat):Int):=by unfold minI;split<;>omega
def ZI n:IR ((min n 3:Nat):Int):=ui
def a2c {a b d hb} (e:a=b):(SV.c (.int a d))=SV.c (.int b hb):=by subst e;rfl
def stX:List (FuncId×cP):=[(28,QW)]
def a3d:vB prog stX:= .cons Wg .nil
def Zp:cP:=λd f K=> ∃(s:SW) (A fam0 x y:_),d=[.agg [.val (.slice s.a s.n s.c),.val (.int .u8 x),.val (.int .u8 y)]]/\f=[⟨.x fam0,true,[],3⟩]/\((tP fam0 ⟨s.a,min s.n 3,s.c⟩ A/\IR (s.n:Nat)/\s.n<=s.c)/\(0<=x/\x<256)/\(0<=y/\y<256))/\
 ∀(e:OL CU) (oG:OL GU) fam,Po fam e.l oG.l->K (.agg [e.ch 1,oG.ch 2]) [e.blk ju 55,oG.blk ki 63,⟨.x fam,true,[],2⟩]
def GuP.ok9 {fam g} (h:GuP fam g):g.Ok fam:=by obtain⟨⟨x,f,k,s⟩,⟨y,j,i,q⟩,-⟩:=h;have m:=f.ok;have e:=j.ok;rw[k,s] at m;rw[i,q] at e;refine⟨m,e,?_,?_⟩;obtain⟨p,r,o,d,-⟩:=f;rw[<-k,x.hn];exact d.ir;obtain⟨p,r,o,d,-⟩:=j;rw[<-i,y.hn];exact d.ir
structure GrK (fam:List mq) (CL:List CU) (L:List GU):Prop where
 ct: ∀c∈CL,CuT fam c
 co: ∀c∈CL,c.Ok fam
 gk: ∀g∈L,g.Ok fam
 sn:vC CL L
 cn:ln CL<=100000000000
 ln:ln L<=36864
def Po.grk {fam CL L} (h:Po fam CL L):GrK fam CL L:=by have i:=h.cnt;have e:=h.ll;exact⟨λc d=>(h.cu c d).cut,λc d=>(h.cu c d).cut.ok,λg f=>(h.gu g f).ok9,VN h.bld,om,e⟩
def Ig {a b c d e} (h:IR a) (hb:IR b) (i:IR c) (f:IR d) (g:IR e):VW:=⟨⟨a.tmod 524288,b.tmod 524288,c.tmod 524288,h.tmod _,hb.tmod _,i.tmod _⟩,d.tmod 5000,e.tmod 50,f.tmod _,g.tmod _⟩
def a3R {x:Int} (h:0<=x/\x<256):0<=IntKind.i64.wrap (15+IntKind.i64.wrap (x.tmod 4))/\IntKind.i64.wrap (15+IntKind.i64.wrap (x.tmod 4))<=100:=by have d:0<=x.tmod 4:=Int.tmod_nonneg 4 h.1;have e:x.tmod 4<4:=Int.tmod_lt_of_pos x dc;rw[cN (z:=x.tmod 4) ui,cN ui];omega
def a1l:pd prog 11 Zp:=iA (cm vN 0) bj (qJ a3d (ck (cm vN 0) bj bg 0)) ⟨func11,kr,kr⟩ λargs ros K hc=>by
 obtain⟨s,A,fam0,x,y,rfl,rfl,⟨⟨hok,hsi,hcap⟩,hx,hy⟩,hc⟩:=hc;refine⟨λρ ρ' _=>rfl,?_⟩;conv=>whnf
 conv=>arg 2;tactic'=>exact eC rfl rfl rfl rfl rfl rfl hsi
 conv=>whnf
 conv=>arg 2;tactic'=>exact Bb (k:=min s.n 3) (hi:=ZI _) rfl rfl rfl (a2c (a4Z _)) (by exact om)
 exact⟨0,.inr rfl,trivial,⟨s.a,min s.n 3,s.c⟩,A,fam0,_,_,_,_,rfl,rfl,⟨hok,ZI _⟩,a3R hx,λoC oG fam hg=> zO [0,3,4,5] [1,2] (hc oC oG fam hg)⟩
def a7y:List (FuncId×cP):=[(13,Zi)]
def Xt:iL prog a7y:= .cons a1e .nil
def a1I:ic:=vA 0 QG
def B5:iU prog a1I:=cm vN 0
section
variable {CL CM:List CU} {d:CU} {L M:List GU} {α β:Type} {CT:List Bool} {m:Nat}
def mu (c:CU):Int×Int:=(c.made,c.used)
def io (g:GU):List ZV×List ZV:=(g.il,g.ol)
def b06: ∀{L M} k,L.map io=M.map io->dI GU.il k L=dI GU.il k M/\dI GU.ol k L=dI GU.ol k M
 |[],[],_,_=>⟨rfl,rfl⟩
 |[],_::_,_,h=>by cases h
 |_::_,[],_,h=>by cases h
 |g::l,g'::l',k,h=>by rw[aI,aI] at h;injection h with e f;have j:g.il=g'.il:=congrArg Prod.fst e;have i:g.ol=g'.ol:=congrArg Prod.snd e;obtain⟨a,b⟩:=b06 (k+1) f;constructor;rw[dI,dI,a,j];rw[dI,dI,b,i]
def b0q (e:CL.map mu=CM.map mu) {i:Nat} (h:CM[i]? =some d): ∃c,CL[i]? =some c/\c.made=d.made/\c.used=d.used:=by
 have f:(CL.map mu)[i]? =(CM.map mu)[i]? :=by rw[e]
 rw[gA,gA,h] at f
 cases hc:CL[i]?with
 |none=>rw[hc] at f;cases f
 |some c=>rw[hc] at f;have g:mu c=mu d:=bL.inj f;exact⟨c,rfl,congrArg Prod.fst g,congrArg Prod.snd g⟩
def b2z (e:L.map io=M.map io) {i:Nat} {d:GU} (h:M[i]? =some d): ∃c,L[i]? =some c/\c.il=d.il/\c.ol=d.ol:=by
 have f:(L.map io)[i]? =(M.map io)[i]? :=by rw[e]
 rw[gA,gA,h] at f
 cases hc:L[i]?with
 |none=>rw[hc] at f;cases f
 |some c=>rw[hc] at f;have g:io c=io d:=bL.inj f;exact⟨c,rfl,congrArg Prod.fst g,congrArg Prod.snd g⟩
def b0d {f:α->β} {a b:List α} (e:a.map f=b.map f):ln a=ln b:=by have:=congrArg ln e;rwa[bO,bO] at this
def b1u :sk CL L=((CL.map mu).all (λp=> !decide (minI p.1 p.2< -1)&& !decide ((ln L:Int)<=maxI p.1 p.2))&&(L.map io).all (λp=>p.1.all (A4 (ln CL))&&p.2.all (A4 (ln CL)))):=by unfold sk;rw[List.all_map,List.all_map];rfl
def b1H (e:CL.map mu=CM.map mu) (g:L.map io=M.map io) (h:vC CL L):vC CM M:=by obtain⟨q,⟨o,s,p⟩,r⟩:=h;obtain⟨a,b⟩:=b06 0 g;refine⟨?_,⟨by rw[<-a];exact o,λx y c B=> ?_,by rw[<-b];exact p⟩,λi u=> ?_⟩;rw[b1u,<-e,<-g,<-b0d e,<-b0d g,<-b1u];exact q;obtain⟨d,f,k,-⟩:=b0q e B;rw[<-k];exact s x (by rw[a];exact y) d f;obtain⟨d,f,j,z⟩:=b0q e (ae u);obtain⟨A,f⟩:=aw.1 f;have:=r i A;rw[f,j,z] at this;rw[<-a,<-b];exact this
def b1M (e:CL.map mu=CM.map mu) (g:L.map io=M.map io) (h:iZ CL L CT):iZ CM M CT:=by obtain⟨r,q,u⟩:=h;refine⟨b1H e g r,by rw[<-b0d g];exact q,λk o s z B c A D=> ?_⟩;obtain⟨x,f,i,-⟩:=b2z g (ae o);obtain⟨p,f⟩:=aw.1 f;obtain⟨d,j,y,-⟩:=b0q e A;have:=u k p s z (by rw[f,i];exact B) d j om;rwa[y] at this
def b55 (n:Int) (z:ZV):ZV:=⟨wr ix (z.x*n),el _⟩
def b53 (n:Int) (p:PT):PT:=⟨wr ix (p.x*n),wr ix (p.y*n),wr ix (p.z*n),el _,el _,el _⟩
def b54 (n:Int) (t:TR):TR:=⟨b53 n t.a,b53 n t.b,b53 n t.c⟩
def mt (c:CU):(Int×Int)×List TR:=(mu c,c.tl)
def mts (n:Int) (c:CU):(Int×Int)×List TR:=(mu c,c.tl.map (b54 n))
def b51 (g:GU):(List ZV×List ZV)×Int:=(io g,g.total)
def its (n:Int) (g:GU):(List ZV×List ZV)×Int:=(io g,wr ix (g.total*n))
def b0m {γ:Type} {f g:α->β×γ} {a b:List α} (e:a.map f=b.map g):(a.map λx=>(f x).1)=b.map λx=>(g x).1:=by have:=congrArg (cg Prod.fst) e;rwa[t9,t9] at this
def b13 {a n B} (h: -B<=a/\a<=B) (i:1<=n/\n<=256): -(B*256)<=a*n/\a*n<=B*256:=by have g:0<=B:=om;have e:0<=n:=om;have j:a*n<=B*n:=nO h.2 e;have f: -B*n<=a*n:=nO h.1 e;have k:B*n<=B*256:=o8 i.2 g;rw[Int.neg_mul] at f;omega
def b0e {a n B} (h: -B<=a/\a<=B) (f:B<=1000000000000) (e:1<=n/\n<=256):wr ix (a*n)=a*n:=cN (by have:=b13 h e;unfold IR;omega)
def b0x (n:Int) (p q:PT):Prop:=q.x=p.x*n/\q.y=p.y*n/\q.z=p.z*n
def b1d (n:Int) (b d:BX):Prop:=b0x n b.lo d.lo/\b0x n b.hi d.hi
def b0B {a b n} (e:1<=n):minI (a*n) (b*n)=minI a b*n:=by unfold minI;by_cases h:b<a;rw[if_pos h,if_pos (a2I h om)];rw[if_neg h,if_neg (by have:=nO (Int.not_lt.1 h) (show 0<=n by omega);omega)]
def b0r {a b n} (e:1<=n):maxI (a*n) (b*n)=maxI a b*n:=by unfold maxI;by_cases h:a<b;rw[if_pos h,if_pos (a2I h om)];rw[if_neg h,if_neg (by have:=nO (Int.not_lt.1 h) (show 0<=n by omega);omega)]
def b0z {n} (e:1<=n) {b d p q} (h:b1d n b d) (k:b0x n p q):b1d n (mz b p) (mz d q):=by obtain⟨⟨g,i,a3⟩,b1,o,s⟩:=h;obtain⟨r,f,j⟩:=k;unfold b1d b0x mz XE XC;dsimp only;rw[g,i,a3,b1,o,s,r,f,j];exact⟨⟨b0B e,b0B e,b0B e⟩,b0r e,b0r e,b0r e⟩
def b0U {n} (e:1<=n/\n<=256) {p} (h:xP 327680 p):b0x n p (b53 n p):=by obtain⟨a,b,c⟩:=h;exact⟨b0e (B:=327680) om dc e,b0e (B:=327680) om dc e,b0e (B:=327680) om dc e⟩
def b05 {n} (e:1<=n/\n<=256): ∀l {b d},(∀t∈l,mm 327680 t)->b1d n b d->b1d n (qk b l) (qk d (l.map (b54 n)))
 |[],_,_,_,h=>h
 |t::l,b,d,hl,h=>by obtain⟨f,g,i⟩:=hl t aP;exact b05 e l (λt j=>hl t (aD _ j)) (b0z e.1 (b0z e.1 (b0z e.1 h (b0U e f)) (b0U e g)) (b0U e i))
def b2y {x e hi n} (g:1<=n):Bc (x*n) (e*n) (hi*n)=Bc x e hi*n:=by have f:0<=n:=om;unfold Bc;by_cases h:x<e;rw[if_pos h,if_pos (a2I h om),Int.sub_mul];rw[if_neg h,if_neg (by have:=nO (Int.not_lt.1 h) f;omega)];by_cases k:hi<x;rw[if_pos k,if_pos (a2I k om),Int.sub_mul];rw[if_neg k,if_neg (by have:=nO (Int.not_lt.1 k) f;omega),b1R]
def b1n {p q g x n} (e:1<=n):Qg (p*n) (q*n) (g*n) (x*n)=Qg p q g x*n:=by
 unfold Qg;have h:maxI (g*n) 0=maxI g 0*n:=by have:=b0r (a:=g) (b:=0) e;rwa[b1R] at this
 rw[b0B e,b0r e,h,<-Int.sub_mul,<-Int.add_mul,b2y e]
def b3l (a b c n:Int):a*n*(a*n)+b*n*(b*n)+c*n*(c*n)=(a*a+b*b+c*c)*(n*n):=by grind
def b1T {n:Int} (f:1<=n) {v w:VW} {b d:BX} {g:Int} (h:b1d n b d) (k:b0x n v.e w.e):yz w d (g*n)=yz v b g*(n*n):=by obtain⟨⟨j,o,a3⟩,b1,q,s⟩:=h;obtain⟨r,i,p⟩:=k;unfold yz Vd;rw[j,o,a3,b1,q,s,r,i,p,b1n f,b1n f,b1n f,b3l]
def b3n (e f n:Int):e*n*f*(e*n*f)=e*f*(e*f)*(n*n):=by grind
def b3o (p d n:Int):p*p*(d*(n*n))=p*p*d*(n*n):=by grind
def b2P {f p d e n:Int} (q:1<=n):o7 f p (d*(n*n)) (e*n)=o7 f p d e:=by
 have g:0<n:=om;have o:(e*n<=0)↔e<=0:=⟨λh=>by refine Int.not_lt.1 λk=> ?_;have:=Int.mul_pos k g;omega,λh=>by have:=nO h (Int.le_of_lt g);rwa[b1R] at this⟩;have j:(e*n*f*(e*n*f)<=p*p*(d*(n*n)))↔e*f*(e*f)<=p*p*d:=by rw[b3n,b3o];have i:=Int.mul_pos g g;exact⟨λh=>Int.le_of_mul_le_mul_right h i,λh=>nO h (Int.le_of_lt i)⟩
 unfold o7;simp only[o,j]
structure SmG (CL:List CU) (L:List GU):Prop where
 c: ∀c∈CL,∀t∈c.tl,mm 327680 t
 g: ∀g∈L,0<=g.total/\g.total<=100000000000
def Po.sm {fam} (h:Po fam CL L):SmG CL L:=by have i:=h.ll;refine⟨λc f=>(h.cu c f).cor,λg e=> ?_⟩;have:=h.tot g e;omega
def b2O {n} (k:1<=n/\n<=256) (hs:SmG CL L) (e:L.map (its n)=M.map b51) {c} (hm:d.made=c.made):(pV M d).1=(pV L c).1*n:=by
 unfold pV;rw[hm];by_cases h:0<=c.made;rw[if_pos h,if_pos h];have f:(L.map (its n))[c.made.toNat]? =(M.map b51)[c.made.toNat]? :=by rw[e]
 rw[gA,gA] at f
 cases h1:L[c.made.toNat]?with
 |none=>
  rw[h1] at f
  cases h2:M[c.made.toNat]?with
  |none=>show(0:Int)=0*n;rw[b1R]
  |some y=>rw[h2] at f;cases f
 |some x=>
  rw[h1] at f
  cases h2:M[c.made.toNat]?with
  |none=>rw[h2] at f;cases f
  |some y=>rw[h2] at f;have i:its n x=b51 y:=bL.inj f;have j:wr ix (x.total*n)=y.total:=congrArg Prod.snd i;have o:=hs.g x (dV h1);show y.total=x.total*n;rw[<-j];exact b0e (B:=100000000000) om dc k
 rw[if_neg h,if_neg h];show(0:Int)=0*n;rw[b1R]
def b2p {n} (g:1<=n/\n<=256) (hs:SmG CL L) (e:L.map (its n)=M.map b51) {v w} (q:b0x n v.e w.e) (k:w.f=v.f) (hp:w.p=v.p) {c} (u:c∈CL) (hm:d.made=c.made) (o:d.tl=c.tl.map (b54 n)):qj (kL M w d)=qj (kL L v c):=by
 have r:=b2O g hs e hm;unfold kL;rw[o];have i:=hs.c c u
 cases h:c.tl with
 |nil=>show(!true&&_)=(!true&&_);rfl
 |cons t l=>rw[h] at i;obtain⟨j,-,-⟩:=i t aP;have s:=b05 g (t::l) i (b:=⟨t.a,t.a⟩) (d:=⟨b53 n t.a,b53 n t.a⟩) ⟨b0U g j,b0U g j⟩;show(!o7 w.f w.p (yz w (qk ⟨b53 n t.a,b53 n t.a⟩ ((t::l).map (b54 n))) (pV M d).1) (pV M d).1&&decide (0<=d.made))=(!o7 v.f v.p (yz v (qk ⟨t.a,t.a⟩ (t::l)) (pV L c).1) (pV L c).1&&decide (0<=c.made));rw[hm,r,k,hp,b1T g.1 s q,b2P g.1]
def b2N {n:Int} (N:1<=n/\n<=256) (hs:SmG CL L) (B:CL.map (mts n)=CM.map mt) (e:L.map (its n)=M.map b51) {v w:VW} (O:b0x n v.e w.e) (s:w.f=v.f) (hp:w.p=v.p) (h:PD CM M w CT):PD CL L v CT:=by
 have r:CL.map mu=CM.map mu:=b0m B;have y:L.map io=M.map io:=b0m e;have q: ∀D,Ik CL L v D↔Ik CM M w D:=λD=>by (have two: ∀(i:Nat) (c d:CU),CL[i]? =some c->CM[i]? =some d->nf D d=nf D c/\qj (kL M w d)=qj (kL L v c):=λi c d g j=>by (have A:(CL.map (mts n))[i]? =(CM.map mt)[i]? :=by rw[B]);rw[gA,gA,g,j] at A;have u:mts n c=mt d:=bL.inj A;have z:c.made=d.made:=congrArg (λx=>x.1.1) u;have E:c.used=d.used:=congrArg (λx=>x.1.2) u;have G:c.tl.map (b54 n)=d.tl:=congrArg Prod.snd u;refine⟨by unfold nf;rw[z,E],b2p N hs e O s hp (dV g) z.symm G.symm⟩);constructor;intro k i d j o;obtain⟨c,g,-⟩:=b0q r j;obtain⟨a,b⟩:=two i c d g j;rw[b];exact k i c g (by rw[<-a];exact o);intro k i c g o;obtain⟨d,j,-⟩:=b0q r.symm g;obtain⟨a,b⟩:=two i c d g j;rw[<-b];exact k i d j (by rw[a];exact o)
 obtain⟨⟨I,F⟩,J⟩:=h;exact⟨⟨b1M r.symm y.symm I,λD H s=>F D (b1M r y H) ((q D).1 s)⟩,(q CT).2 J⟩
def trZ (t:TR):List ZV:=[⟨t.a.x,t.a.hx⟩,⟨t.a.y,t.a.hy⟩,⟨t.a.z,t.a.hz⟩,⟨t.b.x,t.b.hx⟩,⟨t.b.y,t.b.hy⟩,⟨t.b.z,t.b.hz⟩,⟨t.c.x,t.c.hx⟩,⟨t.c.y,t.c.hy⟩,⟨t.c.z,t.c.hz⟩]
def a9K (l:List TR):List ZV:=l.flatMap trZ
def b0t: ∀l:List TR,(a9K l).length=9*ln l
 |[]=>rfl
 |t::l=>by have:=b0t l;unfold a9K at*;rw[aL,aa,this,aS];show 9+_=_;omega
def b02: ∀l:List TR,bG bU l=qh (a9K l)
 |[]=>rfl
 |t::l=>by show qd t++bG bU l=_;rw[b02 l];rfl
def b1c n: ∀l:List TR,(a9K l).map (b55 n)=a9K (l.map (b54 n))
 |[]=>rfl
 |t::l=>by have:=b1c n l;unfold a9K at*;rw[aL,aV,this];rfl
def a0K (n:Int) (l:List ZV) (m:Nat):List ZV:=(l.take m).map (b55 n)++l.drop m
def b0s n l m:(a0K n l m).length=ln l:=by unfold a0K;rw[aa,bO,aO,bN];omega
def b2E n l:a0K n l 0=l:=rfl
def b1w n l (h:m=ln l):a0K n l m=l.map (b55 n):=by subst h;unfold a0K;rw[bP,a8S,bk]
def b1x n l {k} (h:m<=k) (hk:k<ln l):(a0K n l m)[k]'(by rw[b0s];exact hk)=l[k]:=by unfold a0K;rw[List.getElem_append_right (by rw[bO,aO];omega)];simp only[bO,aO,List.getElem_drop];congr 1;omega
def b1y n l (h:m<ln l):(a0K n l m).set m (b55 n l[m])=a0K n l (m+1):=by unfold a0K;rw[List.set_append_right _ _ (by rw[bO,aO];omega),bO,aO,cq (bw h),kz,List.drop_eq_getElem_cons h,yk,bE h,aV,List.append_assoc];rfl
end
def b2g (l:List (FuncId×cP)) (H:FuncId->List SV->List aY->(SV->List aY->Prop)->Prop) (f:FuncId) (args:List SV) (hp:List aY) (K:SV->List aY->Prop):Prop:=
 match ZL l f with
 |some c=> ∃j h d,Y5 h args d/\(match an hp j with
  |some ⟨.x k,true,[],t⟩=>(t=2\/t=3)/\roK hp h λe=>jB e/\jQ e ⟨.x k,true,[],3⟩ λe=>c d e λv g=> ∀s,a0z (λa=>a<s) hp->a0z (λa=>s<=a) g->pE hp λn=>Is hp g λi=>jQ h j λh=>K (v.mv h n) i
  |_=>False)
 |none=>H f args hp K
def b1t {P l} (hl:vB P l) {H} (hH:ko P H):ko P (b2g l H):=by
 intro f s u K h;unfold b2g at h;split at h;rename_i c hc;have a0:=hl _ (uX hc);obtain⟨fb,bs0,l',M,h⟩:=h;split at h;rename_i Y t V;obtain⟨ht,h⟩:=h;refine⟨a0.1,λN w0 p w hh _=> ?_⟩;obtain⟨z,B,R,E,X⟩:=EG h;have J: ∀r m:fF,(∀i b,bs0[i]? =some b->m (0+i)=r b)->s.map (SV.den r)=l'.map (SV.den m):=λr m h=>M r m λi b g=>by rw[cD] at g;have:=h i b g;rw[aN] at this;exact this
 obtain⟨D,B⟩:=B;rw[eW] at B;have a4: ∃o,(⟨.x Y,true,[],t⟩:aY).famOf=some (o,Y):=by rcases ht with rfl|rfl<;>exact⟨_,rfl⟩
 obtain⟨j,hros⟩: ∃j,j=z++[⟨.x Y,true,[],3⟩]:=⟨_,rfl⟩;obtain⟨q,hbsd⟩: ∃q,q=bs0++[fb]:=⟨_,rfl⟩;rw[<-hros] at B;have a8:ln j=ln q:=by rw[hros,hbsd];simp[R]
 have A:jB j:=by rw[hros];exact pL ff D
 have a2:wq j:=by rw[hros];exact ri ⟨rfl,rfl⟩ E
 have U: ∀i b,q[i]? =some b-> ∃c d,an u b=some c/\an j i=some d/\d.cs=c.cs:=λi b g=>by rw[hbsd] at g;by_cases hlt:i<ln bs0;rw[dN hlt] at g;obtain⟨c',d',G,h2,h3⟩:=X i b g;refine⟨c',d',G,?_,h3⟩;rw[hros,cQ,if_pos om];exact h2;rw[fe om] at g;(have e:i-ln bs0=0:=by have:=(aw.1 g).1;simp at this;omega);rw[e] at g;simp at g;subst g;refine⟨_,⟨.x Y,true,[],3⟩,V,?_,rfl⟩;rw[hros,cQ,if_neg om,show i-ln z=0 by omega];rfl
 have a1: ∀r m:fF,(∀i b,q[i]? =some b->m (0+i)=r b)->s.map (SV.den r)=l'.map (SV.den m):=λr m h=>J r m λi b g=>h i b (by rw[hbsd,dN (aw.1 g).1];exact g);let r:fF:=λi=>p (q[i]?.getD 0);have O: ∀i b,q[i]? =some b->r i=p b:=λi b g=>by show p (q[i]?.getD 0)=p b;rw[g];rfl
 have I:s.map (SV.den p)=l'.map (SV.den r):=a1 p r (λi b g=>by rw[aN];exact O i b g);rw[I];have w7: ∀i b o l,an j i=some b->b.famOf=some (o,l)->o=false/\l=Y:=λi b o l g y=>by rw[hros,cQ] at g;split at g;rw[iB (kd E g).2] at y;cases y;(have e:i-ln z=0:=by rw[cD] at g;have:=(aw.1 g).1;simp at this;omega);rw[e] at g;cases g;cases y;exact⟨rfl,rfl⟩
 refine(a0.2 l' j _ B a2 A r w (λi d hd=> ?_) (λi b o l e g y Q=> ?_) (λi b o l g y=>(w7 i b o l g y).1)).mono ?_;have g:i<ln j:=by rw[cD] at hd;exact(aw.1 hd).1
 obtain⟨b,hb⟩: ∃b,q[i]? =some b:=⟨_,ae om⟩;obtain⟨c',d',G,h2,h3⟩:=U i b hb;rw[hd] at h2;cases h2;have:=(hh.holds p (gt.refl _ _) b c' G).1;have a5:af r d.cs=af p d.cs:=(jr A hd) r p;rw[O i b hb,a5,h3];exact this;obtain⟨rfl,rfl⟩:=w7 i b o l g y;obtain⟨o',a7⟩:=a4;have:=(hh.fam fb _ o' _ e V a7 Q).1;exact⟨this.pure,this.row,λh=>(by cases h),this.holds,λ_=>this.lt⟩;rintro e w' ⟨v,news,σ,B,hn,hc,hσ,Q⟩;have B:=B w.heap.size (KV _ λi c o l e g y Q=>(hh.fam i c o l e g y Q).1.lt) (KV _ λi c o l e g y Q=>by have ho:=(pJ hn g).1.fam y;exact((hc.fam (ln j+i) c o l e (by rw[cQ,if_neg om,show (ln j)+i-ln j=i by omega];exact g) y Q).1.own ho).1);rw[gq,uj,eW,<-hbsd] at B;refine⟨_,_,_,B,hh.join hc hn,λi g=> ?_,λW F=> ?_⟩;have Z:i<ln u:=by obtain⟨x,L⟩:=aK.1 g;rw[cD] at L;exact(aw.1 L).1
 exact⟨by rw[cQ,if_pos Z];exact g,if_pos Z⟩;rw[Ek];refine Q _ (λk hk=> ?_);have hkl:k<(j++news).length:=by obtain⟨x,L⟩:=aK.1 hk;rw[cD] at L;exact(aw.1 L).1
 show W (If q (ln u) k)=σ k;unfold If;by_cases hkr:k<ln j;have a6:k<ln q:=om;obtain⟨b,hb⟩: ∃b,q[k]? =some b:=⟨_,ae a6⟩;rw[cD,hb];obtain⟨c',d',G,-⟩:=U k b hb;have T:b<ln u:=by rw[cD] at G;exact(aw.1 G).1
 rw[hσ k hkr,O k b hb];have:=F b (by rw[cQ,if_pos T,G];rfl);rw[this];exact if_pos T;rw[cD,bi om];have L:(an (u++news) (ln u+(k-ln q))).isSome=true:=by rw[cQ,if_neg om];rw[cQ,if_neg hkr] at hk;rw[show (ln u)+(k-ln q)-ln u=k-(ln j) by omega];exact hk
 have:=F _ L;show W (ln u+(k-ln q))=σ k;rw[this];show(if (ln u)+(k-ln q)<(ln u) then _ else σ (ln u+(k-ln q)-ln u+ln j))=σ k;rw[if_neg om];congr 1;omega;exact h.elim;exact hH f s u K h
section
open Go Go.RowKit
variable {T:TypeId->Option TI} {ops f:List Oper} {tm:List SV} {D:List Bool} {i j:Nat} {o:Oper} {E:ic} {H:FuncId->List SV->List aY->(SV->List aY->Prop)->Prop} {hp:List aY} {O:Oper->List SV->List aY->(List SV->List aY->Prop)->Prop} {ev:Operand->SV} {hf:Nat->Option aY} {x y:Operand} {P:Nat->Oper->Prop}
def b03 {p}: ∀{l},(∀i∈l,p i)->Vw l p
 |[],_=>trivial
 |_::_,h=>⟨h _ aP,b03 λj d=>h j (aD _ d)⟩
def b0Y {T ops tm K} {Z:Prop}: ∀{l},(∀i∈l,∀o v,ops[i]? =some o->mf T o.op (gv tm) (λ_=>none)=some (.val v)->K i o v)->Z->xx T ops tm l K Z
 |[],_,z=>z
 |i::l,h,z=>by have d:=b0Y (l:=l) (λj g=>h j (aD _ g)) z;unfold xx;rw[cD];split;rename_i o e;split;split;rename_i v k;exact h i aP o v e k;exact d;exact d;exact d
def ClB (ops:List Oper) (D:List Bool):Prop:= ∀i o,ops[i]? =some o->ij false D i=true-> ∀e∈o.after.toList,Region.binds .any e=true->ij false D e.on=true
def a9J (h:i<ln D):ij true D i=ij false D i:=by rw[iE,iE,ae h];rfl
def a3q :ij false (xJ D i) j=if i=j/\i<(ln D) then true else ij false D j:=by rw[se,iE,iE,b3s];by_cases e:i=j;subst e;by_cases h:i<ln D;rw[if_pos rfl,if_pos h,if_pos ⟨rfl,h⟩];rfl;rw[if_pos rfl,if_neg h,if_neg (λk=>h k.2),bi om];rw[if_neg e,if_neg (λk=>e k.1)]
def b1G D i:(xJ D i).length=ln D:=by rw[se,aZ]
def b1U (h:ClB ops D) (ho:ops[i]? =some o) (r:Bp D o.after.toList=true):ClB ops (xJ D i):=λj u d g e m p=>by
 have up: ∀k,ij false D k=true->ij false (xJ D i) k=true:=λk q=>by rw[a3q];split;rfl;exact q
 rw[a3q] at g;split at g;rename_i s;obtain⟨rfl,-⟩:=s;rw[ho] at d;cases d;exact up _ (TO.1 r e m p);exact up _ (h j u d g e m p)
def b1g (D:List Bool):Nat:=D.count false
def b1p (h:ij true D i=false):b1g (xJ D i)+1=b1g D:=by
 induction D generalizing i with
 |nil=>cases h
 |cons b D ih=>
  cases i with
  |zero=>have h:b=false:=h;subst h;show List.count false (true::D)+1=List.count false (false::D);simp
  |succ i=>have:=ih (i:=i) h;show List.count false (b::xJ D i)+1=List.count false (b::D);unfold b1g at this;rw[jX,jX];omega
def b2r (h:b1g D=0): ∀i,ij true D i=true:=λi=>by
 rw[iE]
 cases hb:D[i]?with
 |none=>rfl
 |some b=>
  cases b with
  |true=>rfl
  |false=>exact absurd (dV hb) (List.count_eq_zero.1 h)
def b2a (g:yW 0 ops=true) (hl:ln D=ln ops) (h:xH D 0 ops=[]): ∀i,ij true D i=true:=λi=>by
 induction i using Nat.strongRecOn with
 |_ i q=>
  cases hi:ij true D i with
  |true=>rfl
  |false=>
   have d:i<ln ops:=by rcases cj i (ln D) with p|p;omega;rw[iE,bi p] at hi;cases hi
   have k:=ae d
   have:i∈xH D 0 ops:=Hj.2 ⟨i,ops[i],(aN i).symm,k,hi,TO.2 λe r s=>by
    have m:=pq (by rw[<-B4];exact g) i _ k e (Array.mem_toList_iff.1 r) s
    rw[aN] at m
    rw[<-a9J om];exact q _ m⟩
   rw[h] at this;cases this
def b1z:Op->Bool
 | .call _=>false
 |_=>true
def b0Z {K X} (d:mf E.T o.op (gv tm) (an hp)=some (.val X)) (h:K (mG o.dst X tm) hp):wJ E H o tm hp K:=by
 have e:wJ E H o tm hp K=X.force λv=>fI o.dst v tm λtm=>K tm hp:=by unfold wJ;rw[d]
 rw[e,SV.force_eq,dp];exact h
def b2c {K} (k:mf E.T o.op (gv tm) (an hp)=none) (g:b1z o.op=true) (h:E.O o tm hp K):wJ E H o tm hp K:=by
 have e:wJ E H o tm hp K=(match o.op with
  | .call c=>(match callee (gv tm) c with
   |some (f,args)=>(match E.D f args (an hp) with
    |some (none,v)=>v.force λv=>fI o.dst v tm λtm=>K tm hp
    |some (some p,v)=>p/\v.force λv=>fI o.dst v tm λtm=>K tm hp
    |none=>H f args hp λv hp=>v.force λv=>fI o.dst v tm λtm=>K tm hp)
   |none=>E.O o tm hp K)
  |_=>E.O o tm hp K):=by unfold wJ;rw[k];rfl
 rw[e];split;rename_i c d;rw[d] at g;cases g;exact h
def b2j (E:ic) (d:List Bool->List SV) (e:List Bool->List aY) (D:List Bool) (i:Nat) (o:Oper):Prop:=
 o.guard=none/\((∃X,(∀hf,mf E.T o.op (gv (d D)) hf=some (.val X))/\d (xJ D i)=mG o.dst X (d D)/\e (xJ D i)=e D)\/
  ((∀hf,mf E.T o.op (gv (d D)) hf=none)/\b1z o.op=true/\ ∀K:List SV->List aY->Prop,K (d (xJ D i)) (e (xJ D i))->E.O o (d D) (e D) K))
def b17 {q u K} (J:yW 0 ops=true) (step: ∀D i o,ln D=ln ops->ClB ops D->ops[i]? =some o->ij true D i=false->Bp D o.after.toList=true->b2j E q u D i o) (fin:K (q (au (ln ops) true)) (u (au (ln ops) true))): ∀fuel D,ln D=ln ops->ClB ops D->b1g D<=ln fuel->CH E H ops fuel D (q D) (u D) K:=by
 have done: ∀D:List Bool,ln D=ln ops->(∀i,ij true D i=true)->K (q D) (u D):=λD g h=>by (have:D=au (ln ops) true:=by refine jg (by rw[bb,g]) λi F p=> ?_;have:=h i;rw[iE,ae F] at this;rw[List.getElem_replicate];exact this);rw[this];exact fin
 intro fuel
 induction fuel with
 |nil=>
  intro D g L A;have Q:=b2r (Nat.le_zero.1 A);unfold CH;split;exact done D g Q;rename_i x W
  cases s:xH D 0 ops with
  |nil=>exact W s
  |cons i l=>(have:i∈xH D 0 ops:=by rw[s];exact aP);obtain⟨-,-,-,-,p,-⟩:=Hj.1 this;rw[Q i] at p;cases p
 |cons x fuel ih=>intro D g L A;unfold CH;split;rename_i s;exact done D g (b2a J g s);rename_i i l s;(have N: ∀j∈i::l,∃o,ops[j]? =some o/\b2j E q u D j o/\CH E H ops fuel (xJ D j) (q (xJ D j)) (u (xJ D j)) K:=λj d=>by rw[<-s] at d;obtain⟨U,o,e,m,F,p⟩:=Hj.1 d;obtain rfl:j=U:=om;refine⟨o,m,step D j o g L m F p,ih _ (by rw[b1G,g]) (b1U L m p) ?_⟩;have:=b1p F;simp only[aS] at A;omega);refine b0Y (λj d o v m B=> ?_) (b03 λj d=> ?_);(have d:j∈i::l:=by revert d;split;exact id;intro d;cases d);obtain⟨Y,z,⟨R,M⟩,r⟩:=N j d;rw[m] at z;cases z;rcases M with⟨X,k,I,G⟩|⟨k,-⟩;rw[k] at B;cases B;rw[SV.force_eq,dp];rw[I,G] at r;exact r;rw[k] at B;cases B;obtain⟨o,m,⟨R,M⟩,r⟩:=N j d;rw[cD,m];show(match o.guard with|none=>_|some _=>_);rw[R];rcases M with⟨X,k,I,G⟩|⟨k,A,V⟩;refine b0Z (k _) ?_;rw[I,G] at r;exact r;exact b2c (k _) A (V _ r)
def owO:List Oper->Nat->Nat->Option Nat
 |[],_,_=>none
 |o::l,k,t=>(match o.dst with
  |some u=>(match nu u t with|true=>some k|false=>owO l (k+1) t)
  |none=>owO l (k+1) t)
def slO (ops:List Oper) (v:Nat->SV) (tm:List SV) (D:List Bool) (t:Nat):SV:=
 match owO ops 0 t with
 |some j=>(match ij false D j with|true=>v j|false=>ij uv tm t)
 |none=>ij uv tm t
def tmO (ops:List Oper) (v:Nat->SV) (tm:List SV) (D:List Bool):List SV:=(List.range (ln tm)).map (slO ops v tm D)
def b0T: ∀{l k t i},owO l k t=some i-> ∃j o,i=k+j/\l[j]? =some o/\o.dst=some t
 |[],_,_,_,h=>by cases h
 |o::l,k,t,i,h=>by (have up:owO l (k+1) t=some i-> ∃j d,i=k+j/\(o::l)[j]? =some d/\d.dst=some t:=λh=>by obtain⟨j,d,e,m,g⟩:=b0T h;exact⟨j+1,d,om,by simpa using m,g⟩);unfold owO at h;split at h;rename_i u p;split at h;rename_i e;cases h;exact⟨0,o,rfl,rfl,by rw[p,gH e]⟩;exact up h;exact up h
def b2b ops v tm D:(tmO ops v tm D).length=ln tm:=by unfold tmO;rw[bO,CR]
def b1K ops v tm D u:(tmO ops v tm D)[u]? =if u<(ln tm) then some (slO ops v tm D u) else none:=by unfold tmO;rw[gA];by_cases h:u<ln tm;rw[List.getElem?_range h,if_pos h];rfl;rw[if_neg h,bi (by rw[CR];omega)];rfl
def b1I ops v tm D {t} (h:t<ln tm):ij uv (tmO ops v tm D) t=slO ops v tm D t:=by rw[iE];unfold tmO;rw[gA,List.getElem?_range h];rfl
def b2M {v t} (d:t<ln tm) (ho:owO ops 0 t=some j) (e:ij false D j=true):ij uv (tmO ops v tm D) t=v j:=by rw[b1I ops v tm D d];unfold slO;rw[ho];show(match ij false D j with|true=>v j|false=>ij uv tm t)=v j;rw[e]
def b1J {v t} (d:t<ln tm) (ho:owO ops 0 t=none):ij uv (tmO ops v tm D) t=ij uv tm t:=by rw[b1I ops v tm D d];unfold slO;rw[ho]
def b1A (ops:List Oper) (n:Nat):Nat->List Oper->Bool
 |_,[]=>true
 |k,o::l=>(match o.dst with
  |some t=>Nat.blt t n&&(match owO ops 0 t with|some j=>nu j k|none=>false)
  |none=>true)&&b1A ops n (k+1) l
def b09 {ops n}: ∀{l k},b1A ops n k l=true-> ∀j o t,l[j]? =some o->o.dst=some t->t<n/\owO ops 0 t=some (k+j)
 |[],_,_,j,o,t,hj,_=>by cases hj
 |x::l,k,h,j,o,t,hj,ht=>by
  unfold b1A at h;rw[aG] at h
  cases j with
  |zero=>simp at hj;subst hj;have d:=h.1;rw[ht] at d;have d:(Nat.blt t n&&(match owO ops 0 t with|some j=>nu j k|none=>false))=true:=d;rw[aG] at d;obtain⟨m,g⟩:=d;refine⟨aj m,?_⟩;split at g;rename_i p e;rw[e,gH g];rfl;cases g
  |succ j=>have:=b09 h.2 j o t (by simpa using hj) ht;rw[show k+(j+1)=k+1+j by omega];exact this
def C7 {v} (h:b1A ops (ln tm) 0 ops=true) (ho:ops[i]? =some o) (hi:i<ln D) {X} (p:o.dst=none\/X=v i):tmO ops v tm (xJ D i)=mG o.dst X (tmO ops v tm D):=by
 have ne: ∀u,(∀t,o.dst=some t->t≠u)->slO ops v tm (xJ D i) u=slO ops v tm D u:=λu z=>by unfold slO;split;rename_i j A;(have q: ¬i=j:=λe=>by subst e;obtain⟨s,F,e,d,m⟩:=b0T A;obtain rfl:i=s:=om;rw[ho] at d;cases d;exact z _ m rfl);rw[a3q,if_neg (λk=>q k.1)];rfl
 cases hd:o.dst with
 |none=>show _=tmO ops v tm D;unfold tmO;(exact iK λu _=>ne u λt r=>by rw[hd] at r;cases r)
 |some t=>have p:X=v i:=p.resolve_left (by rw[hd];exact λe=>by cases e);obtain⟨d,m⟩:=b09 h i o t ho hd;rw[aN] at m;show tmO ops v tm (xJ D i)=(tmO ops v tm D).set t X;refine b0v λu=> ?_;rw[b3s,b2b,if_pos d,b1K,b1K];by_cases e:t=u;subst e;rw[if_pos rfl,if_pos d];unfold slO;rw[m];show some (match ij false (xJ D i) i with|true=>v i|false=>_)=some X;rw[a3q,if_pos ⟨rfl,hi⟩,p];rw[if_neg e,ne u λB g=>by rw[hd] at g;cases g;exact e]
def b2d {id x p K} (e:WA ops=some p) (hs:Bt (ops.take p)=0) (ho:E.ord id=true) (d:ZS (ops.take p)=true) (h:CH E H (ops.take p) (ops.take p) (vX (ops.take p)) tm hp λtm hp=>vcR E H id f (MI p ops) tm hp K):vcR E H id (x::f) ops tm hp K:=by unfold vcR;rw[e];show AK E H id (ops.take p) tm hp _;unfold AK;rw[hs];dsimp only;rw[Nat.sub_zero,ho,bP,a8S];show(match ZS (ops.take p) with|true=>_|false=>_);rw[d];exact h
def b1L {all os K} (d:o.guard=none) (h:wJ E H o tm hp λtm hp=>lV E H all os tm hp K):lV E H all (o::os) tm hp K:=by unfold lV;rw[d];exact h
def b2I (O:Oper->List SV->List aY->(List SV->List aY->Prop)->Prop) (o:Oper) (tm:List SV) (hp:List aY) (K:List SV->List aY->Prop):Prop:=
 match o.op with
 | .nilCheck x=> ∃a,gv tm x= .c (.val (.pointer (some a)))/\fI o.dst (.c (.val (.pointer (some a)))) tm λtm=>K tm hp
 |_=>O o tm hp K
def b15 {P} (u:yl P O):yl P (b2I O):=λo tm hp K h N I a w next Q q r=>by
 unfold b2I at h;split at h;rename_i x p;obtain⟨b,A,h⟩:=h;obtain⟨d,z,m,s⟩:=q;have k:a.eval=gI (gv tm) d:=fP (m d (gt.refl _ _));rw[dp] at h;have e:(SV.c (C.val (.pointer (some b)))).den d= .pointer (some b):=rfl;have g:(execOp a.eval o).run P w= .ok (.value (.pointer (some b))) w:=by rw[k];simp only[execOp,p,gI,A,e];rfl
 unfold Oper.wp;rw[g];exact r _ _ _ _ h (iN.put (ρ1:=d) m s z (λj F=>⟨F,rfl⟩) o.dst λG B=>rfl);exact u o tm hp K h q r
def a9I {a} (h:ev x= .c (.val (.pointer a))):mf T (.nilCheck x) ev hf=none:=by simp only[mf,h]
def a9E {t f a} (h:ev x= .c (.val (.pointer a))):mf T (.fieldAddr t x f) ev hf=none:=by simp only[mf,h];split<;>simp_all
def b0p {t a} (h:ev x= .c (.val (.pointer a))):mf T (.load t x) ev hf=none:=by simp only[mf,h]
def b0E {t a} (h:ev x= .c (.val (.pointer a))):mf T (.store t x y) ev hf=none:=by simp only[mf,h]
def b0h {d o t e a b} (ho:d= .binOp o t x y e) (hx:ev x=a) (hy:ev y=b):mf T d ev hf=IF T o t a b:=by subst ho;subst hx;subst hy;rfl
def b12 (j:Nat):List Edge->Bool
 |[]=>false
 |e::l=>(Region.binds .any e&&nu e.on j)||b12 j l
def kT {D}: ∀{l j},Bp D l=true->b12 j l=true->ij false D j=true
 |[],_,_,h=>by cases h
 |e::l,j,hr,h=>by have h:((Region.binds .any e&&nu e.on j)||b12 j l)=true:=h;rw[dY] at h;have d:=TO.1 hr;rcases h with h|h;rw[aG] at h;rw[<-gH h.2];exact d e aP h.1;exact kT (TO.2 λe g k=>d e (aD _ g) k) h
def b0A (h:ClB ops D) (ho:ops[i]? =some o) (hi:ij false D i=true) (hj:b12 j o.after.toList=true):ij false D j=true:=kT (TO.2 λe d g=>h i o ho hi e d g) hj
def b1i ops v tm:tmO ops v tm (vX ops)=tm:=by
 refine b0v λu=> ?_;rw[b1K];by_cases h:u<ln tm;rw[if_pos h,ae h];unfold slO;have e:ij uv tm u=tm[u]:=by rw[iE,ae h];rfl
 split;rename_i j d;have:ij false (vX ops) j=false:=by rw[rT,iE,gT];split<;>rfl
 rw[this,e];rw[e];rw[if_neg h,bi om]
def b1f ops:ClB ops (vX ops):=λi o _ h=>by rw[rT,iE,gT] at h;split at h<;>cases h
def b1k {all K} (h:K tm hp):lV E H all [] tm hp K:=h
def b1j {id ops Q} (h:vcR E H id ops.toList ops.toList tm hp λtm hp=>Q .normal tm hp):Fl E H (.region id ops true) tm hp Q:=h
def b1m:Nat->List Oper->(Nat->Oper->Prop)->Prop
 |_,[],_=>True
 |i,o::l,P=>P i o/\b1m (i+1) l P
def b04 {P}: ∀{l k},b1m k l P-> ∀{i o},l[i]? =some o->P (k+i) o
 |[],_,_,i,o,h=>by cases h
 |x::l,k,hp,0,o,h=>by simp at h;subst h;exact hp.1
 |x::l,k,hp,i+1,o,h=>by have:=b04 hp.2 (show l[i]? =some o by simpa using h);rw[show k+(i+1)=k+1+i by omega];exact this
def b1S {l} (e:l=ops) (h:b1m 0 l P):b1m 0 ops P:=e▸h
def b2D {d:Type} {P:d->Prop} {a l:d} (e:a=l) (h:P l):P a:=e▸h
def b2K {tm2 d K} (g:tm2=tm) (e:d=hp) (h:CH E H ops f D tm2 d K):CH E H ops f D tm hp K:=by subst g;subst e;exact h
def b07 {K t} (d:o.op= .store t x y) {l ti} (hy:(gv tm y).ch=some l) (hT:T t=some ti) (h: ∃r off fb l1 e l2 cs',gv tm x= .c (.val (.pointer (some ⟨r,off,none⟩)))/\(bu l=ti.size/\gJ l=true/\e.a.1=r)/\an hp fb=some ⟨.x (l1++e::l2),true,[],2⟩/\(TL e.cs off l=some cs'/\cC cs')/\ (XO hp/\WL r fb 0 hp/\ ∀e',e'∈l1++l2->e'.a.1≠r)/\fU hp fb ⟨.x (l1++⟨(r,0),cs',e.ty,e.tl⟩::l2),true,[],2⟩ λhp1=>jQ hp1 ⟨.t 0,true,[],0⟩ λhp'=>fI o.dst uv tm λtm=>K tm hp'):En T O o tm hp K:=by unfold En;right;rw[d];dsimp only;rw[hy,hT];exact h
end
end Go.Proofs.YtlgcobafjbajdaaGreatDoor
