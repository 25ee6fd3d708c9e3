/- w -/
import Derived.Test.YtlgcobafjbajdaaGreatDoorJ01
import Derived.Test.YtlgcobafjbajdaaGreatDoorJ11
import Derived.Test.YtlgcobafjbajdaaGreatDoorJ10
import Derived.Test.YtlgcobafjbajdaaGreatDoorJ04
import Derived.Test.YtlgcobafjbajdaaGreatDoorJ07
namespace Go.Proofs.YtlgcobafjbajdaaGreatDoor
open Tryz
open Go.RowKit
open List renaming append_assoc→aJ,count_cons→jX,drop_eq_getElem_cons→bh,getElem_replicate→b0w,length→ln,map→cg,map_append→aV,replicate→au,replicate_succ→dZ
set_option linter.all false
set_option maxRecDepth 100000
set_option maxHeartbeats 64000000
section
variable {P:Program} {CL:List CU} {k:Nat}
def hsel (l:List FuncId) (d e:FuncId->List SV->List aY->(SV->List aY->Prop)->Prop) (f:FuncId) (args:List SV) (hp:List aY) (K:SV->List aY->Prop):Prop:=
 match a2p l f with
 |true=>d f args hp K
 |false=>e f args hp K
def Xf {l e g} (h1:ko P e) (h2:ko P g):ko P (hsel l e g):=λf d i K h=>by unfold hsel at h;split at h;exact h1 f d i K h;exact h2 f d i K h
def a2B (P:Program) (O:Oper->List SV->List aY->(List SV->List aY->Prop)->Prop) (o:Oper) (d:List SV) (hp:List aY) (K:List SV->List aY->Prop):Prop:=
 match o.op with
 | .binOp .eql t x y _=>(∃e,P.underlying t=some (.pointer e))/\gv d x= .c (.val (.pointer none))/\gv d y= .c (.val (.pointer none))/\fI o.dst (.c (.val (.bool true))) d λd=>K d hp
 |_=>O o d hp K
def XQ {O} (J:yl P O):yl P (a2B P O):=λo m G K h N M a w next Q z u=>by
 unfold a2B at h;split at h;rename_i t x y L p;obtain⟨⟨e,E⟩,F,D,h⟩:=h;obtain⟨d,H,g,B⟩:=z;have f:a.eval=gI (gv m) d:=fP (g d (gt.refl _ _));rw[dp] at h;have s:a.eval x= .pointer none:=by rw[f];show(gv m x).den d=_;rw[F];rfl
 have r:a.eval y= .pointer none:=by rw[f];show(gv m y).den d=_;rw[D];rfl
 have q:P.underlying t=some (.pointer (P.pointee t)):=by unfold Program.pointee;rw[E]
 have i:=run_eql_pointer_nil (P:=P) w t none q;exact wL p (by rw[s,r];simp[eqGuard]) (by rw[s,r];exact i) (u _ _ _ _ h (iN.put (ρ1:=d) g B H (λj I=>⟨I,rfl⟩) o.dst λR A=>rfl));exact J o m G K h z u
def mkX:List (FuncId×cP):=[(74,Di)]
def a2r:vB prog mkX:= .cons F0 .nil
def mkN:List (FuncId×cP):=[(73,vO)]
def a2q:iL prog mkN:= .cons rL .nil
def LE:ic:={vA 0 s9 with O:=En qo (lR qo)}
def uI:iU prog LE:=⟨(cm eR 0).T,(cm eR 0).D,nH eD (gy eD),(cm eR 0).R,λ_ _ _ _ h=>(show False from h).elim⟩
def hK0:=a18 OQ (Xc OQ (SI (LV mkX (hnew mkN (inl LE Mh 0))) 1))
def SC:ko prog hK0:=LS yb Ms (D0 yb (uM (qJ a2r (dX a2q (ck uI bj bg 0))) 1))
noncomputable def hK1:=hat [75] (hsel [75] hGr hK0)
def a15:ko prog hK1:=ze (Xf a14 SC)
def a4h:ic:={LE with O:=a2B prog (Tt LE hK0 LE.O 1),ord:=λid=>Nat.beq id 9}
def Sg:iU prog a4h:=⟨uI.T,uI.D,XQ (Es uI SC uI.O 1),uI.R,λ_ _ _ _ h=>(show False from h).elim⟩
def HW CL: ∀k,k<=ln CL->k<=100000000000->(gF CL (qm 0 k)).length=((CL.take k).map λc=>ln c.tl).sum
 |0,_,_=>rfl
 |k+1,h,hb=>by rw[oJ,nj,aa,HW CL k om om,bE h,aV,PH];unfold gF;simp only[aL,bF,bk,aI,dj,KN,List.sum_nil,fM,aN];rw[AH (AT ui) h]
structure a6L (A:List (LI TR)) where
 k:Nat
 oC:OL CU
 oK:OL ZV
 fam:List mq
 hk:k<=ln A
 hC:ln oC.l=k
 hK:oK.l=qm 0 k
 cu: ∀c∈oC.l,Fn fam c
 st: ∀c∈oC.l,c.made= -1/\c.used= -1
 le:(oC.l.map λc=>ln c.tl)=(A.take k).map λx=>ln x.l
def S4 {d} (j:d=qm 0 (ln CL)) (h: ∀c∈CL,c.made= -1/\c.used= -1) (hs:(CL.map λc=>ln c.tl).sum<=36864) (hl:ln CL<=36864):LvI CL [] d:=by subst j;refine⟨λz f=> ?_,Em _ _ om,λz f=> ?_,?_⟩;have:=ya f om;omega;obtain⟨i,g,-,e⟩:=oI f om;rw[aN] at e;unfold iJ;rw[nT e,ae g];show CL[i].used<0;rw[(h _ (ak g)).2];decide;rw[HW CL _ (ai _) om,bP];show 0+_<=_;omega
def Sy {fam} (f: ∀c∈CL,Fn fam c) (e: ∀c∈CL,c.made= -1/\c.used= -1) (hl:ln CL<=36864):Po fam CL []:=⟨f,λg d=>absurd d cd,.start e,λc h=>by rw[(e c h).1];decide,by show _<=36864+36864*0;omega,λg d=>absurd d cd,ah _⟩
def yJ {fam CL} (e: ∀c∈CL,Fn fam c): ∀{l},xA (ln CL) l->ln l<=(gF CL l).length
 |[],_=>ah _
 |z::l,h=>by have:=yJ e (l:=l) λy g=>h y (aD _ g);obtain⟨q,f,d⟩:=nU (h z aP);have i:=(e _ (ak d)).pos;rw[show gF CL (z::l)=l8 CL z++gF CL l from rfl,aa,AH f d,aS];omega
def Fn.tr {fam} {c:CU} (h:Fn fam c):Fx fam ⟨c.s,c.tl,h.n⟩:=⟨.inr h.at_,h.pos,h.ok⟩
def Ol {d:Type} {l:List d} (hk:k<ln l) p:(l.take (k+1)).filter p=(l.take k).filter p++if p l[k]=true then [l[k]] else []:=by rw[bE hk,List.filter_append];congr 1;rw[nQ];rfl
def OB {l:List (LI TR)}:((l.take (ln l)).map λx=>ln x.l).sum=jH l:=by rw[bP];rfl
structure a6M where
 lev:Nat
 oM:OL RU
 oC:OL CU
 oG:OL GU
 oK:OL ZV
 fam:List mq
 hl:1<=lev/\lev<=23
 hM: ∀r∈oM.l,Vc fam r
 hMl:ln oM.l+36864<=lev*36864
 gf:Po fam oC.l oG.l
 lv:LvI oC.l oG.l oK.l
structure a6N (lev:Nat) (cur:List ZV) (og:List PI) where
 k:Nat
 oM:OL RU
 oC:OL CU
 oG:OL GU
 oF:OL ZV
 fam:List mq
 hk:k<=ln og
 hM: ∀r∈oM.l,Vc fam r
 hMl:ln oM.l+36864<=lev*36864+k
 gf:Po fam oC.l oG.l
 gp:Vj oC.l oG.l cur oF.l (og.drop k)
def G5 {n}: ∀{l} k,A7 n l->A7 n (l.drop k)
 |_,0,h=>h
 |[],k+1,h=>by rw[List.drop_nil];exact h
 |p::l,k+1,h=>G5 k (Tq h)
def zk (h:k<=23):IR (k:Int):=ui
def Zm:cP:=λd f K=> ∃nF e cF hF tF fam0 size hs bits hb,d=[.c (.sli nF 0 0 (ln e) cF hF),.c (.int size hs),.c (.int bits hb),.c (.val (.pointer none))]/\f=[⟨.t tF,true,bG iX e,0⟩,⟨.x fam0,true,[],3⟩]/\((∀x∈e,Fx fam0 x/\ ∀t∈x.l,mm 327680 t)/\jH e<=36864/\0<=bits/\bits<=100)/\
 ∀(g:OL CU) (oG:OL GU) fam,Po fam g.l oG.l->K (.agg [g.ch 2,oG.ch 3]) [g.blk ju 55,oG.blk ki 63,⟨.x fam,true,[],2⟩]
def Xu {l:List (LI TR)} (hk:k<ln l):l[k].l.length<=jH l:=by
 obtain⟨s,t,e⟩:=pi (ak hk);conv=>rhs;rw[e]
 unfold jH;rw[aV,PH,aI,KN];omega
def Z1 {c:OL TR} (h:1<=ln c.l):c.nl=false:=by
 cases e:c.nl with
 |false=>rfl
 |true=>have f:=c.ok.2.2 e;have d:=c.ok.1;omega
def Z2 (c:OL TR) (h:1<=ln c.l):bZ false (ln c.l) c.cap:=Z1 h▸c.ok
def ZZ (c:OL TR) (h:1<=ln c.l) {p2 f} (hi:bG bU c.l=[]\/pg f (p2,0) (bG bU c.l)): ∃r o,jK c.nl ⟨p2,0,none⟩=some ⟨r,o,none⟩/\pg f (r,o) (bG bU c.l):=by have e:c.nl=false:=Z1 h;rw[e];refine⟨p2,0,rfl,hi.resolve_left λg=> ?_⟩;have d:=hZ bU c.l;rw[g] at d;have i:0=ln c.l*9:=d;omega
def a1j:pd prog 46 Zm:=iA Sg bj a15 ⟨func46,kr,kr⟩ λi7 j1 K hc=>by
 obtain⟨nF,i,cF,hF,tF,I,size,hs,H,hb,rfl,rfl,⟨hA,Y,j7,j2⟩,hc⟩:=hc
 have d5:ln i<=jH i:=GS λq hq=>(hA q hq).1.2.1
 have j0:cC (bG iX i):=ab iX i
 refine⟨zD,?_⟩
 refine⟨⟨121,kr⟩,rfl,rfl,?_⟩
 conv=>whnf
 refine zK [0,1,2,3,4,1000+ 181,1000+ 55,1000+ 63,1000000,1000+ 3] [0,1,2,3,8,9,10,11] [0,5,6,7,9] (G:=a6L i) (λg=>[(0,.c (.sli nF 0 0 (ln i) cF hF)),(1,.c (.int size hs)),(2,.c (.int H hb)),(3,.c (.ptr 3 0)),(8,.c (.ptr 2 0)),(9,.c (.ptr 4 0)),(10,g.oK.sl 9),(11,.c (.int (g.k:Nat) (aR hF g.hk)))]) (λg=>[(0,⟨.t tF,true,bG iX i,0⟩),(1,⟨.x I,true,[],3⟩),(2,⟨30,false,[.val (.slice none 0 0),.val (.slice none 0 0)],0⟩),(3,⟨121,false,[(OL.none:OL RU).ch 5],0⟩),(4,⟨30,false,[g.oC.ch 6,(OL.none:OL GU).ch 7],0⟩),(5,(OL.none:OL RU).blk tW 181),(6,g.oC.blk ju 55),(7,(OL.none:OL GU).blk ki 63),(8,⟨.x g.fam,true,[],2⟩),(9,g.oK.blk bI 3)]) (λg=>ln i-g.k) ⟨0,OL.none,OL.none,[],ah _,rfl,rfl,(λc hc=>by cases hc),(λc hc=>by cases hc),rfl⟩ trivial ?_
 rintro ⟨k,M,oK,fam,hk,hC,hK,cu,st,le⟩ va2
 dsimp only
 refine zB ?_ ?_<;>intro g1
 have E:k<ln i:=dL g1
 have L:IR (k:Int):=aR hF hk
 have h3:=hA _ (ak E)
 obtain⟨⟨h0,e8,b3⟩,a2⟩:=h3
 have j5:i[k].l.length<=36864:=aC (Xu E) Y
 obtain⟨r9,o9,e7,g3⟩:=h0.resolve_left (λe=>by rw[e] at e8;exact absurd e8 dc)
 have j6:ln oK.l=k:=by rw[hK,G6]
 have i8:k<=36864:=aC hk (aC d5 Y)
 refine A6 ?_
 conv=>whnf
 refine .inl ⟨rfl,oK.app bI 3 (m:=1) (by show(ln oK.l+1)*1<=5000000000000;omega),λO N=> ?_⟩
 refine p6 ?_
 refine kF (Z:= ?Z1_0/\ ?Z1_1) (λa1=> ?cur1) ?nxt1
 case cur1=>
  refine⟨?_,?_,trivial⟩
  conv=>whnf
  exact a1.1
  conv=>whnf
  conv=>arg 2;tactic'=>exact ap rfl rfl rfl rfl ((mj.self iX i).get E) rfl
  conv=>whnf
  exact a1.2
 case nxt1=>
  refine kF (Z:= ?Z2_0) (λa1=> ?cur2) ?nxt2
  case cur2=>
   refine⟨⟨?_,trivial⟩,?_⟩
   conv=>whnf
   conv=>arg 2;tactic'=>exact ap rfl rfl rfl rfl ((mj.self iX i).get E) rfl
   conv=>whnf
   exact a1
   refine⟨?_,?_,trivial⟩
   conv=>whnf
   exact a1
   clear a1
   refine iT ?_
   conv=>whnf
   refine .inr ⟨0,false,r9,o9,i[k].l.length,i[k].s.c,i[k].hn▸b3, 58,bG bU i[k].l,1,(by show Value.slice i[k].s.a i[k].s.n _=_;rw[e7,i[k].hn];rfl),D7 g3 rfl rfl,⟨ab bU _,trivial⟩,false,0,i[k].l,i[k].s.c,i[k].hn▸b3,_,bG bU i[k].l,rfl,rfl,⟨ab bU _,mj.self bU _⟩,om,λc c5 d2=> ?_⟩
   conv=>whnf
   refine .inr ⟨8,13,0,⟨rfl,rfl,ab bU _,λh=>OL.nil_cs h⟩,aj rfl,λp2 f2 b8 c9=>⟨⟨?_,trivial⟩,?_,trivial⟩⟩
   iterate 2
    try refine⟨?_,trivial⟩
    refine A6 ?_
    conv=>whnf
    refine .inl ⟨rfl,M.app ju 55 (m:=1) (by show(ln M.l+1)*3<=5000000000000;omega),λc2 k2=> ?_⟩
    conv=>whnf
    have d0:Fn f2 (⟨⟨jK c.nl ⟨p2,0,none⟩,ln c.l,c.cap⟩,-1,-1,c.l,dc,dc⟩:CU):=⟨rfl,(by show 1<=ln c.l;omega),Z2 c om,ZZ c om c9,λu hu=>by obtain⟨v,hv,e⟩:=d2 u hu;rw[<-e];exact oU (S:=xP 327680) (a2 v hv),(by show ln c.l<=100000;omega)⟩
    exact dD [0,1,2,3,4,5,15,7,8,11] ⟨k+1,(M.push [(⟨⟨jK c.nl ⟨p2,0,none⟩,ln c.l,c.cap⟩,-1,-1,c.l,dc,dc⟩:CU)] rfl c2 k2),(oK.push [(⟨(k:Nat),L⟩:ZV)] rfl O N),f2,E,(by show(M.l++[_]).length=_;rw[aa,hC];rfl),(by show oK.l++[_]=_;rw[hK,oJ,U6 (by omega:(k:Int)=((0+k:Nat):Int)) L]),(λd hd=>dH (p:=Fn f2) (λd hd=>(cu d hd).mono b8) d0 hd),(λd hd=>dH (p:=λd:CU=>d.made= -1/\d.used= -1) st ⟨rfl,rfl⟩ hd),(by show(M.l++[_]).map _=_;rw[aV,le,bE E,aV];show _++[ln c.l]=_++[i[k].l.length];rw[c5])⟩ (h:=λh2=>⟨ab iX _,ab tW _,cJ (ab ju _) ff,ab ki _,cJ (ab bI _) ff,(by(iterate 10 refine⟨fr,?_⟩);refine⟨λρ=>oK.push_sl (n:=1) [(⟨(k:Nat),L⟩:ZV)] rfl O N 9 ρ,?_⟩;refine⟨λρ=>kM (dr (n:=ln i) E hF.ir) ρ,?_⟩;exact gm _),(by(iterate 4 refine⟨⟨rfl,rfl,rfl,fr⟩,?_⟩);refine⟨⟨rfl,rfl,rfl,λρ=>k8 (a:=[]) (qu M [(⟨⟨jK c.nl ⟨p2,0,none⟩,ln c.l,c.cap⟩,-1,-1,c.l,dc,dc⟩:CU)] rfl c2 k2 6 ρ)⟩,?_⟩;refine⟨⟨rfl,rfl,rfl,fr⟩,?_⟩;refine⟨M.push_blk ju 55 (n:=1) [(⟨⟨jK c.nl ⟨p2,0,none⟩,ln c.l,c.cap⟩,-1,-1,c.l,dc,dc⟩:CU)] rfl c2 k2 fr,?_⟩;(iterate 2 refine⟨⟨rfl,rfl,rfl,fr⟩,?_⟩);refine⟨oK.push_blk bI 3 (n:=1) [(⟨(k:Nat),L⟩:ZV)] rfl O N fr,?_⟩;exact trivial)⟩)
  case nxt2=>
   refine⟨?_,trivial⟩
   refine iT ?_
   conv=>whnf
   refine .inr ⟨0,false,r9,o9,i[k].l.length,i[k].s.c,i[k].hn▸b3, 58,bG bU i[k].l,1,(by show Value.slice i[k].s.a i[k].s.n _=_;rw[e7,i[k].hn];rfl),D7 g3 rfl rfl,⟨ab bU _,trivial⟩,false,0,i[k].l,i[k].s.c,i[k].hn▸b3,_,bG bU i[k].l,rfl,rfl,⟨ab bU _,mj.self bU _⟩,om,λc c5 d2=> ?_⟩
   conv=>whnf
   refine .inr ⟨8,13,0,⟨rfl,rfl,ab bU _,λh=>OL.nil_cs h⟩,aj rfl,λp2 f2 b8 c9=>⟨?_,trivial⟩⟩
   refine A6 ?_
   conv=>whnf
   refine .inl ⟨rfl,M.app ju 55 (m:=1) (by show(ln M.l+1)*3<=5000000000000;omega),λc2 k2=> ?_⟩
   conv=>whnf
   have d0:Fn f2 (⟨⟨jK c.nl ⟨p2,0,none⟩,ln c.l,c.cap⟩,-1,-1,c.l,dc,dc⟩:CU):=⟨rfl,(by show 1<=ln c.l;omega),Z2 c om,ZZ c om c9,λu hu=>by obtain⟨v,hv,e⟩:=d2 u hu;rw[<-e];exact oU (S:=xP 327680) (a2 v hv),(by show ln c.l<=100000;omega)⟩
   exact dD [0,1,2,3,4,5,15,7,8,11] ⟨k+1,(M.push [(⟨⟨jK c.nl ⟨p2,0,none⟩,ln c.l,c.cap⟩,-1,-1,c.l,dc,dc⟩:CU)] rfl c2 k2),(oK.push [(⟨(k:Nat),L⟩:ZV)] rfl O N),f2,E,(by show(M.l++[_]).length=_;rw[aa,hC];rfl),(by show oK.l++[_]=_;rw[hK,oJ,U6 (by omega:(k:Int)=((0+k:Nat):Int)) L]),(λd hd=>dH (p:=Fn f2) (λd hd=>(cu d hd).mono b8) d0 hd),(λd hd=>dH (p:=λd:CU=>d.made= -1/\d.used= -1) st ⟨rfl,rfl⟩ hd),(by show(M.l++[_]).map _=_;rw[aV,le,bE E,aV];show _++[ln c.l]=_++[i[k].l.length];rw[c5])⟩ (h:=λh2=>⟨ab iX _,ab tW _,cJ (ab ju _) ff,ab ki _,cJ (ab bI _) ff,(by(iterate 10 refine⟨fr,?_⟩);refine⟨λρ=>oK.push_sl (n:=1) [(⟨(k:Nat),L⟩:ZV)] rfl O N 9 ρ,?_⟩;refine⟨λρ=>kM (dr (n:=ln i) E hF.ir) ρ,?_⟩;exact gm _),(by(iterate 4 refine⟨⟨rfl,rfl,rfl,fr⟩,?_⟩);refine⟨⟨rfl,rfl,rfl,λρ=>k8 (a:=[]) (qu M [(⟨⟨jK c.nl ⟨p2,0,none⟩,ln c.l,c.cap⟩,-1,-1,c.l,dc,dc⟩:CU)] rfl c2 k2 6 ρ)⟩,?_⟩;refine⟨⟨rfl,rfl,rfl,fr⟩,?_⟩;refine⟨M.push_blk ju 55 (n:=1) [(⟨⟨jK c.nl ⟨p2,0,none⟩,ln c.l,c.cap⟩,-1,-1,c.l,dc,dc⟩:CU)] rfl c2 k2 fr,?_⟩;(iterate 2 refine⟨⟨rfl,rfl,rfl,fr⟩,?_⟩);refine⟨oK.push_blk bI 3 (n:=1) [(⟨(k:Nat),L⟩:ZV)] rfl O N fr,?_⟩;exact trivial)⟩)
 have h6:ln i<=k:=gi g1
 obtain rfl:k=ln i:=bo hk h6
 have b6:ln M.l<=36864:=by rw[hC];exact aC d5 Y
 have h4:Po fam M.l (OL.none:OL GU).l:=Sy cu st b6
 have h8:LvI M.l (OL.none:OL GU).l oK.l:=S4 (by rw[hC];exact hK) st (by rw[le,OB];exact Y) b6
 conv=>whnf
 refine zK [0,1,2,3,4,5,6,7,8,9] [1,2,3,8,9,10,12] [0,5,6,7,9] (G:=a6M) (λg=>[(1,.c (.int size hs)),(2,.c (.int (maxI H 0) (hb.maxI dc))),(3,.c (.ptr 3 0)),(8,.c (.ptr 2 0)),(9,.c (.ptr 4 0)),(10,g.oK.sl 9),(12,.c (.int (g.lev:Nat) (zk g.hl.2)))]) (λg=>[(0,⟨.t tF,true,bG iX i,0⟩),(1,⟨.x I,true,[],3⟩),(2,⟨30,false,[.val (.slice none 0 0),.val (.slice none 0 0)],0⟩),(3,⟨121,false,[g.oM.ch 5],0⟩),(4,⟨30,false,[g.oC.ch 6,g.oG.ch 7],0⟩),(5,g.oM.blk tW 181),(6,g.oC.blk ju 55),(7,g.oG.blk ki 63),(8,⟨.x g.fam,true,[],2⟩),(9,g.oK.blk bI 3)]) (λg=>23-g.lev) ⟨1,OL.none,M,OL.none,oK,fam,⟨ai _,dc⟩,(λr hr=>by cases hr),ai _,h4,h8⟩ trivial ?_
 rintro ⟨U,oM,R,oG,f,F,X,hM,g6,gf,lv⟩ vb2
 dsimp only
 refine zB ?_ ?_<;>intro h1
 refine zB ?_ ?_<;>intro i9
 conv=>whnf
 have h7:U<=22:=by have:=of_decide_eq_true h1;omega
 have j4:ln f.l<=36864:=by have:=yJ gf.cu lv.inn;have:=lv.w;omega
 conv=>whnf
 refine zK [0,1,2,3,4,5,6,7,8,9,1000+ 53] [1,2,3,8,9,10,12,13,14] [0,5,6,7,9,10] (G:={q:Nat×OL (LI TR)//q.1<=ln f.l/\ln q.2.l=q.1/\ ∀x∈q.2.l,Fx F x}) (λg=>[(1,.c (.int size hs)),(2,.c (.int (maxI H 0) (hb.maxI dc))),(3,.c (.ptr 3 0)),(8,.c (.ptr 2 0)),(9,.c (.ptr 4 0)),(10,f.sl 9),(12,.c (.int (U:Nat) (zk X.2))),(13,g.1.2.sl 10),(14,.c (.int (g.1.1:Nat) (aR f.ok g.2.1)))]) (λg=>[(0,⟨.t tF,true,bG iX i,0⟩),(1,⟨.x I,true,[],3⟩),(2,⟨30,false,[.val (.slice none 0 0),.val (.slice none 0 0)],0⟩),(3,⟨121,false,[oM.ch 5],0⟩),(4,⟨30,false,[R.ch 6,oG.ch 7],0⟩),(5,oM.blk tW 181),(6,R.blk ju 55),(7,oG.blk ki 63),(8,⟨.x F,true,[],2⟩),(9,f.blk bI 3),(10,g.1.2.blk iX 53)]) (λg=>ln f.l-g.1.1) ⟨(0,OL.none),ah _,rfl,(λx hx=>by cases hx)⟩ trivial ?_
 rintro ⟨⟨j,oS⟩,W,b2,b5⟩ vc2
 have W:j<=ln f.l:=W
 have b2:ln oS.l=j:=b2
 have b5: ∀x∈oS.l,Fx F x:=b5
 dsimp only
 refine zB ?_ ?_<;>intro g4
 have V:j<ln f.l:=dL g4
 have f6:IR (j:Int):=aR f.ok W
 obtain⟨q,hq,Q⟩:=LY lv.inn V
 have e9:IR (q:Int):=aR R.ok (bw Q)
 have e5:=gf.cu _ (ak Q)
 refine wM ?_
 left
 refine A6 ?_
 exact⟨rfl,oS.app iX 53 (m:=1) (by show(ln oS.l+1)*1<=5000000000000;omega),λO N=> dD [0,1,2,3,4,5,6,7,8,9,12] ⟨(j+1,oS.push [(⟨R.l[q].s,R.l[q].tl,e5.n⟩:LI TR)] rfl O N),V,(by show(oS.l++[_]).length=_;rw[aa,b2];rfl),(λx hx=>dH (p:=Fx F) b5 e5.tr hx)⟩⟩
 have e4:ln f.l<=j:=gi g4
 obtain rfl:j=ln f.l:=bo W e4
 conv=>whnf
 refine .inr ⟨8,10,0,⟨rfl,rfl,ab iX _,λh=>OL.nil_cs h⟩,aj rfl,λr8 f8 c6 d9=> ?_⟩
 conv=>whnf
 refine .inl ⟨8,.inl rfl,trivial,jK oS.nl ⟨r8,0,none⟩,ln oS.l,oS.cap,oS.l,_,_,_,f8,rfl,rfl,⟨rfl,OL.li_in d9 dc,om⟩,λx hx=>(b5 x hx).mono c6,λy Fg g5 a0 e3=> ?_⟩
 refine iT ?_
 conv=>whnf
 rw[b2] at a0 e3
 have f1:A7 (ln f.l) y.l:=a47 a0
 refine zK [0,1,2,3,4,5,6,7,8,9,11,12,1000+ 3] [1,2,3,8,9,10,12,15,16,17] [0,5,6,7,9,10,12] (G:=a6N U f.l y.l) (λg=>[(1,.c (.int size hs)),(2,.c (.int (maxI H 0) (hb.maxI dc))),(3,.c (.ptr 3 0)),(8,.c (.ptr 2 0)),(9,.c (.ptr 4 0)),(10,f.sl 9),(12,.c (.int (U:Nat) (zk X.2))),(15,y.sl 10),(16,g.oF.sl 12),(17,.c (.int (g.k:Nat) (aR y.ok g.hk)))]) (λg=>[(0,⟨.t tF,true,bG iX i,0⟩),(1,⟨.x I,true,[],3⟩),(2,⟨30,false,[.val (.slice none 0 0),.val (.slice none 0 0)],0⟩),(3,⟨121,false,[g.oM.ch 5],0⟩),(4,⟨30,false,[g.oC.ch 6,g.oG.ch 7],0⟩),(5,g.oM.blk tW 181),(6,g.oC.blk ju 55),(7,g.oG.blk ki 63),(8,⟨.x g.fam,true,[],2⟩),(9,f.blk bI 3),(10,y.blk jp 22),(11,⟨.x (Fg.map PI.ent),true,[],2⟩),(12,g.oF.blk bI 3)]) (λg=>ln y.l-g.k) ⟨0,oM,R,oG,OL.none,f8,ah _,(λr hr=>(hM r hr).mono c6),g6,gf.mono c6,Sz lv f1⟩ trivial ?_
 rintro ⟨k,a8,A,T,D,a5,c3,f5,i6,J,B⟩ vd2
 dsimp only
 refine zB ?_ ?_<;>intro f9
 have a6:k<ln y.l:=dL f9
 have L:IR (k:Int):=aR y.ok c3
 rw[bh a6] at B
 have d8:A7 (ln f.l) (y.l[k]::y.l.drop (k+1)):=bh a6▸G5 k f1
 have a7:y.l[k]∈y.l:=ak a6
 have b7:y.l[k].n<=ln f.l:=Ml a0 a7
 have i0:IR ((y.l[k].n:Nat):Int):=aR f.ok b7
 have f3:=LR B d8
 conv=>whnf
 refine zK [0,1,2,3,4,5,6,7,8,9,10,11,12,1000+ 3] [1,2,3,8,9,10,12,15,16,17,18,19] [0,5,6,7,9,10,12,13] (G:={q:Nat×OL ZV//q.1<=y.l[k].n/\q.2.l=(y.l[k].l.take q.1).map (nv f.l)}) (λg=>[(1,.c (.int size hs)),(2,.c (.int (maxI H 0) (hb.maxI dc))),(3,.c (.ptr 3 0)),(8,.c (.ptr 2 0)),(9,.c (.ptr 4 0)),(10,f.sl 9),(12,.c (.int (U:Nat) (zk X.2))),(15,y.sl 10),(16,D.sl 12),(17,.c (.int (k:Nat) (aR y.ok c3))),(18,g.1.2.sl 13),(19,.c (.int (g.1.1:Nat) (aR f.ok (aC g.2.1 b7))))]) (λg=>[(0,⟨.t tF,true,bG iX i,0⟩),(1,⟨.x I,true,[],3⟩),(2,⟨30,false,[.val (.slice none 0 0),.val (.slice none 0 0)],0⟩),(3,⟨121,false,[a8.ch 5],0⟩),(4,⟨30,false,[A.ch 6,T.ch 7],0⟩),(5,a8.blk tW 181),(6,A.blk ju 55),(7,T.blk ki 63),(8,⟨.x a5,true,[],2⟩),(9,f.blk bI 3),(10,y.blk jp 22),(11,⟨.x (Fg.map PI.ent),true,[],2⟩),(12,D.blk bI 3),(13,g.1.2.blk bI 3)]) (λg=>y.l[k].n-g.1.1) ⟨(0,OL.none),ah _,rfl⟩ trivial ?_
 rintro ⟨⟨j,oL⟩,W,hL⟩ ve2
 have W:j<=y.l[k].n:=W
 have hL:oL.l=(y.l[k].l.take j).map (nv f.l):=hL
 dsimp only
 refine eS ?_
 conv=>arg 2;tactic'=>exact eC rfl rfl rfl rfl rfl rfl i0
 refine zB ?_ ?_<;>intro f4
 have c0:j<y.l[k].n:=dL f4
 have d1:j<y.l[k].l.length:=by rw[<-y.l[k].hn];exact c0
 have f6:IR (j:Int):=aR f.ok (aC W b7)
 obtain⟨q,hq,e6⟩:=JR a0 a7 (ak d1)
 have e9:IR (q:Int):=aR f.ok (bw e6)
 refine eS ?_
 left
 conv=>whnf
 refine .inr ⟨y.l[k].r,0,y.l[k].n,y.l[k].cap,j,rfl,rfl,c0,?_⟩
 refine iT ?_
 conv=>whnf
 refine .inr ⟨y.l[k].r,0,j*1,11,bG bI y.l[k].l,.c (.int y.l[k].l[j].x y.l[k].l[j].hx),rfl,⟨_,_,_,rfl,rfl,Z4 g5 a7⟩,⟨Co y.l[k].l d1,ff⟩,?_⟩
 refine eS ?_
 left
 refine A6 ?_
 exact⟨rfl,oL.app bI 3 (m:=1) (by show(ln oL.l+1)*1<=5000000000000;rw[hL,bO,aO];omega),λO N=> dD [0,1,2,3,4,5,6,7,8,9,10,11,12,15] ⟨(j+1,oL.push [f.l[q]] rfl O N),c0,(by show oL.l++[_]=_;rw[hL,bE d1,aV];show _=_++[nv f.l _];rw[xS hq e6])⟩⟩
 have g0:y.l[k].n<=j:=gi f4
 obtain rfl:j=y.l[k].n:=bo W g0
 rw[bX (CS y.l[k].hn.symm)] at hL
 have d6:xA (ln A.l) oL.l:=by rw[hL];exact f3.inn
 have g9: ∀z∈oL.l,BC A.l (ln T.l) z.x:=λz hz=>by obtain⟨q,hq,Q⟩:=nU (d6 z hz);exact⟨q,hq,Q,J.md _ (ak Q)⟩
 have k0:(gF A.l oL.l).length<=36864:=by rw[hL];have:=f3.len;have:=B.w;omega
 have j3:=J.cnt
 have j8:=J.ll
 have i3:ln D.l<=36864:=by have:=yJ J.cu B.fin;have:=B.w;omega
 conv=>whnf
 refine .mk (SA f5 om J.cu d6 g9 om om om (λc4 a4 a2 c8 f7=> ?_) (λc4 i2 i1 a4 ps x a2 c8 f7 hN=> ?_))
 refine zl3 ?_
 exact⟨D.app bI 3 (m:=0) (by show(ln D.l+0)*1<=5000000000000;omega),λO N=> dD [0,1,2,3,4,14,15,16,8,9,10,11,17] ⟨k+1,c4,A,T,D.push [] (n:=0) rfl O N,a4,a6,c8,om,J.mono a2,(by show Vj _ _ _ (D.l++[]) _;rw[bk];exact W9 B)⟩⟩
 obtain⟨xo,⟨h9,r5,o5,i5,i4,h5⟩,e1,e2⟩:=hN.px.o
 rw[hL] at hN
 obtain⟨f0,a9⟩:=W8 (J.mono a2) B d8 hN
 have g8:(D.l++x.ol).length<=36864:=by have:=yJ f0.cu a9.fin;have:=a9.w;omega
 rw[aa,<-e2] at g8
 conv=>whnf
 refine .inr ⟨118,h9,r5,o5,ln xo.l,xo.s.c,i5, 3,bG bI xo.l,8,(by show Value.slice x.o.a x.o.n x.o.c=_;rw[<-e1,i4,xo.hn]),h5.imp id (λh=>⟨_,_,_,rfl,rfl,h⟩),?_⟩
 refine A6 ?_
 conv=>whnf
 rw[show dk (bG bI xo.l) 0 (ln xo.l*1)=some (bG bI xo.l) from gQ bI xo.l]
 exact⟨fZ bI _,D.app bI 3 (m:=ln xo.l) (by show(ln D.l+ln xo.l)*1<=5000000000000;omega),λO N=> dD [0,1,2,3,4,14,15,16,8,9,10,11,18] ⟨k+1,c4,i2,i1,D.push xo.l (n:=ln xo.l) rfl O N,a4,a6,c8,om,f0,(by rw[<-e2] at a9;exact a9)⟩⟩
 have g2:ln y.l<=k:=gi f9
 obtain rfl:k=ln y.l:=bo c3 g2
 rw[a8S] at B
 have d7:=Xy B
 have i3:ln D.l<=36864:=by have:=yJ J.cu B.fin;have:=B.w;omega
 conv=>whnf
 refine zK [0,1,2,3,4,5,6,7,8,9,12,1000+ 3] [1,2,3,8,9,10,12,16,20,21] [0,5,6,7,9,10,11] (G:={q:Nat×OL ZV//q.1<=ln f.l/\q.2.l=(f.l.take q.1).filter (Pf A.l)}) (λg=>[(1,.c (.int size hs)),(2,.c (.int (maxI H 0) (hb.maxI dc))),(3,.c (.ptr 3 0)),(8,.c (.ptr 2 0)),(9,.c (.ptr 4 0)),(10,f.sl 9),(12,.c (.int (U:Nat) (zk X.2))),(16,D.sl 10),(20,g.1.2.sl 11),(21,.c (.int (g.1.1:Nat) (aR f.ok g.2.1)))]) (λg=>[(0,⟨.t tF,true,bG iX i,0⟩),(1,⟨.x I,true,[],3⟩),(2,⟨30,false,[.val (.slice none 0 0),.val (.slice none 0 0)],0⟩),(3,⟨121,false,[a8.ch 5],0⟩),(4,⟨30,false,[A.ch 6,T.ch 7],0⟩),(5,a8.blk tW 181),(6,A.blk ju 55),(7,T.blk ki 63),(8,⟨.x a5,true,[],2⟩),(9,f.blk bI 3),(10,D.blk bI 3),(11,g.1.2.blk bI 3)]) (λg=>ln f.l-g.1.1) ⟨(0,OL.none),ah _,rfl⟩ trivial ?_
 rintro ⟨⟨j,oN⟩,W,hN⟩ vg2
 have W:j<=ln f.l:=W
 have hN:oN.l=(f.l.take j).filter (Pf A.l):=hN
 have j9:ln oN.l<=36864:=by rw[hN];exact aC (Id _ _) (by rw[aO];omega)
 dsimp only
 refine zB ?_ ?_<;>intro d4
 have V:j<ln f.l:=dL d4
 have f6:IR (j:Int):=aR f.ok W
 obtain⟨q,hq,Q⟩:=LY B.inn V
 have e9:IR (q:Int):=aR A.ok (bw Q)
 have g7:Pf A.l f.l[j]=decide (A.l[q].used<0):=by unfold Pf iJ;rw[nT hq,ae Q]
 have b9:=Ol V (Pf A.l)
 rw[g7] at b9
 refine wM ?_
 refine zB ?_ ?_<;>intro d3
 have c7:(A.l[q].used<0):=of_decide_eq_true d3
 refine eS ?_
 left
 refine A6 ?_
 exact⟨rfl,oN.app bI 3 (m:=1) (by show(ln oN.l+1)*1<=5000000000000;omega),λO N=> dD [0,1,2,3,4,5,6,7,8,9,10,13] ⟨(j+1,oN.push [f.l[j]] rfl O N),V,(by show oN.l++[_]=_;rw[b9,decide_eq_true c7,<-hN];rfl)⟩⟩
 have c7: ¬(A.l[q].used<0):=of_decide_eq_false d3
 exact dD [0,1,2,3,4,5,6,7,8,9,10,11] ⟨(j+1,oN),V,(by show oN.l=_;rw[b9,decide_eq_false c7,hN];exact(bk _).symm)⟩
 have e0:ln f.l<=j:=gi d4
 obtain rfl:j=ln f.l:=bo W e0
 rw[bP] at hN
 refine zl3 ?_
 conv=>whnf
 rw[show dk (D.blk bI 3).cs 0 (ln D.l*1)=some (bG bI D.l) from gQ bI D.l]
 exact⟨fZ bI _,oN.app bI 3 (m:=ln D.l) (by show(ln oN.l+ln D.l)*1<=5000000000000;omega),λO N=> dD [0,1,2,3,4,5,6,7,8,12] ⟨U+1,a8,A,T,oN.push D.l (n:=ln D.l) rfl O N,a5,om,f5,om,J,(by show LvI _ _ (oN.l++D.l);rw[hN];exact d7)⟩⟩
 exact zO [0,1,6,7,8] [0,2,3] (hc R oG F gf)
 exact zO [0,1,6,7,8] [0,2,3] (hc R oG F gf)
end
def grX:List (FuncId×cP):=[(47,Li),(46,Zm)]
def a11:vB prog grX:= .cons RG<| .cons a1j .nil
def QW:cP:=λd e K=> ∃(s:SW) (A fam0 b hb m hm:_),d=[.c (.val (.slice s.a s.n s.c)),.c (.int b hb),.c (.int m hm)]/\e=[⟨.x fam0,true,[],3⟩]/\(tP fam0 s A/\IR (s.n:Nat))/\(0<=b/\b<=100)/\
 ∀(f:OL CU) (oG:OL GU) fam,Po fam f.l oG.l->K (.agg [f.ch 1,oG.ch 2]) [f.blk ju 55,oG.blk ki 63,⟨.x fam,true,[],2⟩]
def Wg:pd prog 28 QW:=iA uI bj (qJ a11 (ck uI bj bg 0)) ⟨func28,kr,kr⟩ λr D K p=>by obtain⟨s,A,f,b,y,m,q,rfl,rfl,⟨h,i⟩,⟨k,j⟩,p⟩:=p;exact⟨λG F _=>rfl,0,.inr rfl,trivial,s,A,f,b,y,m,q,rfl,rfl,⟨h,i⟩,λo fam d g=>⟨3,.inl rfl,⟨ab iX _,trivial⟩,o.nl,o.l,o.cap,o.ok,_,fam,m,q,b,y,rfl,rfl,⟨λx u=>⟨(d x u).1,(d x u).2.2⟩,g,k,j⟩,λz B e E=> zO [0,4,5,6] [1,2] (p z B e E)⟩⟩
section
variable {hf:Nat->Option aY} {cs:List C} {ros hp0:List aY} {bs:List Nat} {T:TypeId->Option TI} {x i:Operand} {ev:Operand->SV} {ti:TI} {esz r off:Nat}
def DR {t e d} (hT:T t=some ti) (hs:ti.sh= .slice e esz d) {len cap j} (hx:ev x= .c (.val (.slice (some ⟨r,off,none⟩) len cap))) (hi:oH (ev i)=some j) (hlt:j<len):U8 T hp0 (.indexAddr t x i) ev (.c (.val (.pointer (some ⟨r,off+j*esz,none⟩)))):=by unfold U8;obtain⟨sz,g,z,h,f⟩:=ti;cases hs;simp only[hT];exact⟨r,off,len,cap,j,hx,hi,hlt,rfl⟩
def DQ {t n d} (hT:T t=some ti) (hs:ti.sh= .array n esz d) {j} (hx:ev x= .c (.val (.pointer (some ⟨r,off,none⟩)))) (hi:oH (ev i)=some j) (hlt:j<n):U8 T hp0 (.indexAddr t x i) ev (.c (.val (.pointer (some ⟨r,off+j*esz,none⟩)))):=by unfold U8;obtain⟨sz,d,z,f,e⟩:=ti;cases hs;simp only[hT];exact⟨r,off,j,hx,hi,hlt,rfl⟩
def DS {t v} (hT:T t=some ti) {o1 fb b o l} (hx:ev x= .c (.val (.pointer (some ⟨r,o1+off,none⟩)))) (hb:an hp0 fb=some b) (hf:b.famOf=some (o,l)) (d:pg l (r,o1) cs) (hv:jP ti.agg cs off ti.size=some v) (hp: ∀ρ ρ':fF,v.den ρ=v.den ρ'):U8 T hp0 (.load t x) ev v:=by unfold U8;simp only[hT];exact⟨r,o1,off,fb,b,o,l,cs,hx,⟨hb,hf,d⟩,hv,hp⟩
end
section
variable {x lo hi:Int}
def Tp (cap:Nat) (g:NA->NA->SV):Dn
 |[.agg [.wid k z h],.agg [.wid j y h1]]=>if k<=cap/\j<=cap then some (none,g ⟨k,z,h⟩ ⟨j,y,h1⟩) else none
 |_=>none
def a0j {f cap g} (h:dW prog f (zW cap g)):dW prog f (Tp cap g):=⟨h.1,λe p v d=>by unfold Tp at d;split at d;rename_i k z i j y m;split at d;rename_i r;cases d;have:=h.2 _ _ _ (show zW cap g [.agg [.wid k z i],.agg [.wid j y m]]=some (some (k<=cap/\j<=cap),g ⟨k,z,i⟩ ⟨j,y,m⟩) from rfl);exact⟨this.1,λ_=>this.2 (λq o=>by cases o;exact r)⟩;cases d;cases d⟩
def a7a (X Y:NA):SV:= .c (.int (X.z-Y.z).sign (fX _))
def Zx:Dn:=Tp 80000000 a7a
def jD {a b} (e:a=b) ρ:(SV.c (.val (.bool a))).den ρ=(SV.c (.val (.bool b))).den ρ:=by subst e;rfl
def si {k j z y} h h' (e:z=y) ρ:(SV.agg [.wid k z h]).den ρ=(SV.agg [.wid j y h']).den ρ:=by subst e;rfl
def Ze:List (FuncId×Dn):=(55,Zx)::(61,Zx)::base
def mW:dU Ze:= .cons (a0j a2Z)<| .cons (a0j MQ) kB
def Bc (x lo hi:Int):Int:=if x<lo then lo-x else if hi<x then x-hi else 0
def Qg (p q g x:Int):Int:=Bc x (minI p q-maxI g 0) (maxI p q+maxI g 0)
def Vd (e k j hx hy d g i f h:Int):Int:=Qg e hx g i*Qg e hx g i+Qg k hy g f*Qg k hy g f+Qg j d g h*Qg j d g h
def o7 (f p e d:Int):Bool:=(decide (d<=0)||decide (f<=0))||(!decide (p<0)&&decide (d*f*(d*f)<=p*p*e))
def JB (h:x<lo):Bc x lo hi=lo-x:=if_pos h
def Jz (h: ¬x<lo) (h2:hi<x):Bc x lo hi=x-hi:=by unfold Bc;rw[if_neg h,if_pos h2]
def JA (h: ¬x<lo) (h2: ¬hi<x):Bc x lo hi=0:=by unfold Bc;rw[if_neg h,if_neg h2]
def a7P {a b:Int}:(a-b).sign<0↔a<b:=by rw[Int.sign_neg_iff];omega
def TZ {a b:Int}:0<(a-b).sign↔b<a:=by rw[Int.sign_pos_iff];omega
def T0 {a b:Int}:(a-b).sign<=0↔a<=b:=by have:= @TZ a b;omega
def wt {p q g} (hp:IR p) (d:IR q) (e:IR g) (hx:IR x):Sm 200 (Qg p q g x):=by have i:IR (minI p q):=hp.minI d;have f:IR (maxI p q):=hp.maxI d;have h:IR (maxI g 0):=e.maxI dc;unfold Qg Bc Sm;unfold IR at*;split;omega;split<;>omega
def Kl {h s r hx hy o g q m p} (a:IR h) (b:IR s) (c:IR r) (d:IR hx) (e:IR hy) (f:IR o) (i:IR g) (j:IR q) (k:IR m) (l:IR p):Sm 402 (Vd h s r hx hy o g q m p):=(((wt a d i j).mul (wt a d i j)).add ((wt b e i k).mul (wt b e i k))).add (((wt c f i l).mul (wt c f i l)).mono dc)
def a1t:Dn
 |[.agg [.int px hpx,.int _ _,.int _ _]]=>
  some (none,.c (.int px hpx))
 |_=>none
def a5I:dW prog 93 a1t:=dC (un:=20) (n:=0) ⟨func93,kr,kr⟩ mW bg λh p v d=>by
 unfold a1t at d;split at d;rename_i j f i g k e;cases d;refine⟨[.agg [.int j f,.int i g,.int k e]],fr,ff,ff,λ_=> ?_⟩;conv=>whnf
 exact λ_=>rfl;cases d
def a1u:Dn
 |[.agg [.int _ _,.int py hpy,.int _ _]]=>
  some (none,.c (.int py hpy))
 |_=>none
def a5J:dW prog 94 a1u:=dC (un:=20) (n:=0) ⟨func94,kr,kr⟩ mW bg λh p v d=>by
 unfold a1u at d;split at d;rename_i j f i g k e;cases d;refine⟨[.agg [.int j f,.int i g,.int k e]],fr,ff,ff,λ_=> ?_⟩;conv=>whnf
 exact λ_=>rfl;cases d
def a1v:Dn
 |[.agg [.int _ _,.int _ _,.int pz hpz]]=>
  some (none,.c (.int pz hpz))
 |_=>none
def a5K:dW prog 95 a1v:=dC (un:=20) (n:=0) ⟨func95,kr,kr⟩ mW bg λh p v d=>by
 unfold a1v at d;split at d;rename_i j f i g k e;cases d;refine⟨[.agg [.int j f,.int i g,.int k e]],fr,ff,ff,λ_=> ?_⟩;conv=>whnf
 exact λ_=>rfl;cases d
def a1C:Dn
 |[.agg [.wid jz z hz]]=>
  if jz<=40000000 then some (none,.agg [.wid (jz+jz) (z*z) (Sm.mul hz hz)]) else none
 |_=>none
def a5R:dW prog 57 a1C:=dC (un:=20) (n:=0) ⟨func57,kr,kr⟩ mW bg λf p v d=>by
 unfold a1C at d;split at d;rename_i h z g;split at d;rename_i e;cases d;refine⟨[.agg [.wid 40000000 z (g.mono e)]],fr,ff,ff,λ_=> ?_⟩;conv=>whnf
 exact λ_=>rfl;cases d;cases d
def a1B:Dn
 |[.agg [.wid jz z hz]]=>
  if jz<=40000000 then some (none,.agg [.wid (jz+jz) (z*z) (Sm.mul hz hz)]) else none
 |_=>none
def a5Q:dW prog 60 a1B:=dC (un:=20) (n:=0) ⟨func60,kr,kr⟩ mW bg λf p v d=>by
 unfold a1B at d;split at d;rename_i h z g;split at d;rename_i e;cases d;refine⟨[.agg [.wid 40000000 z (g.mono e)]],fr,ff,ff,λ_=> ?_⟩;conv=>whnf
 exact λ_=>rfl;cases d;cases d
def a2X {c a b j k} (i:IR c) (f:Sm j a) (hb:Sm k b) (d:j<=200/\k<=200):Sm 201 (Bc c a b):=by have e:Sm 200 c:=(cG i).mono dc;have g:=f.mono d.1;have h:=hb.mono d.2;unfold Bc;split;exact g.sub e;split;exact e.sub h;exact(show Sm 201 0 by unfold Sm;decide)
def a1z:Dn
 |[.c (.int c hc),.agg [.wid ja a ha],.agg [.wid jb b hb]]=>
  if hcon:ja<=200/\jb<=200 then some (none,.agg [.wid 201 (Bc c a b) (a2X hc ha hb hcon)]) else none
 |_=>none
def a5O:dW prog 116 a1z:=dC (un:=20) (n:=0) ⟨func116,kr,kr⟩ mW bg λj p v g=>by
 unfold a1z at g;split at g;rename_i c m q a k r b o;split at g;rename_i d;cases g;refine⟨[.c (.int c m),.agg [.wid 200 a (k.mono d.1)],.agg [.wid 200 b (o.mono d.2)]],fr,ff,ff,λ_=> ?_⟩;refine zB ?_ ?_<;>intro e;have e:=a7P.1 (of_decide_eq_true e);conv=>whnf
 exact λi=>si _ _ (JB e).symm i;have e:=λh=>of_decide_eq_false e (a7P.2 h);refine zB ?_ ?_<;>intro f;have f:=TZ.1 (of_decide_eq_true f);conv=>whnf
 exact λi=>si _ _ (Jz e f).symm i;have f:=λh=>of_decide_eq_false f (TZ.2 h);conv=>whnf
 exact λi=>si _ _ (JA e f).symm i;cases g;cases g
def QC:List (FuncId×Dn):=(93,a1t)::(94,a1u)::(95,a1v)::(57,a1C)::(60,a1B)::(116,a1z)::Ze
def vK:dU QC:= .cons a5I<| .cons a5J<| .cons a5K<| .cons a5R<| .cons a5Q<| .cons a5O<|mW
noncomputable def fxW:FuncId->Option Func:=lk [(70, f70)]
def a1U: ∀f fn,fxW f=some fn->iM prog f fn:=nV λx d=>by simp only[br,cd,or_false] at d;subst d;exact⟨func70,kr,kr⟩
def Ja:Dn
 |[.agg [.int lx hlx,.int ly hly,.int lz hlz,.int hx hhx,.int hy hhy,.int hz hhz,.int g hg],.agg [.int ex hex,.int ey hey,.int ez hez]]=>
  some (none,.agg [.wid 402 (Vd lx ly lz hx hy hz g ex ey ez) (Kl hlx hly hlz hhx hhy hhz hg hex hey hez)])
 |_=>none
def Yp:dW prog 45 Ja:=dC (un:=20) (n:=3) ⟨func45,kr,kr⟩ vK a1U λu p v d=>by
 unfold Ja at d;split at d;rename_i y m F q E o H i B s I e g G D k z j A f;cases d;refine⟨[.agg [.int y m,.int F q,.int E o,.int H i,.int B s,.int I e,.int g G],.agg [.int D k,.int z j,.int A f]],fr,ff,ff,λ_=> ?_⟩
 repeat' first
  |(refine zB ?_ ?_<;>intro h<;>first|(have h:=a7P.1 (of_decide_eq_true h))|(have h:=TZ.1 (of_decide_eq_true h))|(have h:=mt a7P.2 (of_decide_eq_false h))|(have h:=mt TZ.2 (of_decide_eq_false h)))
  |exact λr=>si _ _ (by unfold Vd Qg;simp only[JB,Jz,JA,not_false_eq_true, *];omega) r
  |exact λr=>si _ _ (by unfold Vd Qg;simp only[JB,Jz,JA,not_false_eq_true, *]) r
 cases d
def Dy:Dn
 |[.agg [.int ex hex,.int ey hey,.int ez hez,.int _ _,.int _ _],.agg [.int lx hlx,.int ly hly,.int lz hlz],.agg [.int hx hhx,.int hy hhy,.int hz hhz],.c (.int g hg)]=>
  some (none,.agg [.wid 402 (Vd lx ly lz hx hy hz g ex ey ez) (Kl hlx hly hlz hhx hhy hhz hg hex hey hez)])
 |_=>none
def Uk:dW prog 84 Dy:=dC (un:=20) (n:=0) ⟨func84,kr,kr⟩ vK bg λu p v d=>by
 unfold Dy at d;split at d;rename_i D k y j A h f J q L z m F s E o H i B r I e g G;cases d;refine⟨[.agg [.int D k,.int y j,.int A h,.int f J,.int q L],.agg [.int z m,.int F s,.int E o],.agg [.int H i,.int B r,.int I e],.c (.int g G)],fr,ff,ff,λ_=> ?_⟩;conv=>whnf
 exact λM=>si _ _ (by unfold Vd Qg;omega) M;cases d
def QD:List (FuncId×Dn):=(45,Ja)::(84,Dy)::QC
def vL:dU QD:= .cons Yp<| .cons Uk<|vK
def R1:Dn
 |[.agg [.int _ _,.int _ _,.int _ _,.int f _,.int p _],.agg [.wid jd d _],.c (.int err _)]=>
  if jd<=500 then some (none,.c (.val (.bool (o7 f p d err)))) else none
 |_=>none
def a29:dW prog 44 R1:=dC (un:=20) (n:=0) ⟨func44,kr,kr⟩ vL bg λu p v e=>by
 unfold R1 at e;split at e;rename_i A s y r z q f D p B E d e i o;split at e;rename_i m;cases e;refine⟨[.agg [.int A s,.int y r,.int z q,.int f D,.int p B],.agg [.wid 500 d (e.mono m)],.c (.int i o)],fr,ff,ff,λ_=> ?_⟩;refine zB ?_ ?_<;>intro g;have g:decide (i<=0)=true:=g;conv=>whnf
 exact λj=>jD (by unfold o7;rw[g];rfl) j;have g:decide (i<=0)=false:=g;refine zB ?_ ?_<;>intro h;have h:decide (f<=0)=true:=h;conv=>whnf
 exact λj=>jD (by unfold o7;rw[g,h];rfl) j;have h:decide (f<=0)=false:=h;refine zB ?_ ?_<;>intro k;have k:decide (p<0)=true:=k;conv=>whnf
 exact λj=>jD (by unfold o7;rw[g,h,k];rfl) j;have k:decide (p<0)=false:=k;conv=>whnf
 exact λj=>jD (by unfold o7;rw[g,h,k];exact decide_eq_decide.2 T0) j;cases e;cases e
def R0:Dn
 |[.agg [.int _ _,.int _ _,.int _ _,.int f _,.int p _],.agg [.wid jd d _],.c (.int err _)]=>
  if jd<=500 then some (none,.c (.val (.bool (o7 f p d err)))) else none
 |_=>none
def a28:dW prog 52 R0:=dC (un:=20) (n:=0) ⟨func52,kr,kr⟩ vL bg λu p v e=>by
 unfold R0 at e;split at e;rename_i A s y r z q f D p B E d e i o;split at e;rename_i m;cases e;refine⟨[.agg [.int A s,.int y r,.int z q,.int f D,.int p B],.agg [.wid 500 d (e.mono m)],.c (.int i o)],fr,ff,ff,λ_=> ?_⟩;refine zB ?_ ?_<;>intro g;have g:decide (i<=0)=true:=g;conv=>whnf
 exact λj=>jD (by unfold o7;rw[g];rfl) j;have g:decide (i<=0)=false:=g;refine zB ?_ ?_<;>intro h;have h:decide (f<=0)=true:=h;conv=>whnf
 exact λj=>jD (by unfold o7;rw[g,h];rfl) j;have h:decide (f<=0)=false:=h;refine zB ?_ ?_<;>intro k;have k:decide (p<0)=true:=k;conv=>whnf
 exact λj=>jD (by unfold o7;rw[g,h,k];rfl) j;have k:decide (p<0)=false:=k;conv=>whnf
 exact λj=>jD (by unfold o7;rw[g,h,k];exact decide_eq_decide.2 T0) j;cases e;cases e
def QE:List (FuncId×Dn):=(44,R1)::(52,R0)::QD
def rF:dU QE:= .cons a29<| .cons a28<|vL
def RQ:Dn
 |[.agg [.int ex _,.int ey _,.int ez _,.int f _,.int p _],.agg [.int lx _,.int ly _,.int lz _],.agg [.int hx _,.int hy _,.int hz _],.c (.int err _)]=>
  some (none,.c (.val (.bool (o7 f p (Vd lx ly lz hx hy hz 0 ex ey ez) err))))
 |_=>none
def a23:dW prog 27 RQ:=dC (un:=20) (n:=0) ⟨func27,kr,kr⟩ rF bg λu p v e=>by
 unfold RQ at e;split at e;rename_i D k y j A h f J p I z m F r E o G i B q H g s d;cases e;refine⟨[.agg [.int D k,.int y j,.int A h,.int f J,.int p I],.agg [.int z m,.int F r,.int E o],.agg [.int G i,.int B q,.int H g],.c (.int s d)],fr,ff,ff,λ_=> ?_⟩;conv=>whnf
 exact λ_=>rfl;cases e
def DI:Dn
 |[.agg [.int q0 hq0,.int q1 hq1,.int q2 hq2,.int q3 hq3,.int q4 hq4]]=>
  some (none,.agg [.int (q0.tmod 524288) (hq0.tmod _),.int (q1.tmod 524288) (hq1.tmod _),.int (q2.tmod 524288) (hq2.tmod _),.int (q3.tmod 5000) (hq3.tmod _),.int (q4.tmod 50) (hq4.tmod _)])
 |_=>none
def Uz:dW prog 12 DI:=dC (un:=20) (n:=0) ⟨func12,kr,kr⟩ rF bg λj p v d=>by
 unfold DI at d;split at d;rename_i q h m e r f o g k i;cases d;refine⟨[.agg [.int q h,.int m e,.int r f,.int o g,.int k i]],fr,ff,ff,λ_=> ?_⟩;conv=>whnf
 exact λ_=>rfl;cases d
def I0:Dn
 |[]=>
  some (none,.tup [.agg [.int 50 dc,.int 0 dc,.int 0 dc],.agg [.int 60 dc,.int 10 dc,.int 10 dc]])
 |_=>none
def Yo:dW prog 26 I0:=dC (un:=20) (n:=0) ⟨func26,kr,kr⟩ rF bg λe p v d=>by
 unfold I0 at d;split at d;cases d;refine⟨[],fr,ff,ff,λ_=> ?_⟩;conv=>whnf
 exact λ_=>rfl;cases d
def QF:List (FuncId×Dn):=(27,RQ)::(12,DI)::(26,I0)::QE
def BQ:dU QF:= .cons a23<| .cons Uz<| .cons Yo<|rF
end
def Au k:Sm k 0:=AW dc
structure VW where
 e:PT
 f:Int
 p:Int
 hf:IR f
 hp:IR p
def t7 (v:VW):List C:=[.int v.e.x v.e.hx,.int v.e.y v.e.hy,.int v.e.z v.e.hz,.int v.f v.hf,.int v.p v.hp]
structure SN where
 made:Int
 total:Int
 d2:Int
 fits:Bool
 hm:IR made
 ht:IR total
 hd:Sm 402 d2
def Fk (s:SN):List C:=[.int s.made s.hm,.int s.total s.ht,.wid 402 s.d2 s.hd,.val (.bool s.fits)]
def pb:RW SN:=⟨Fk,5,fr,λ_ _ _=>rfl,fr⟩
def O3:SN:=⟨0,0,0,false,dc,dc,Au _⟩
structure BX where
 lo:PT
 hi:PT
def XE (a b:PT):PT:=⟨minI a.x b.x,minI a.y b.y,minI a.z b.z,a.hx.minI b.hx,a.hy.minI b.hy,a.hz.minI b.hz⟩
def XC (a b:PT):PT:=⟨maxI a.x b.x,maxI a.y b.y,maxI a.z b.z,a.hx.maxI b.hx,a.hy.maxI b.hy,a.hz.maxI b.hz⟩
def mz (b:BX) (p:PT):BX:=⟨XE b.lo p,XC b.hi p⟩
def Nw (b:BX) (t:TR):BX:=mz (mz (mz b t.a) t.b) t.c
def BX.le (b:BX):Prop:=b.lo.x<=b.hi.x/\b.lo.y<=b.hi.y/\b.lo.z<=b.hi.z
def qk (b:BX) (l:List TR):BX:=l.foldl Nw b
def rB {b} (h:b.le) p:(mz b p).le:=by unfold BX.le mz XE XC minI maxI at*;refine⟨?_,?_,?_⟩<;>simp only<;>split<;>split<;>omega
def rC {b} (h:b.le) {p} (hp:p=b.lo):mz b p=b:=by subst hp;obtain⟨⟨x,y,z,j,m,k⟩,⟨i,o,g,e,d,f⟩⟩:=b;unfold BX.le at h;simp only at h;unfold mz XE XC minI maxI;simp only[BX.mk.injEq,PT.mk.injEq];refine⟨⟨?_,?_,?_⟩,?_,?_,?_⟩<;>split<;>omega
def rA {b} (h:b.le) {p} (hp:p=b.hi):mz b p=b:=by subst hp;obtain⟨⟨x,y,z,j,m,k⟩,⟨i,o,g,e,d,f⟩⟩:=b;unfold BX.le at h;simp only at h;unfold mz XE XC minI maxI;simp only[BX.mk.injEq,PT.mk.injEq];refine⟨⟨?_,?_,?_⟩,?_,?_,?_⟩<;>split<;>omega
def KT {b} (h:b.le) t:(Nw b t).le:=rB (rB (rB h _) _) _
def K7 {b} (h:b.le): ∀l:List TR,(qk b l).le:=λl=>by
 induction l generalizing b with
 |nil=>exact h
 |cons t l ih=>exact ih (KT h t)
def BT b {l k} (hk:k<ln l):qk b (l.take (k+1))=Nw (qk b (l.take k)) l[k]:=by unfold qk;rw[eG,ae hk,eL,CQ];rfl
def pV (L:List GU) (c:CU):{z:Int//IR z}:=if 0<=c.made then(match L[c.made.toNat]?with|some g=>⟨g.total,g.ht⟩|none=>⟨0,dc⟩) else⟨0,dc⟩
def yz (v:VW) (b:BX) (g:Int):Int:=Vd b.lo.x b.lo.y b.lo.z b.hi.x b.hi.y b.hi.z g v.e.x v.e.y v.e.z
def MN v b {g} (d:IR g):Sm 402 (yz v b g):=Kl b.lo.hx b.lo.hy b.lo.hz b.hi.hx b.hi.hy b.hi.hz d v.e.hx v.e.hy v.e.hz
def kL (L:List GU) (v:VW) (c:CU):SN:=match c.tl with
 |[]=>⟨c.made,(pV L c).1,0,true,c.hm,(pV L c).2,Au _⟩
 |t::l=>⟨c.made,(pV L c).1,yz v (qk ⟨t.a,t.a⟩ (t::l)) (pV L c).1,o7 v.f v.p (yz v (qk ⟨t.a,t.a⟩ (t::l)) (pV L c).1) (pV L c).1,c.hm,(pV L c).2,MN v _ (pV L c).2⟩
def KH (a b:SN):Bool:=decide (b.total*b.total*a.d2<a.total*a.total*b.d2)
def IE (o:SN) (l:List SN):SN:=l.foldl (λo x=>if KH x o=true then x else o) o
def kq:List SN->SN
 |[]=>O3
 |x::l=>IE x l
def qj (s:SN):Bool:= !s.fits&&decide (0<=s.made)
def lI (CL:List CU) (L:List GU) (v:VW):List Nat->List SN
 |[]=>[]
 |i::l=>(match CL[i]?with|some c=>if qj (kL L v c)=true then [kL L v c] else []|none=>[])++lI CL L v l
def Jn:Dn
 |[.agg [.int _ _,.int t _,.wid jd d _,.val (.bool _)],.agg [.int _ _,.int u _,.wid je e _,.val (.bool _)]]=>
  if jd<=500/\je<=500 then some (none,.c (.val (.bool (decide (u*u*d<t*t*e))))) else none
 |_=>none
def YD:dW prog 38 Jn:=dC (un:=20) (n:=0) ⟨func38,kr,kr⟩ BQ bg λh p v f=>by
 unfold Jn at f;split at f;rename_i m k t i s d f b n q u o x e j y;split at f;rename_i g;cases f;refine⟨[.agg [.int m k,.int t i,.wid 500 d (f.mono g.1),.val (.bool b)],.agg [.int n q,.int u o,.wid 500 e (j.mono g.2),.val (.bool y)]],fr,ff,ff,λ_=> ?_⟩;conv=>whnf
 exact λr=>jD (decide_eq_decide.2 TZ) r;cases f;cases f
def IB:List (FuncId×Dn):=(38,Jn)::QF
def vM:dU IB:= .cons YD<|BQ
def a1K (un:Nat):ic:={vA un IB with O:=En qo (XP prog qo),R:=a2m}
def nC un:iU prog (a1K un):=⟨(cm vM un).T,(cm vM un).D,nH eD (Mo eD),Ma,λ_ _ _ _ h=>(show False from h).elim⟩
def a0T:cP:=λd e K=> ∃f l c h ty fam,d=[.c (.sli f 0 0 (ln l) c h),.c (.fn 38 [] [])]/\e=[⟨.t ty,true,bG pb l,0⟩,⟨.x fam,true,[],3⟩]/\K (.tup [.agg (Fk (kq l)),.c (.val (.bool (decide ((0:Int)<(ln l:Nat)))))]) []
def GH {l k} (hk:k<ln l) (h0:0<k):kq (l.take (k+1))=if KH l[k] (kq (l.take k))=true then l[k] else kq (l.take k):=by
 cases l with
 |nil=>cases hk
 |cons x l=>obtain⟨k,rfl⟩: ∃j,k=j+1:=⟨k-1,om⟩;have d:k<ln l:=Nat.lt_of_succ_lt_succ hk;rw[Vb,Vb,kq,kq,eG,ae d,eL];unfold IE;rw[CQ];rfl
def WW {l} (hk:0<ln l):kq (l.take (0+1))=l[0]:=by
 cases l with
 |nil=>cases hk
 |cons x l=>rfl
def EZ a b (e:a=b) ρ:af ρ (Fk a)=af ρ (Fk b):=by rw[e]
def Wf:pd prog 37 a0T:=iA (nC 0) bj (ck (nC 0) bj bg 0) ⟨func37,kr,kr⟩ λr u K q=>by
 obtain⟨A,l,c,h,z,fam,rfl,rfl,q⟩:=q;refine⟨zD,?_⟩;conv=>whnf
 refine zK [0,1,2,3] [0,1,4,6,9,10,11] [0] (G:={k:Nat//k<=ln l}) (λg=>[(11,.c (.int (g.1:Nat) (aR h g.2)))]) (λg=>[(3,⟨78,false,Fk (kq (l.take g.1)),0⟩)]) (λg=>ln l-g.1) ⟨0,ah _⟩ trivial ?_ (hent:=λ_ o=>⟨ab pb l,(by(iterate 12 refine⟨fr,?_⟩);exact gm _),(by exact⟨⟨rfl,rfl,rfl,fr⟩,⟨rfl,rfl,rfl,fr⟩,⟨rfl,rfl,rfl,λe=>(show af e _=af e (Fk O3) by simp[af,Fk,O3,C.cells])⟩,⟨rfl,rfl,rfl,λe=>(show af e _=af e (Fk O3) by simp[af,Fk,O3,C.cells])⟩,trivial⟩)⟩);rintro ⟨k,m⟩ o;have m:k<=ln l:=m;obtain⟨s,hs⟩: ∃s,s=kq (l.take k):=⟨_,rfl⟩;dsimp only;rw[<-hs];refine zB ?_ ?_<;>intro d;have d:k<ln l:=dL d;refine p6 ?_;conv=>arg 2;tactic'=>exact ap rfl rfl rfl rfl (sf pb l d) rfl
 refine zB ?_ ?_<;>intro f;have f:k=0:=by have:=of_decide_eq_true f;omega
 exact dD [0,1,2,3] ⟨k+1,d⟩ (hm:=(by omega:ln l-(k+1)<ln l-k)) (h:=λj=>⟨ab pb l,(by(iterate 11 refine⟨fr,?_⟩);refine⟨λe=>vi (dr (n:=ln l) d h.ir) e,?_⟩;exact gm _),(by exact⟨⟨rfl,rfl,rfl,fr⟩,⟨rfl,rfl,rfl,fr⟩,⟨rfl,rfl,rfl,fr⟩,⟨rfl,rfl,rfl,EZ _ _ (by subst f;exact(WW d).symm)⟩,trivial⟩)⟩);have f:0<k:=by have:=of_decide_eq_false f;omega
 refine zB ?_ ?_<;>intro i;have i:decide (s.total*s.total*l[k].d2<l[k].total*l[k].total*s.d2)=true:=i;exact dD [0,1,2,3] ⟨k+1,d⟩ (hm:=(by omega:ln l-(k+1)<ln l-k)) (h:=λj=>⟨ab pb l,(by(iterate 11 refine⟨fr,?_⟩);refine⟨λe=>vi (dr (n:=ln l) d h.ir) e,?_⟩;exact gm _),(by exact⟨⟨rfl,rfl,rfl,fr⟩,⟨rfl,rfl,rfl,fr⟩,⟨rfl,rfl,rfl,fr⟩,⟨rfl,rfl,rfl,EZ _ _ (by rw[GH d f,<-hs,if_pos (show KH l[k] s=true from i)])⟩,trivial⟩)⟩);have i:decide (s.total*s.total*l[k].d2<l[k].total*l[k].total*s.d2)=false:=i;exact dD [0,1,2,3] ⟨k+1,d⟩ (hm:=(by omega:ln l-(k+1)<ln l-k)) (h:=λj=>⟨ab pb l,(by(iterate 11 refine⟨fr,?_⟩);refine⟨λe=>vi (dr (n:=ln l) d h.ir) e,?_⟩;exact gm _),(by exact⟨⟨rfl,rfl,rfl,fr⟩,⟨rfl,rfl,rfl,fr⟩,⟨rfl,rfl,rfl,fr⟩,⟨rfl,rfl,rfl,EZ _ _ (by rw[GH d f,<-hs,if_neg (show¬KH l[k] s=true by unfold KH;rw[i];decide)])⟩,trivial⟩)⟩);have p:ln l<=k:=gi d;obtain rfl:k=ln l:=bo m p;rw[bP] at hs;refine⟨[0,1],[0],λy=>⟨ab pb l,?_⟩⟩;conv=>whnf
 rw[hs];exact⟨_,[],rfl,⟨⟨rfl,rfl,rfl,fr⟩,⟨rfl,rfl,rfl,fr⟩,trivial⟩,trivial,.tup [.agg (Fk (kq l)),.c (.val (.bool (decide ((0:Int)<(ln l:Nat)))))],λe=>rfl,q⟩
section
variable {L:List GU} {T:{z:Int//IR z}}
def rH (b:BX):List C:=[.int b.lo.x b.lo.hx,.int b.lo.y b.lo.hy,.int b.lo.z b.lo.hz,.int b.hi.x b.hi.hx,.int b.hi.y b.hi.hy,.int b.hi.z b.hi.hz]
def LG (p q:PT):Bool:=decide (p.x=q.x)&&(decide (p.y=q.y)&&decide (p.z=q.z))
def lX {p q} (h:LG p q=true):p=q:=by unfold LG at h;simp only[aG,decide_eq_true_eq] at h;obtain⟨x,y,z,r,k,u⟩:=p;obtain⟨o,m,s,g,i,j⟩:=q;obtain⟨e,d,f⟩:=h;simp only at e d f;subst e;subst d;subst f;rfl
def Hc l {k} (hk:k<ln l):jP true (fy l) (k*9) 9=some (.agg (qd l[k])):=by unfold jP;rw[ng l hk];rfl
def snK (s:SN) k (h:Sm k s.d2):List C:=[.int s.made s.hm,.int s.total s.ht,.wid k s.d2 h,.val (.bool s.fits)]
def Nc {c} {j:Nat} (hj:j<ln L) (h:c.made=(j:Int)):pV L c=⟨L[j].total,L[j].ht⟩:=by unfold pV;rw[if_pos om,h,bW,ae hj]
def UJ {c} (h: ¬0<=c.made):pV L c=⟨0,dc⟩:=if_neg h
def Ht {v c} (hT:pV L c=T) (h:c.tl=[]):kL L v c=⟨c.made,T.1,0,true,c.hm,T.2,Au _⟩:=by subst hT;unfold kL;rw[h]
def Cr {v c} (hT:pV L c=T) {t l} (h:c.tl=t::l):kL L v c=⟨c.made,T.1,yz v (qk ⟨t.a,t.a⟩ (t::l)) T.1,o7 v.f v.p (yz v (qk ⟨t.a,t.a⟩ (t::l)) T.1) T.1,c.hm,T.2,MN v _ T.2⟩:=by subst hT;unfold kL;rw[h]
noncomputable def a4v:FuncId->Option Func:=lk [(36, f36)]
def WZ: ∀f fn,a4v f=some fn->iM prog f fn:=nV λx d=>by simp only[br,cd,or_false] at d;subst d;exact⟨func36,kr,kr⟩
def iy (b:BX) (t:TR):Nat->BX
 |0=>b
 |1=>mz b t.a
 |2=>mz (mz b t.a) t.b
 |_=>Nw b t
def jU {b} (h:b.le) t: ∀q,(iy b t q).le
 |0=>h
 |1=>rB h _
 |2=>rB (rB h _) _
 |_+3=>KT h t
def ZJ {q:Nat} (h:q<=3):IR (q:Int):=ui
def Xw {n1:Bool} {CL:List CU} {c1:Nat} {h1:bZ n1 CL.length c1} {n2:Bool} {L:List GU} {c2:Nat} {h2:bZ n2 L.length c2} {CT:List Bool} {fam:List mq} {tc td tt:TypeId} {li:List ZV} {ln:Bool} {lt:Nat} {ls:List SN} {sn:Bool} {st:Nat} {v:VW} {i:Nat} {hi:IR (i:Int)} (hCL: ∀c∈CL,c.Ok fam) (hidx:sk CL L=true) (hil:i<CL.length) {K:SV->List aY->Prop} (hK: ∀(k:Nat) (h:Sm k (kL L v (CL[i]'hil)).d2) ex,K (.agg (snK (kL L v (CL[i]'hil)) k h)) (⟨.t tc,true,eM CL,0⟩::⟨.t td,true,eO L,0⟩::⟨.t tt,true,kp CT,0⟩::⟨.x fam,true,[],3⟩::⟨30,false,[.sli n1 0 0 CL.length c1 h1,.sli n2 1 0 L.length c2 h2],0⟩::⟨35,false,t7 v,0⟩::⟨3,ln,bG bI li,lt⟩::⟨78,sn,bG pb ls,st⟩::ex)): inl (a1K 0) a4v 1 36 [.c (.ptr 4 0),.c (.int (i:Nat) hi),.agg (t7 v)] [⟨.t tc,true,eM CL,0⟩,⟨.t td,true,eO L,0⟩,⟨.t tt,true,kp CT,0⟩,⟨.x fam,true,[],3⟩,⟨30,false,[.sli n1 0 0 CL.length c1 h1,.sli n2 1 0 L.length c2 h2],0⟩,⟨35,false,t7 v,0⟩,⟨3,ln,bG bI li,lt⟩,⟨78,sn,bG pb ls,st⟩] K:=by
 refine eS ?_;obtain⟨⟨htn,htf⟩,htr⟩:=hCL CL[i] (ak hil);refine zB ?_ ?_<;>intro hm;have hm:0<=CL[i].made:=of_decide_eq_true hm;obtain⟨j,hj⟩: ∃j:Nat,CL[i].made=j:=⟨CL[i].made.toNat,(nr hm).symm⟩;have hjl:j<L.length:=by have:=(pG hidx (ak hil)).1;omega
 have hji:IR (j:Int):=by rw[<-hj];exact CL[i].hm
 refine p6 ?_;conv=>arg 2;tactic'=>exact ap rfl rfl rfl rfl (MY L hjl 5 1 (r:=[.int L[j].total L[j].ht]) rfl) rfl
 conv=>whnf
 conv=>whnf
 conv=>arg 2;tactic'=>exact eC rfl rfl rfl rfl rfl rfl htr
 refine zB ?_ ?_<;>intro hz;have hz:CL[i].s.n=0:=by have:=of_decide_eq_true hz;omega
 have hnil:CL[i].tl=[]:=aU om;rw[Ht (Nc hjl hj) hnil] at hK;conv=>whnf
 exact hK _ _ _;have hz: ¬CL[i].s.n=0:=by intro h;have:=of_decide_eq_false hz;rw[h] at this;exact this rfl
 obtain⟨tl,htl⟩: ∃tl,CL[i].tl=tl:=⟨_,rfl⟩;rw[htl] at htn htf
 obtain⟨t0,tl0,rfl⟩: ∃t0 tl0,tl=t0::tl0:=by
  cases tl with
  |nil=>exact absurd htn hz
  |cons a b=>exact⟨a,b,rfl⟩
 obtain⟨r,w,ha,hfm⟩: ∃r w,CL[i].s.a=some ⟨r,w,none⟩/\pg fam (r,w) (fy (t0::tl0)):=htf.resolve_left λe=>by cases e
 rw[Cr (Nc hjl hj) htl] at hK;have hS:SV.c CL[i].s.v=SV.c (.val (.slice (some ⟨r,w,none⟩) CL[i].s.n CL[i].s.c)):=by show SV.c (.val (.slice CL[i].s.a _ _))=_;rw[ha]
 have hn0:0<CL[i].s.n:=om;refine⟨_,DR (r:=r) (off:=w) (j:=0) rfl rfl hS rfl hn0,_,DQ (r:=r) (off:=w) (j:=0) rfl rfl rfl rfl dc,_,DS (r:=r) (o1:=w) (off:=0) (fb:=3) (v:= .agg [.int t0.a.x t0.a.hx,.int t0.a.y t0.a.hy,.int t0.a.z t0.a.hz]) rfl rfl rfl rfl hfm rfl (λ_ _=>rfl),_,DR (r:=r) (off:=w) (j:=0) rfl rfl hS rfl hn0,_,DQ (r:=r) (off:=w) (j:=0) rfl rfl rfl rfl dc,_,DS (r:=r) (o1:=w) (off:=0) (fb:=3) (v:= .agg [.int t0.a.x t0.a.hx,.int t0.a.y t0.a.hy,.int t0.a.z t0.a.hz]) rfl rfl rfl rfl hfm rfl (λ_ _=>rfl),?_⟩;conv=>whnf
 conv=>arg 2;tactic'=>exact eC rfl rfl rfl rfl rfl rfl htr
 conv=>whnf
 obtain⟨b0,hb0⟩: ∃b0:BX,b0=⟨t0.a,t0.a⟩:=⟨_,rfl⟩;have hb0l:b0.le:=by rw[hb0];exact⟨sT _,sT _,sT _⟩
 rw[<-hb0] at hK;obtain⟨tq,htq⟩: ∃tq,tq=t0::tl0:=⟨_,rfl⟩;rw[<-htq] at hK hfm htn;refine fC (G:={k:Nat//k<=tq.length}×(Nat->Value)) (λg=>tn g.2 0 5 (.c (.ptr 8 0):: .c (.ptr 9 0):: .c (.ptr 10 0):: .c (.ptr 11 0):: .c (.ptr 12 0)::tn g.2 10 46 (.c CL[i].s.v:: .c (.int (CL[i].s.n:Nat) htr):: .c (.int (g.1.1:Nat) (Hg htr htn g.1.2))::tn g.2 59 72 []))) (λg=>[⟨.t tc,true,eM CL,0⟩,⟨.t td,true,eO L,0⟩,⟨.t tt,true,kp CT,0⟩,⟨.x fam,true,[],3⟩,⟨30,false,[.sli n1 0 0 CL.length c1 h1,.sli n2 1 0 L.length c2 h2],0⟩,⟨35,false,t7 v,0⟩,⟨3,ln,bG bI li,lt⟩,⟨78,sn,bG pb ls,st⟩,⟨35,false,t7 v,0⟩,⟨78,false,Fk O3,0⟩,⟨55,false,[CL[i].s.v,.int CL[i].made CL[i].hm,.int CL[i].used CL[i].hu],0⟩,⟨78,false,[.int CL[i].made CL[i].hm,.int L[j].total (L[j].ht),.wid 0 0 (Au _),.val (.bool true)],0⟩,⟨91,false,rH (qk b0 (tq.take g.1.1))++[.int L[j].total (L[j].ht)],0⟩]) (λg=>tq.length-g.1.1) ?_ ?_;exact zYx [0,1,2,3,4,5,6,7,8,9,10,11,12] [5,6,7,8,9,56,57,58] [0,1,2,6,7] (λvs6=>(⟨0,ah _⟩,vs6)) (λvs6=>⟨bR CL,bT L,cz CT,ab bI li,ab pb ls,gm _,(by(iterate 9 refine⟨mL _,?_⟩);refine⟨⟨rfl,rfl,rfl,λρ=>(show af ρ _=af ρ (Fk O3) by simp[af,Fk,O3,C.cells])⟩,?_⟩;refine⟨mL _,?_⟩;refine⟨⟨rfl,rfl,rfl,λρ=>(by simp[af,C.cells])⟩,?_⟩;refine⟨⟨rfl,rfl,rfl,λρ=>(show _=af ρ (rH b0++[.int L[j].total (L[j].ht)]) by rw[hb0];rfl)⟩,?_⟩;exact trivial)⟩);rintro⟨⟨k,hk⟩,vs6⟩;have hk:k<=tq.length:=hk;obtain⟨bx,hbx⟩: ∃bx,bx=qk b0 (tq.take k):=⟨_,rfl⟩;have hbl:bx.le:=by rw[hbx];exact K7 hb0l _
 dsimp only;rw[<-hbx];refine zB ?_ ?_<;>intro hlt;have hlt:k<tq.length:=by rw[<-htn];exact dL hlt
 conv=>whnf
 refine .inr ⟨r,w,_,_,k,hS,rfl,om,?_⟩;conv=>whnf
 refine .inr ⟨r,w,k*9,3,fy tq,.agg (qd tq[k]),rfl,⟨_,_,_,rfl,rfl,hfm⟩,⟨Hc tq hlt,λ_ _=>rfl⟩,?_⟩;conv=>whnf
 refine fC (G:={q:Nat//q<=3}×(Nat->Value)) (λg=>tn g.2 0 5 (.c (.ptr 8 0):: .c (.ptr 9 0):: .c (.ptr 10 0):: .c (.ptr 11 0):: .c (.ptr 12 0)::tn g.2 10 46 (.c CL[i].s.v:: .c (.int (CL[i].s.n:Nat) htr):: .c (.int (k:Nat) (Hg htr htn hk))::tn g.2 59 3 (.agg (qd tq[k]):: .c (.int (g.1.1:Nat) (ZJ g.1.2))::tn g.2 64 67 [])))) (λg=>[⟨.t tc,true,eM CL,0⟩,⟨.t td,true,eO L,0⟩,⟨.t tt,true,kp CT,0⟩,⟨.x fam,true,[],3⟩,⟨30,false,[.sli n1 0 0 CL.length c1 h1,.sli n2 1 0 L.length c2 h2],0⟩,⟨35,false,t7 v,0⟩,⟨3,ln,bG bI li,lt⟩,⟨78,sn,bG pb ls,st⟩,⟨35,false,t7 v,0⟩,⟨78,false,Fk O3,0⟩,⟨55,false,[CL[i].s.v,.int CL[i].made CL[i].hm,.int CL[i].used CL[i].hu],0⟩,⟨78,false,[.int CL[i].made CL[i].hm,.int L[j].total (L[j].ht),.wid 0 0 (Au _),.val (.bool true)],0⟩,⟨91,false,rH (iy bx tq[k] g.1.1)++[.int L[j].total (L[j].ht)],0⟩]) (λg=>3-g.1.1) ?_ ?_;exact zY [0,1,2,3,4,5,6,7,8,9,10,11,12] [5,6,7,8,9,56,57,58,62,63] [0,1,2,6,7] λwa1=>(⟨0,ah _⟩,wa1);rintro⟨⟨q,hq⟩,wa2⟩;have hq:q<=3:=hq;dsimp only;obtain rfl|rfl|rfl|rfl:q=0\/q=1\/q=2\/q=3:=om;refine zB ?_ ?_<;>intro a;have a:LG tq[k].a (iy bx tq[k] 0).lo=true:=a;exact qg [0,1,2,3,4,5,6,7,8,9,10,11,12] [5,6,7,8,9,56,57,58,62,63] [0,1,2,6,7] (λwa2=>(⟨1,dc⟩,wa2)) (λwa2=>zL) (λwa2=>⟨bR CL,bT L,cz CT,ab bI li,ab pb ls,gm _,(by(iterate 12 refine⟨mL _,?_⟩);refine⟨⟨rfl,rfl,rfl,λρ=>(show af ρ (rH (iy bx tq[k] 0)++[.int L[j].total (L[j].ht)])=af ρ (rH (mz (iy bx tq[k] 0) tq[k].a)++[.int L[j].total (L[j].ht)]) by rw[rC (jU hbl _ 0) (lX a)])⟩,?_⟩;exact trivial)⟩);refine zB ?_ ?_<;>intro c;have c:LG tq[k].a (iy bx tq[k] 0).hi=true:=c;exact qg [0,1,2,3,4,5,6,7,8,9,10,11,12] [5,6,7,8,9,56,57,58,62,63] [0,1,2,6,7] (λwa2=>(⟨1,dc⟩,wa2)) (λwa2=>zL) (λwa2=>⟨bR CL,bT L,cz CT,ab bI li,ab pb ls,gm _,(by(iterate 12 refine⟨mL _,?_⟩);refine⟨⟨rfl,rfl,rfl,λρ=>(show af ρ (rH (iy bx tq[k] 0)++[.int L[j].total (L[j].ht)])=af ρ (rH (mz (iy bx tq[k] 0) tq[k].a)++[.int L[j].total (L[j].ht)]) by rw[rA (jU hbl _ 0) (lX c)])⟩,?_⟩;exact trivial)⟩);exact qg [0,1,2,3,4,5,6,7,8,9,10,11,12] [5,6,7,8,9,56,57,58,62,63] [0,1,2,6,7] (λwa2=>(⟨1,dc⟩,wa2)) (λwa2=>zL) (λwa2=>⟨bR CL,bT L,cz CT,ab bI li,ab pb ls,gm _,(by(iterate 12 refine⟨mL _,?_⟩);refine⟨⟨rfl,rfl,rfl,λρ=>rfl⟩,?_⟩;exact trivial)⟩);refine zB ?_ ?_<;>intro a;have a:LG tq[k].b (iy bx tq[k] 1).lo=true:=a;exact qg [0,1,2,3,4,5,6,7,8,9,10,11,12] [5,6,7,8,9,56,57,58,62,63] [0,1,2,6,7] (λwa2=>(⟨2,dc⟩,wa2)) (λwa2=>zL) (λwa2=>⟨bR CL,bT L,cz CT,ab bI li,ab pb ls,gm _,(by(iterate 12 refine⟨mL _,?_⟩);refine⟨⟨rfl,rfl,rfl,λρ=>(show af ρ (rH (iy bx tq[k] 1)++[.int L[j].total (L[j].ht)])=af ρ (rH (mz (iy bx tq[k] 1) tq[k].b)++[.int L[j].total (L[j].ht)]) by rw[rC (jU hbl _ 1) (lX a)])⟩,?_⟩;exact trivial)⟩);refine zB ?_ ?_<;>intro c;have c:LG tq[k].b (iy bx tq[k] 1).hi=true:=c;exact qg [0,1,2,3,4,5,6,7,8,9,10,11,12] [5,6,7,8,9,56,57,58,62,63] [0,1,2,6,7] (λwa2=>(⟨2,dc⟩,wa2)) (λwa2=>zL) (λwa2=>⟨bR CL,bT L,cz CT,ab bI li,ab pb ls,gm _,(by(iterate 12 refine⟨mL _,?_⟩);refine⟨⟨rfl,rfl,rfl,λρ=>(show af ρ (rH (iy bx tq[k] 1)++[.int L[j].total (L[j].ht)])=af ρ (rH (mz (iy bx tq[k] 1) tq[k].b)++[.int L[j].total (L[j].ht)]) by rw[rA (jU hbl _ 1) (lX c)])⟩,?_⟩;exact trivial)⟩);exact qg [0,1,2,3,4,5,6,7,8,9,10,11,12] [5,6,7,8,9,56,57,58,62,63] [0,1,2,6,7] (λwa2=>(⟨2,dc⟩,wa2)) (λwa2=>zL) (λwa2=>⟨bR CL,bT L,cz CT,ab bI li,ab pb ls,gm _,(by(iterate 12 refine⟨mL _,?_⟩);refine⟨⟨rfl,rfl,rfl,λρ=>rfl⟩,?_⟩;exact trivial)⟩);refine zB ?_ ?_<;>intro a;have a:LG tq[k].c (iy bx tq[k] 2).lo=true:=a;exact qg [0,1,2,3,4,5,6,7,8,9,10,11,12] [5,6,7,8,9,56,57,58,62,63] [0,1,2,6,7] (λwa2=>(⟨3,dc⟩,wa2)) (λwa2=>zL) (λwa2=>⟨bR CL,bT L,cz CT,ab bI li,ab pb ls,gm _,(by(iterate 12 refine⟨mL _,?_⟩);refine⟨⟨rfl,rfl,rfl,λρ=>(show af ρ (rH (iy bx tq[k] 2)++[.int L[j].total (L[j].ht)])=af ρ (rH (mz (iy bx tq[k] 2) tq[k].c)++[.int L[j].total (L[j].ht)]) by rw[rC (jU hbl _ 2) (lX a)])⟩,?_⟩;exact trivial)⟩);refine zB ?_ ?_<;>intro c;have c:LG tq[k].c (iy bx tq[k] 2).hi=true:=c;exact qg [0,1,2,3,4,5,6,7,8,9,10,11,12] [5,6,7,8,9,56,57,58,62,63] [0,1,2,6,7] (λwa2=>(⟨3,dc⟩,wa2)) (λwa2=>zL) (λwa2=>⟨bR CL,bT L,cz CT,ab bI li,ab pb ls,gm _,(by(iterate 12 refine⟨mL _,?_⟩);refine⟨⟨rfl,rfl,rfl,λρ=>(show af ρ (rH (iy bx tq[k] 2)++[.int L[j].total (L[j].ht)])=af ρ (rH (mz (iy bx tq[k] 2) tq[k].c)++[.int L[j].total (L[j].ht)]) by rw[rA (jU hbl _ 2) (lX c)])⟩,?_⟩;exact trivial)⟩);exact qg [0,1,2,3,4,5,6,7,8,9,10,11,12] [5,6,7,8,9,56,57,58,62,63] [0,1,2,6,7] (λwa2=>(⟨3,dc⟩,wa2)) (λwa2=>zL) (λwa2=>⟨bR CL,bT L,cz CT,ab bI li,ab pb ls,gm _,(by(iterate 12 refine⟨mL _,?_⟩);refine⟨⟨rfl,rfl,rfl,λρ=>rfl⟩,?_⟩;exact trivial)⟩);exact qg [0,1,2,3,4,5,6,7,8,9,10,11,12] [5,6,7,8,9,56,57,58] [0,1,2,6,7] (λvs7=>(⟨k+1,hlt⟩,vs7)) (λvs7=>zL) (λvs7=>⟨bR CL,bT L,cz CT,ab bI li,ab pb ls,(by(iterate 58 refine⟨λ_=>rfl,?_⟩);refine⟨λρ=>vi (dr (n:=tq.length) hlt (by rw[<-htn];exact htr)) ρ,?_⟩;exact gm _),(by(iterate 12 refine⟨mL _,?_⟩);refine⟨⟨rfl,rfl,rfl,λρ=>(show af ρ (rH (Nw bx tq[k])++[.int L[j].total (L[j].ht)])=af ρ (rH (qk b0 (tq.take (k+1)))++[.int L[j].total (L[j].ht)]) by rw[BT b0 hlt,<-hbx])⟩,?_⟩;exact trivial)⟩);have hge:tq.length<=k:=by rw[<-htn];exact gi hlt
 obtain rfl:k=tq.length:=bo hk hge;rw[bP] at hbx;rw[<-hbx] at hK;conv=>whnf
 exact hK _ _ _;have hm: ¬0<=CL[i].made:=of_decide_eq_false hm;conv=>whnf
 conv=>arg 2;tactic'=>exact eC rfl rfl rfl rfl rfl rfl htr
 refine zB ?_ ?_<;>intro hz;have hz:CL[i].s.n=0:=by have:=of_decide_eq_true hz;omega
 have hnil:CL[i].tl=[]:=aU om;rw[Ht (UJ hm) hnil] at hK;conv=>whnf
 exact hK _ _ _;have hz: ¬CL[i].s.n=0:=by intro h;have:=of_decide_eq_false hz;rw[h] at this;exact this rfl
 obtain⟨tl,htl⟩: ∃tl,CL[i].tl=tl:=⟨_,rfl⟩;rw[htl] at htn htf
 obtain⟨t0,tl0,rfl⟩: ∃t0 tl0,tl=t0::tl0:=by
  cases tl with
  |nil=>exact absurd htn hz
  |cons a b=>exact⟨a,b,rfl⟩
 obtain⟨r,w,ha,hfm⟩: ∃r w,CL[i].s.a=some ⟨r,w,none⟩/\pg fam (r,w) (fy (t0::tl0)):=htf.resolve_left λe=>by cases e
 rw[Cr (UJ hm) htl] at hK;have hS:SV.c CL[i].s.v=SV.c (.val (.slice (some ⟨r,w,none⟩) CL[i].s.n CL[i].s.c)):=by show SV.c (.val (.slice CL[i].s.a _ _))=_;rw[ha]
 have hn0:0<CL[i].s.n:=om;refine⟨_,DR (r:=r) (off:=w) (j:=0) rfl rfl hS rfl hn0,_,DQ (r:=r) (off:=w) (j:=0) rfl rfl rfl rfl dc,_,DS (r:=r) (o1:=w) (off:=0) (fb:=3) (v:= .agg [.int t0.a.x t0.a.hx,.int t0.a.y t0.a.hy,.int t0.a.z t0.a.hz]) rfl rfl rfl rfl hfm rfl (λ_ _=>rfl),_,DR (r:=r) (off:=w) (j:=0) rfl rfl hS rfl hn0,_,DQ (r:=r) (off:=w) (j:=0) rfl rfl rfl rfl dc,_,DS (r:=r) (o1:=w) (off:=0) (fb:=3) (v:= .agg [.int t0.a.x t0.a.hx,.int t0.a.y t0.a.hy,.int t0.a.z t0.a.hz]) rfl rfl rfl rfl hfm rfl (λ_ _=>rfl),?_⟩;conv=>whnf
 conv=>arg 2;tactic'=>exact eC rfl rfl rfl rfl rfl rfl htr
 conv=>whnf
 obtain⟨b0,hb0⟩: ∃b0:BX,b0=⟨t0.a,t0.a⟩:=⟨_,rfl⟩;have hb0l:b0.le:=by rw[hb0];exact⟨sT _,sT _,sT _⟩
 rw[<-hb0] at hK;obtain⟨tq,htq⟩: ∃tq,tq=t0::tl0:=⟨_,rfl⟩;rw[<-htq] at hK hfm htn;refine fC (G:={k:Nat//k<=tq.length}×(Nat->Value)) (λg=>tn g.2 0 5 (.c (.ptr 8 0):: .c (.ptr 9 0):: .c (.ptr 10 0):: .c (.ptr 11 0):: .c (.ptr 12 0)::tn g.2 10 46 (.c CL[i].s.v:: .c (.int (CL[i].s.n:Nat) htr):: .c (.int (g.1.1:Nat) (Hg htr htn g.1.2))::tn g.2 59 72 []))) (λg=>[⟨.t tc,true,eM CL,0⟩,⟨.t td,true,eO L,0⟩,⟨.t tt,true,kp CT,0⟩,⟨.x fam,true,[],3⟩,⟨30,false,[.sli n1 0 0 CL.length c1 h1,.sli n2 1 0 L.length c2 h2],0⟩,⟨35,false,t7 v,0⟩,⟨3,ln,bG bI li,lt⟩,⟨78,sn,bG pb ls,st⟩,⟨35,false,t7 v,0⟩,⟨78,false,Fk O3,0⟩,⟨55,false,[CL[i].s.v,.int CL[i].made CL[i].hm,.int CL[i].used CL[i].hu],0⟩,⟨78,false,[.int CL[i].made CL[i].hm,.int 0 dc,.wid 0 0 (Au _),.val (.bool true)],0⟩,⟨91,false,rH (qk b0 (tq.take g.1.1))++[.int 0 dc],0⟩]) (λg=>tq.length-g.1.1) ?_ ?_;exact zYx [0,1,2,3,4,5,6,7,8,9,10,11,12] [5,6,7,8,9,56,57,58] [0,1,2,6,7] (λvs6=>(⟨0,ah _⟩,vs6)) (λvs6=>⟨bR CL,bT L,cz CT,ab bI li,ab pb ls,gm _,(by(iterate 9 refine⟨mL _,?_⟩);refine⟨⟨rfl,rfl,rfl,λρ=>(show af ρ _=af ρ (Fk O3) by simp[af,Fk,O3,C.cells])⟩,?_⟩;refine⟨mL _,?_⟩;refine⟨⟨rfl,rfl,rfl,λρ=>(by simp[af,C.cells])⟩,?_⟩;refine⟨⟨rfl,rfl,rfl,λρ=>(show _=af ρ (rH b0++[.int 0 dc]) by rw[hb0];rfl)⟩,?_⟩;exact trivial)⟩);rintro⟨⟨k,hk⟩,vs6⟩;have hk:k<=tq.length:=hk;obtain⟨bx,hbx⟩: ∃bx,bx=qk b0 (tq.take k):=⟨_,rfl⟩;have hbl:bx.le:=by rw[hbx];exact K7 hb0l _
 dsimp only;rw[<-hbx];refine zB ?_ ?_<;>intro hlt;have hlt:k<tq.length:=by rw[<-htn];exact dL hlt
 conv=>whnf
 refine .inr ⟨r,w,_,_,k,hS,rfl,om,?_⟩;conv=>whnf
 refine .inr ⟨r,w,k*9,3,fy tq,.agg (qd tq[k]),rfl,⟨_,_,_,rfl,rfl,hfm⟩,⟨Hc tq hlt,λ_ _=>rfl⟩,?_⟩;conv=>whnf
 refine fC (G:={q:Nat//q<=3}×(Nat->Value)) (λg=>tn g.2 0 5 (.c (.ptr 8 0):: .c (.ptr 9 0):: .c (.ptr 10 0):: .c (.ptr 11 0):: .c (.ptr 12 0)::tn g.2 10 46 (.c CL[i].s.v:: .c (.int (CL[i].s.n:Nat) htr):: .c (.int (k:Nat) (Hg htr htn hk))::tn g.2 59 3 (.agg (qd tq[k]):: .c (.int (g.1.1:Nat) (ZJ g.1.2))::tn g.2 64 67 [])))) (λg=>[⟨.t tc,true,eM CL,0⟩,⟨.t td,true,eO L,0⟩,⟨.t tt,true,kp CT,0⟩,⟨.x fam,true,[],3⟩,⟨30,false,[.sli n1 0 0 CL.length c1 h1,.sli n2 1 0 L.length c2 h2],0⟩,⟨35,false,t7 v,0⟩,⟨3,ln,bG bI li,lt⟩,⟨78,sn,bG pb ls,st⟩,⟨35,false,t7 v,0⟩,⟨78,false,Fk O3,0⟩,⟨55,false,[CL[i].s.v,.int CL[i].made CL[i].hm,.int CL[i].used CL[i].hu],0⟩,⟨78,false,[.int CL[i].made CL[i].hm,.int 0 dc,.wid 0 0 (Au _),.val (.bool true)],0⟩,⟨91,false,rH (iy bx tq[k] g.1.1)++[.int 0 dc],0⟩]) (λg=>3-g.1.1) ?_ ?_;exact zY [0,1,2,3,4,5,6,7,8,9,10,11,12] [5,6,7,8,9,56,57,58,62,63] [0,1,2,6,7] λwa1=>(⟨0,ah _⟩,wa1);rintro⟨⟨q,hq⟩,wa2⟩;have hq:q<=3:=hq;dsimp only;obtain rfl|rfl|rfl|rfl:q=0\/q=1\/q=2\/q=3:=om;refine zB ?_ ?_<;>intro a;have a:LG tq[k].a (iy bx tq[k] 0).lo=true:=a;exact qg [0,1,2,3,4,5,6,7,8,9,10,11,12] [5,6,7,8,9,56,57,58,62,63] [0,1,2,6,7] (λwa2=>(⟨1,dc⟩,wa2)) (λwa2=>zL) (λwa2=>⟨bR CL,bT L,cz CT,ab bI li,ab pb ls,gm _,(by(iterate 12 refine⟨mL _,?_⟩);refine⟨⟨rfl,rfl,rfl,λρ=>(show af ρ (rH (iy bx tq[k] 0)++[.int 0 dc])=af ρ (rH (mz (iy bx tq[k] 0) tq[k].a)++[.int 0 dc]) by rw[rC (jU hbl _ 0) (lX a)])⟩,?_⟩;exact trivial)⟩);refine zB ?_ ?_<;>intro c;have c:LG tq[k].a (iy bx tq[k] 0).hi=true:=c;exact qg [0,1,2,3,4,5,6,7,8,9,10,11,12] [5,6,7,8,9,56,57,58,62,63] [0,1,2,6,7] (λwa2=>(⟨1,dc⟩,wa2)) (λwa2=>zL) (λwa2=>⟨bR CL,bT L,cz CT,ab bI li,ab pb ls,gm _,(by(iterate 12 refine⟨mL _,?_⟩);refine⟨⟨rfl,rfl,rfl,λρ=>(show af ρ (rH (iy bx tq[k] 0)++[.int 0 dc])=af ρ (rH (mz (iy bx tq[k] 0) tq[k].a)++[.int 0 dc]) by rw[rA (jU hbl _ 0) (lX c)])⟩,?_⟩;exact trivial)⟩);exact qg [0,1,2,3,4,5,6,7,8,9,10,11,12] [5,6,7,8,9,56,57,58,62,63] [0,1,2,6,7] (λwa2=>(⟨1,dc⟩,wa2)) (λwa2=>zL) (λwa2=>⟨bR CL,bT L,cz CT,ab bI li,ab pb ls,gm _,(by(iterate 12 refine⟨mL _,?_⟩);refine⟨⟨rfl,rfl,rfl,λρ=>rfl⟩,?_⟩;exact trivial)⟩);refine zB ?_ ?_<;>intro a;have a:LG tq[k].b (iy bx tq[k] 1).lo=true:=a;exact qg [0,1,2,3,4,5,6,7,8,9,10,11,12] [5,6,7,8,9,56,57,58,62,63] [0,1,2,6,7] (λwa2=>(⟨2,dc⟩,wa2)) (λwa2=>zL) (λwa2=>⟨bR CL,bT L,cz CT,ab bI li,ab pb ls,gm _,(by(iterate 12 refine⟨mL _,?_⟩);refine⟨⟨rfl,rfl,rfl,λρ=>(show af ρ (rH (iy bx tq[k] 1)++[.int 0 dc])=af ρ (rH (mz (iy bx tq[k] 1) tq[k].b)++[.int 0 dc]) by rw[rC (jU hbl _ 1) (lX a)])⟩,?_⟩;exact trivial)⟩);refine zB ?_ ?_<;>intro c;have c:LG tq[k].b (iy bx tq[k] 1).hi=true:=c;exact qg [0,1,2,3,4,5,6,7,8,9,10,11,12] [5,6,7,8,9,56,57,58,62,63] [0,1,2,6,7] (λwa2=>(⟨2,dc⟩,wa2)) (λwa2=>zL) (λwa2=>⟨bR CL,bT L,cz CT,ab bI li,ab pb ls,gm _,(by(iterate 12 refine⟨mL _,?_⟩);refine⟨⟨rfl,rfl,rfl,λρ=>(show af ρ (rH (iy bx tq[k] 1)++[.int 0 dc])=af ρ (rH (mz (iy bx tq[k] 1) tq[k].b)++[.int 0 dc]) by rw[rA (jU hbl _ 1) (lX c)])⟩,?_⟩;exact trivial)⟩);exact qg [0,1,2,3,4,5,6,7,8,9,10,11,12] [5,6,7,8,9,56,57,58,62,63] [0,1,2,6,7] (λwa2=>(⟨2,dc⟩,wa2)) (λwa2=>zL) (λwa2=>⟨bR CL,bT L,cz CT,ab bI li,ab pb ls,gm _,(by(iterate 12 refine⟨mL _,?_⟩);refine⟨⟨rfl,rfl,rfl,λρ=>rfl⟩,?_⟩;exact trivial)⟩);refine zB ?_ ?_<;>intro a;have a:LG tq[k].c (iy bx tq[k] 2).lo=true:=a;exact qg [0,1,2,3,4,5,6,7,8,9,10,11,12] [5,6,7,8,9,56,57,58,62,63] [0,1,2,6,7] (λwa2=>(⟨3,dc⟩,wa2)) (λwa2=>zL) (λwa2=>⟨bR CL,bT L,cz CT,ab bI li,ab pb ls,gm _,(by(iterate 12 refine⟨mL _,?_⟩);refine⟨⟨rfl,rfl,rfl,λρ=>(show af ρ (rH (iy bx tq[k] 2)++[.int 0 dc])=af ρ (rH (mz (iy bx tq[k] 2) tq[k].c)++[.int 0 dc]) by rw[rC (jU hbl _ 2) (lX a)])⟩,?_⟩;exact trivial)⟩);refine zB ?_ ?_<;>intro c;have c:LG tq[k].c (iy bx tq[k] 2).hi=true:=c;exact qg [0,1,2,3,4,5,6,7,8,9,10,11,12] [5,6,7,8,9,56,57,58,62,63] [0,1,2,6,7] (λwa2=>(⟨3,dc⟩,wa2)) (λwa2=>zL) (λwa2=>⟨bR CL,bT L,cz CT,ab bI li,ab pb ls,gm _,(by(iterate 12 refine⟨mL _,?_⟩);refine⟨⟨rfl,rfl,rfl,λρ=>(show af ρ (rH (iy bx tq[k] 2)++[.int 0 dc])=af ρ (rH (mz (iy bx tq[k] 2) tq[k].c)++[.int 0 dc]) by rw[rA (jU hbl _ 2) (lX c)])⟩,?_⟩;exact trivial)⟩);exact qg [0,1,2,3,4,5,6,7,8,9,10,11,12] [5,6,7,8,9,56,57,58,62,63] [0,1,2,6,7] (λwa2=>(⟨3,dc⟩,wa2)) (λwa2=>zL) (λwa2=>⟨bR CL,bT L,cz CT,ab bI li,ab pb ls,gm _,(by(iterate 12 refine⟨mL _,?_⟩);refine⟨⟨rfl,rfl,rfl,λρ=>rfl⟩,?_⟩;exact trivial)⟩);exact qg [0,1,2,3,4,5,6,7,8,9,10,11,12] [5,6,7,8,9,56,57,58] [0,1,2,6,7] (λvs7=>(⟨k+1,hlt⟩,vs7)) (λvs7=>zL) (λvs7=>⟨bR CL,bT L,cz CT,ab bI li,ab pb ls,(by(iterate 58 refine⟨λ_=>rfl,?_⟩);refine⟨λρ=>vi (dr (n:=tq.length) hlt (by rw[<-htn];exact htr)) ρ,?_⟩;exact gm _),(by(iterate 12 refine⟨mL _,?_⟩);refine⟨⟨rfl,rfl,rfl,λρ=>(show af ρ (rH (Nw bx tq[k])++[.int 0 dc])=af ρ (rH (qk b0 (tq.take (k+1)))++[.int 0 dc]) by rw[BT b0 hlt,<-hbx])⟩,?_⟩;exact trivial)⟩);have hge:tq.length<=k:=by rw[<-htn];exact gi hlt
 obtain rfl:k=tq.length:=bo hk hge;rw[bP] at hbx;rw[<-hbx] at hK;conv=>whnf
 exact hK _ _ _
end
def wS CL L v: ∀a b:List Nat,lI CL L v (a++b)=lI CL L v a++lI CL L v b
 |[],_=>rfl
 |i::a,b=>by rw[cK,lI,wS CL L v a b,lI,aJ]
def NH {CL L v l k} (hk:k<ln l) (hl:l[k]<ln CL):lI CL L v (l.take (k+1))=lI CL L v (l.take k)++(if qj (kL L v CL[l[k]])=true then [kL L v CL[l[k]]] else []):=by rw[eG,ae hk,eL,wS];congr 1;rw[lI,ae hl,lI,bk]
def FE CL L v: ∀l:List Nat,(lI CL L v l).length<=ln l
 |[]=>ai _
 |i::l=>by have:=FE CL L v l;rw[lI,aa,aS];split;split<;>simp<;>omega;simp;omega
def MK CL CT: ∀n,∀i∈l7 CL CT n,i<ln CL
 |0,i,h=>by cases h
 |n+1,i,h=>by rw[l7] at h;rcases aT.1 h with h|h;exact MK CL CT n i h;split at h;rename_i c d;split at h;rw[bq] at h;subst h;exact(aw.1 d).1;cases h;cases h
def Zn:cP:=λf i K=> ∃k d y q m L s j u e p r fam o A z v,f=[.agg [.sli k 0 0 (ln d) y q,.sli m 1 0 (ln L) s j],.c (.sli u 2 0 (ln e) p r),.agg (t7 v)]/\i=[⟨.t o,true,eM d,0⟩,⟨.t A,true,eO L,0⟩,⟨.t z,true,kp e,0⟩,⟨.x fam,true,[],3⟩]/\((∀c∈d,c.Ok fam)/\ ∀g∈L,g.Ok fam)/\ln d<=100000000000/\
 ∀h bd,(iZ d L e->h=l7 d e (ln d))->(¬iZ d L e->h=[])->bd=lI d L v h->K (.tup [.c (.int (kq bd).made (kq bd).hm),.c (.val (.bool (decide ((0:Int)<(ln bd:Nat)))))]) []
def RF:pd prog 19 Zn:=iA (nC 0) bj (lP (.cons Wr (.cons Wf .nil)) (ze (l:=[36]) (ck (nC 0) bj WZ 1))) ⟨func19,kr,kr⟩ λa2 a6 K I=>by
 obtain⟨N,d,Q,H,O,L,P,M,n3,q,V,Y,fam,tc,td,tt,v,rfl,rfl,⟨Z,hL⟩,a4,I⟩:=I;refine⟨zD,?_⟩
 refine⟨3,[0,1,2],[.agg [.sli N 0 0 (ln d) Q H,.sli O 1 0 (ln L) P M],.c (.sli n3 2 0 (ln q) V Y)],(λρ a0 e=>by
  show cg (SV.den ρ) [.agg [.sli N 0 0 (ln d) Q H,.sli O 1 0 (ln L) P M],.c (.sli n3 2 0 (ln q) V Y)]=_
  have e0:=e 0 _ rfl
  have e1:=e 1 _ rfl
  have e2:=e 2 _ rfl
  simp only[cg,SV.den,C.den,C.cells,e0,e1,e2,aL,bF,af]),.inr rfl,⟨bR d,bT L,cz q,trivial⟩,N,d,Q,H,O,L,P,M,n3,q,V,Y,fam,_,_,_,rfl,rfl,hL,om,λo T a1=> ?_⟩
 conv=>whnf
 obtain⟨f,his,hi1,hi0,hilt,hiv⟩: ∃f:List Nat,o.l=f.map zN/\(iZ d L q->f=l7 d q (ln d))/\(¬iZ d L q->f=[])/\(∀i∈f,i<ln d)/\(f≠[]->iZ d L q):=by by_cases r:iZ d L q;exact⟨_,T r,fr,λh=>absurd r h,MK d q _,λ_=>r⟩;exact⟨[],a1 r,λh=>absurd h r,fr,(λi h=>by cases h),λh=>absurd rfl h⟩
 obtain⟨ol,W,oc,F⟩:=o;dsimp only at his;subst his;have a5:ln f<=100000000000:=by by_cases r:iZ d L q;rw[hi1 r];have:=Ar d q (ln d);omega;rw[hi0 r];exact ah _
 conv=>whnf
 refine zK [0,1,2,3,4,5,6,1000+ 78] [1,3,5,8,16,17,18] [0,1,2,6,7] (G:={p:{k:Nat//k<=(f.map zN).length}×OL SN//p.2.l=lI d L v (f.take p.1.1)}) (λg=>[(8,g.1.2.sl 7),(18,.c (.int (g.1.1.1:Nat) (aR F g.1.1.2)))]) (λg=>[(7,g.1.2.blk pb 78)]) (λg=>(f.map zN).length-g.1.1.1) ⟨(⟨0,ah _⟩,OL.none),rfl⟩ trivial ?_;rintro ⟨⟨⟨k,U⟩,o⟩,y⟩ vs6;have y:o.l=lI d L v (f.take k):=y;have U:k<=(f.map zN).length:=U;have a8:ln o.l<=ln f:=by rw[y];have:=FE d L v (f.take k);rw[aO] at this;omega
 dsimp only;refine zB ?_ ?_<;>intro j;have j:k<(f.map zN).length:=dL j;have a7:IR (k:Int):=aR F U;have hkl:k<ln f:=by rw[bO] at j;exact j
 obtain⟨i,hie⟩: ∃i,i=f[k]:=⟨_,rfl⟩;have u:i<ln d:=by rw[hie];exact hilt _ (ak hkl)
 have r:iZ d L q:=hiv (λe=>by rw[e] at hkl;cases hkl);obtain⟨⟨J,-⟩,-,-⟩:=id r;have B:IR (i:Int):=aR H (bw u);have X:(f.map zN)[k]=⟨i,B⟩:=by rw[go,<-hie,vv B]
 refine p6 ?_;conv=>arg 2;tactic'=>exact ap (m:=[.int (i:Nat) B]) rfl rfl rfl rfl (by exact(sf bI (f.map zN) j).trans (by rw[X];rfl)) rfl
 conv=>whnf
 refine .mk (Xw Z J u λkk D ex=> ?_);obtain⟨s,hs⟩: ∃s,s=kL L v d[i]:=⟨_,rfl⟩;have A:lI d L v (f.take (k+1))=lI d L v (f.take k)++(if qj s=true then [s] else []):=by have h:=NH (CL:=d) (L:=L) (v:=v) hkl (by rw[<-hie];exact u);rw[h];congr 1;(have e:kL L v (d[f[k]]'(by rw[<-hie];exact u))=s:=by rw[hs];congr 1;simp only[hie]);rw[e]
 revert D;rw[<-hs];intro D;refine .inr ⟨[0,1,2,3,4,5,6,7],[0],[0,1,2,6,7],λvs=>⟨bR d,bT L,cz q,ab bI _,ab pb _,[.agg (snK s kk D)],[⟨.t tc,true,eM d,0⟩,⟨.t td,true,eO L,0⟩,⟨.t tt,true,kp q,0⟩,⟨.x fam,true,[],3⟩,⟨30,false,[.sli N 0 0 (ln d) Q H,.sli O 1 0 (ln L) P M],0⟩,⟨35,false,t7 v,0⟩,⟨3,W,bG bI (f.map zN),(oc-(f.map zN).length)*1⟩,o.blk pb 78],⟨fr,trivial⟩,(by(iterate 8 refine⟨⟨rfl,rfl,rfl,fr⟩,?_⟩);exact trivial),?_⟩⟩;refine zB ?_ ?_<;>intro z;have z:(!s.fits)=true:=z;have z:s.fits=false:=by cases hx:s.fits<;>simp_all
 refine zB ?_ ?_<;>intro E;have E:decide (0<=s.made)=true:=E;refine A6 ?_;exact⟨rfl,o.app pb 78 (m:=1) (by show(ln o.l+1)*5<=5000000000000;omega),λc9 k9=> dD [0,1,2,3,4,5,6,10] ⟨(⟨k+1,j⟩,o.push [s] rfl c9 k9),by rw[A,if_pos (show qj s=true by unfold qj;rw[z,E];rfl),<-y];rfl⟩⟩;have E:decide (0<=s.made)=false:=E;exact dD [0,1,2,3,4,5,6,7] ⟨(⟨k+1,j⟩,o),by rw[A,if_neg (by unfold qj;rw[E,CM];decide),bk];exact y⟩;have z:(!s.fits)=false:=z;have z:s.fits=true:=by cases hx:s.fits<;>simp_all
 exact dD [0,1,2,3,4,5,6,7] ⟨(⟨k+1,j⟩,o),by rw[A,if_neg (by unfold qj;rw[z,a6B,CO];decide),bk];exact y⟩;have R:ln f<=k:=by have:=gi j;rw[bO] at this;exact this
 rw[bX R] at y
 refine⟨3,[7],[.c (.sli o.nl 0 0 (ln o.l) o.cap o.ok),.c (.fn 38 [] [])],(λρ a0 e=>by
  show cg (SV.den ρ) [o.sl 7,.c (.fn 38 [] [])]=_
  have e0:=e 0 _ rfl
  simp only[OL.sl,cg,SV.den,C.den,C.cells,e0]),.inr rfl,⟨ab pb _,trivial⟩,o.nl,o.l,o.cap,o.ok,_,fam,rfl,rfl,?_⟩
 conv=>whnf
 have I:K (.tup [.c (.int (kq o.l).made (kq o.l).hm),.c (.val (.bool (decide ((0:Int)<(ln o.l:Nat)))))]) []:=I f o.l hi1 hi0 y;exact zO [0,1,2,3] [0,1,2] I
section
open Classical in
noncomputable def Kj (CL:List CU) (L:List GU) (CT:List Bool):List Nat:=if iZ CL L CT then l7 CL CT (ln CL) else []
def ve {CL L CT} (h:iZ CL L CT):Kj CL L CT=l7 CL CT (ln CL):=if_pos h
def T9 {CL L CT} (h: ¬iZ CL L CT):Kj CL L CT=[]:=if_neg h
def T8 {CL L CT d} (h1:iZ CL L CT->d=l7 CL CT (ln CL)) (h0: ¬iZ CL L CT->d=[]):d=Kj CL L CT:=by by_cases hv:iZ CL L CT;rw[h1 hv,ve hv];rw[h0 hv,T9 hv]
noncomputable def BR (CL:List CU) (L:List GU) (v:VW) (CT:List Bool):List SN:=lI CL L v (Kj CL L CT)
inductive Pw (CL:List CU) (L:List GU) (v:VW):List Bool->List Bool->Prop
 |stop {CT:List Bool} (h:BR CL L v CT=[]):Pw CL L v CT CT
 |step {CT R:List Bool} (h:BR CL L v CT≠[]) (hr:Pw CL L v (xI CL L CT (kq (BR CL L v CT)).made.toNat) R):Pw CL L v CT R
def yw: ∀l o,IE o l=o\/IE o l∈l
 |[],o=> .inl rfl
 |x::l,o=>by show IE (if KH x o=true then x else o) l=o\/IE (if KH x o=true then x else o) l∈x::l;split;rcases yw l x with h|h;rw[h];exact .inr aP;exact .inr (aD _ h);rcases yw l o with h|h;exact .inl h;exact .inr (aD _ h)
def GG {l} (h:l≠[]):kq l∈l:=by
 cases l with
 |nil=>exact absurd rfl h
 |cons x l=>rcases yw l x with e|e;show IE x l∈_;rw[e];exact aP;exact aD _ e
def um {CL L v}: ∀{l s},s∈lI CL L v l-> ∃i∈l,∃c,CL[i]? =some c/\qj (kL L v c)=true/\s=kL L v c
 |[],s,h=>by cases h
 |i::l,s,h=>by rw[lI] at h;rcases aT.1 h with h|h;split at h;rename_i c f;split at h;rename_i d;rw[bq] at h;exact⟨i,aP,c,f,d,h⟩;cases h;cases h;obtain⟨j,e,h⟩:=um h;exact⟨j,aD _ e,h⟩
def vg {CL CT}: ∀{n i},i∈l7 CL CT n-> ∃c,CL[i]? =some c/\nf CT c=true
 |0,i,h=>by cases h
 |n+1,i,h=>by rw[l7] at h;rcases aT.1 h with h|h;exact vg h;split at h;rename_i c e;split at h;rename_i d;rw[bq] at h;subst h;exact⟨c,e,d⟩;cases h;cases h
def oW L v c:(kL L v c).made=c.made:=by unfold kL;split<;>rfl
def VF {CL L v CT} (h:BR CL L v CT≠[]):iZ CL L CT/\0<=(kq (BR CL L v CT)).made/\(kq (BR CL L v CT)).made<(ln CT:Nat)/\CT[(kq (BR CL L v CT)).made.toNat]? =some true:=by
 have d:iZ CL L CT:=by by_cases d:iZ CL L CT;exact d;exact absurd (show lI CL L v (Kj CL L CT)=[] by rw[T9 d];rfl) h
 refine⟨d,?_⟩;have u:=GG h;obtain⟨i,o,c,p,j,q⟩:=um (show kq (BR CL L v CT)∈lI CL L v (Kj CL L CT) from u);rw[ve d] at o;obtain⟨x,g,f⟩:=vg o;rw[p] at g;cases g;have e:(kq (BR CL L v CT)).made=c.made:=by rw[q,oW]
 rw[e];unfold qj at j;rw[oW] at j;simp only[aG,decide_eq_true_eq] at j;have s:=j.2;have m:=(pG d.1.1 (dV p)).1;refine⟨s,by rw[d.2.1];exact m,?_⟩;have r:c.made.toNat<ln CT:=by rw[d.2.1];omega
 unfold nf at f;simp only[aG,dY,decide_eq_true_eq] at f;have k:xC CT c.made=true:=f.1.resolve_left om;unfold xC at k;rw[ae r] at k⊢;rw[show CT[c.made.toNat]=true from k]
def IQ {o:List Bool} {k:Nat} {b:Bool} (h:b=true->o.getD k false=true):(o.set k b).count true<=o.count true:=by
 induction o generalizing k with
 |nil=>exact ai _
 |cons x o ih=>
  cases k with
  |zero=>
   rw[yk,jX,jX]
   cases b with
   |false=>simp
   |true=>(have:x=true:=by simpa using h rfl);rw[this];exact ai _
  |succ k=>rw[yj,jX,jX];have:=ih (k:=k) (λd=>by have:=h d;simpa using this);omega
def NS (k:Nat) (o:List Bool) z:(jF k o z).count true<=o.count true:=IQ λh=>by rw[aG] at h;exact h.1
def FY k: ∀(l:List ZV) (o:List Bool),(l.foldl (jF k) o).count true<=o.count true
 |[],_=>ai _
 |z::l,o=>aC (FY k l _) (NS k o z)
def IS {o:List Bool} {k:Nat} (h:o[k]? =some true):(o.set k false).count true<o.count true:=by
 induction o generalizing k with
 |nil=>cases h
 |cons x o ih=>
  cases k with
  |zero=>(have:x=true:=by simpa using h);rw[yk,jX,jX,this];simp
  |succ k=>rw[yj,jX,jX];have:=ih (k:=k) (by simpa using h);omega
def BU CL L (CT:List Bool) m: ∀i,(ik CL L CT m i).count true<=(CT.set m false).count true
 |0=>ai _
 |i+1=>by refine aC ?_ (BU CL L CT m i);rw[ik,Cv];split;exact FY _ _ _;exact ai _
def Ro {CL L} {CT:List Bool} {m:Nat} (h:CT[m]? =some true):(xI CL L CT m).count true<CT.count true:=em (BU CL L CT m _) (IS h)
def Hm CL L CT m:(xI CL L CT m).length=ln CT:=oR CL L CT m _
def vq (k n:Nat):List Bool:=au k true++au (n-k) false
def Pd {k n} (h:k<=n):(vq k n).length=n:=by unfold vq;simp;omega
def Pe {k n} (h:k<n):(vq k n).set k true=vq (k+1) n:=by unfold vq;obtain⟨j,hj⟩: ∃j,n-k=j+1:=⟨n-k-1,om⟩;rw[hj,List.set_append_right _ _ sp,show n-(k+1)=j by omega];simp only[bb,kz,dZ,yk];rw[<-dZ,List.replicate_succ',aJ];rfl
def Pc n:vq n n=au n true:=by unfold vq;simp
end
section
variable {o A B CT:List Bool} {k m i:Nat} {CL:List CU} {L:List GU}
def gD :o.getD k false=true↔o[k]? =some true:=by
 rw[ao]
 cases o[k]?with
 |none=>simp
 |some b=>simp
def ym (D C:List Bool):Prop:= ∀k,D.getD k false=true->C.getD k false=true
def ym.anti (e:ln A=ln B) (h:ym A B) (k:ym B A):A=B:=by refine jg e λi f d=> ?_;have a:=h i;have b:=k i;rw[ao,ao,ae f,ae d] at a b;simp only[ef] at a b;cases x:A[i]<;>cases y:B[i]<;>simp_all
def getD_set_ne {j b} (h:j≠k):(o.set k b).getD j false=o.getD j false:=by rw[ao,ao,eF (Ne.symm h)]
def w5 {b} (h:k<ln o):(o.set k b).getD k false=b:=by rw[ao,pj h];rfl
def DT k {j} (h:j≠k): ∀(l:List ZV) (o:List Bool),(l.foldl (jF k) o).getD j false=o.getD j false
 |[],_=>rfl
 |z::l,o=>by rw[PE,DT k h l];exact getD_set_ne h
def LO k: ∀(l:List ZV) (o:List Bool),k<ln o->(∀z∈l,z.x.toNat≠k)->((l.foldl (jF k) o).getD k false=true↔o.getD k false=true/\ ∀z∈l,o.getD z.x.toNat false=true)
 |[],o,_,_=>⟨λh=>⟨h,λz j=>by cases j⟩,λh=>h.1⟩
 |z::l,o,hk,hl=>by (have g:k<(jF k o z).length:=by unfold jF;rw[aZ];exact hk);rw[PE,LO k l (jF k o z) g λy d=>hl y (aD _ d)];have f:(jF k o z).getD k false=(o.getD k false&&o.getD z.x.toNat false):=w5 hk;rw[f,aG];have e: ∀y∈l,(jF k o z).getD y.x.toNat false=o.getD y.x.toNat false:=λy d=>getD_set_ne (hl y (aD _ d));constructor;rintro⟨⟨a,b⟩,c⟩;refine⟨a,λy d=> ?_⟩;rcases br.1 d with rfl|d;exact b;rw[<-e y d];exact c y d;rintro⟨a,b⟩;refine⟨⟨a,b z aP⟩,λy d=> ?_⟩;rw[e y d];exact b y (aD _ d)
def S8 (h:vC CL L) (hk:k<ln L) (d:IR (k:Int)) {z} (p:z∈jN CL L[k].il):0<=z.x/\z.x.toNat<k:=by obtain⟨y,f,c,j,g,rfl⟩:=(jA CL).1 p;have e:=h.2.1.2.1 (y,zN k) ((rP GU.il L 0 (y,zN k)).2 ⟨k,hk,f,by rw[aN]⟩) c j;rw[AT d] at e;exact⟨g,by show c.made.toNat<k;omega⟩
def Lo (h:ClP CL L CT) (hk:k<ln L) (e:CT.getD k false=true) {z} (j:z∈jN CL L[k].il):CT.getD z.x.toNat false=true:=by obtain⟨y,d,c,g,f,rfl⟩:=(jA CL).1 j;exact gD.2 (h k hk (gD.1 e) y d c g f)
def Zu (h: ∀k (hk:k<ln L),CT.getD k false=true-> ∀z∈jN CL L[k].il,CT.getD z.x.toNat false=true):ClP CL L CT:=λk hk d z g c f e=>gD.1 (h k hk (gD.2 d) _ ((jA CL).2 ⟨z,g,c,f,e,rfl⟩))
def rh CL L (CT:List Bool) m: ∀i j,j<=m\/m+i<j->(ik CL L CT m i).getD j false=(CT.set m false).getD j false
 |0,_,_=>rfl
 |i+1,j,h=>by have d:j≠m+1+i:=om;rw[ik,Cv];split;rw[DT _ d,rh CL L CT m i j om];exact rh CL L CT m i j om
def nc CL L CT m i j (h:j<=m+i):(ik CL L CT m (i+1)).getD j false=(ik CL L CT m i).getD j false:=by have d:j≠m+1+i:=om;rw[ik,Cv];split;exact DT _ d _ _;rfl
def OV (h:vC CL L) (e:ln CT=ln L) (hk:m+1+i<ln L) (d:IR ((m+1+i:Nat):Int)):(ik CL L CT m (i+1)).getD (m+1+i) false=true↔CT.getD (m+1+i) false=true/\ ∀z∈jN CL L[m+1+i].il,(ik CL L CT m i).getD z.x.toNat false=true:=by rw[Ag hk,LO _ _ _ (by rw[oR,e];exact hk) λz f=>Nat.ne_of_lt (S8 h hk d f).2,rh CL L CT m i _ (.inr om),getD_set_ne om]
def Hl {CL L CT m} (h:iZ CL L CT) (hm:m<ln L) (G:IR (ln L:Int)): ∀i,m+i<ln L->
  ym (ik CL L CT m i) CT/\(ik CL L CT m i).getD m false=false/\
  (∀k (hk:k<ln L),k<=m+i->(ik CL L CT m i).getD k false=true-> ∀z∈jN CL L[k].il,(ik CL L CT m i).getD z.x.toNat false=true)/\
  ∀D,ClP CL L D->ym D CT->D.getD m false=false->ym D (ik CL L CT m i)
 |0,_=>by (have I:m<ln CT:=by rw[h.2.1];exact hm);have e:(CT.set m false).getD m false=false:=w5 I;refine⟨λk hk=> ?_,e,λk hk f r z g=> ?_,λD F y q k hk=> ?_⟩;by_cases f:k=m;subst f;exact absurd (show(CT.set k false).getD k false=true from hk) (by rw[e];decide);exact(getD_set_ne f).symm.trans hk;by_cases hkm':k=m;subst hkm';exact absurd (show(CT.set k false).getD k false=true from r) (by rw[e];decide);have J:=S8 h.1 hk (by unfold IR at*;omega) g;have H:CT.getD k false=true:=(getD_set_ne hkm').symm.trans r;show(CT.set m false).getD z.x.toNat false=true;rw[getD_set_ne om];exact Lo h.2.2 hk H g;by_cases f:k=m;subst f;rw[q] at hk;cases hk;show(CT.set m false).getD k false=true;rw[getD_set_ne f];exact y k hk
 |i+1,hi=>by obtain⟨a,b,c,d⟩:=Hl h hm G i om;have s:m+1+i<ln L:=om;(have u:IR ((m+1+i:Nat):Int):=by unfold IR at*;omega);have hnew:=OV (CT:=CT) h.1 h.2.1 s u;(have far: ∀j,m+1+i<j->(ik CL L CT m (i+1)).getD j false=(ik CL L CT m i).getD j false:=λj M=>by rw[rh CL L CT m (i+1) j (.inr om),rh CL L CT m i j (.inr om)]);refine⟨λk hk=> ?_,?_,λk hk f r z g=> ?_,λD F y q k hk=> ?_⟩;rcases iu k (m+1+i) with p|rfl|p;rw[nc CL L CT m i k om] at hk;exact a k hk;exact(hnew.1 hk).1;rw[far k p] at hk;exact a k hk;rw[nc CL L CT m i m om];exact b;have J:=S8 h.1 hk (by unfold IR at*;omega) g;rw[nc CL L CT m i z.x.toNat om];rcases cj k (m+1+i) with p|p;rw[nc CL L CT m i k om] at r;exact c k hk om r z g;obtain rfl:k=m+1+i:=om;exact(hnew.1 r).2 z g;have E:=d D F y q;rcases iu k (m+1+i) with p|rfl|p;rw[nc CL L CT m i k om];exact E k hk;exact hnew.2 ⟨y _ hk,λz g=>E _ (Lo F s hk g)⟩;rw[far k p];exact E k hk
def X8 (h:iZ CL L CT) (hm:m<ln L) (e:IR (ln L:Int)): iZ CL L (xI CL L CT m)/\ym (xI CL L CT m) CT/\(xI CL L CT m).getD m false=false/\ ∀D,ClP CL L D->ym D CT->D.getD m false=false->ym D (xI CL L CT m):=by obtain⟨a,b,c,d⟩:=Hl h hm e (ln CT-(m+1)) (by rw[h.2.1];omega);exact⟨⟨h.1,(Hm CL L CT m).trans h.2.1,Zu λk f g z j=>c k f (by rw[h.2.1];omega) g z j⟩,a,b,d⟩
def Ik (CL:List CU) (L:List GU) (v:VW) (CT:List Bool):Prop:= ∀(i:Nat) c,CL[i]? =some c->nf CT c=true->qj (kL L v c)=false
def MJ {CL CT i c} (e:CL[i]? =some c) (hs:nf CT c=true): ∀n,i<n->i∈l7 CL CT n
 |0,h=>absurd h (gh _)
 |n+1,h=>by rw[l7,aT];rcases cj i n with d|d;exact .inl (MJ e hs n d);obtain rfl:i=n:=om;right;rw[e];simp[hs]
def K1 {CL L v i c} (d:CL[i]? =some c) (hb:qj (kL L v c)=true): ∀{l},i∈l->kL L v c∈lI CL L v l
 |[],h=>by cases h
 |j::l,h=>by rw[lI,aT];rcases br.1 h with rfl|h;left;rw[d];simp[hb];exact .inr (K1 d hb h)
def a0E {v} (h:iZ CL L CT):BR CL L v CT=[]↔Ik CL L v CT:=by
 unfold BR;rw[ve h];constructor;intro e i c d p
 cases g:qj (kL L v c) with
 |false=>rfl
 |true=>have:=K1 (L:=L) (v:=v) d g (MJ d p (ln CL) (aw.1 d).1);rw[e] at this;cases this
 intro q;refine ed.2 λs p=> ?_;obtain⟨i,r,c,d,g,-⟩:=um p;obtain⟨u,f,j⟩:=vg r;rw[d] at f;cases f;rw[q i c d j] at g;cases g
def vS CT x:xC CT x=CT.getD x.toNat false:=by unfold xC;rw[ao]
def VE {v} {D:List Bool} (f:Ik CL L v D) (hs:ym D CT) {c:CU} (g:CL[i]? =some c) (d:c.used<0\/CT.getD c.used.toNat false=false) (hb:qj (kL L v c)=true):D.getD c.made.toNat false=false:=by
 cases e:D.getD c.made.toNat false with
 |false=>rfl
 |true=>
  have:nf D c=true:=vf (.inr (by rw[vS];exact e)) (by
   rcases d with d|d
   exact .inl (decide_eq_true d)
   right;rw[vS]
   cases e2:D.getD c.used.toNat false with
   |false=>rfl
   |true=>rw[hs _ e2] at d;cases d)
  rw[f i c g this] at hb;cases hb
def Io (CL:List CU) (L:List GU) (v:VW) (CT:List Bool):Prop:=iZ CL L CT/\ ∀D,iZ CL L D->Ik CL L v D->ym D CT
def UI {v} (h:Io CL L v CT) (e:IR (ln L:Int)) {c} (j:CL[i]? =some c) (hm:0<=c.made) (q:c.used<0\/CT.getD c.used.toNat false=false) (hb:qj (kL L v c)=true):Io CL L v (xI CL L CT c.made.toNat):=by have p:=(pG h.1.1.1 (dV j)).1;obtain⟨a,-,-,d⟩:=X8 h.1 (m:=c.made.toNat) om e;exact⟨a,λD g f=>d D g.2.2 (h.2 D g f) (VE f (h.2 D g f) j q hb)⟩
def KW {v} (h:vC CL L):Io CL L v (au (ln L) true):=by
 refine⟨⟨h,bb,Zu λk d _ z p=> ?_⟩,λD j _ k d=> ?_⟩;obtain⟨y,q,c,g,r,rfl⟩:=(jA CL).1 p;have f:=(pG h.1 (dV g)).1;rw[ao,ae (by rw[bb];show c.made.toNat<_;omega),b0w];rfl;have hkl:k<ln L:=by rcases cj k (ln D) with e|e;rw[<-j.2.1];exact e;rw[ao,bi e] at d;cases d
 rw[ao,ae (by rw[bb];exact hkl),b0w];rfl
def PD (CL:List CU) (L:List GU) (v:VW) (CT:List Bool):Prop:=Io CL L v CT/\Ik CL L v CT
def a3r {v} (h:PD CL L v A) (k:PD CL L v B):A=B:=ym.anti (h.1.1.2.1.trans k.1.1.2.1.symm) (k.1.2 A h.1.1 h.2) (h.1.2 B k.1.1 k.2)
def Ln {v} (p:IR (ln L:Int)) {R} (h:Pw CL L v CT R):Io CL L v CT->PD CL L v R:=by
 induction h with
 |stop h=>exact λg=>⟨g,(a0E g.1).1 h⟩
 | @step CT R h hr ih=>intro g;apply ih;have u:=GG h;obtain⟨i,s,c,r,j,y⟩:=um (show kq (BR CL L v CT)∈lI CL L v (Kj CL L CT) from u);rw[ve g.1] at s;obtain⟨z,f,d⟩:=vg s;rw[r] at f;cases f;(have e:(kq (BR CL L v CT)).made=c.made:=by rw[y,oW]);rw[e];(have x:0<=c.made:=by unfold qj at j;rw[oW] at j;simp only[aG,decide_eq_true_eq] at j;exact j.2);refine UI g p r x ?_ j;unfold nf at d;simp only[aG,dY,decide_eq_true_eq,Bool.not_eq_true'] at d;rcases d.2 with q|q;exact .inl q;exact .inr (by rw[<-vS];exact q)
end
section
variable {f:GU->List ZV} {L:List GU} {CL:List CU}
end
def a4t:ic:={vA 0 s9 with O:=En qo (lR qo)}
def GA:iU prog a4t:=⟨(cm eR 0).T,(cm eR 0).D,nH eD (gy eD),(cm eR 0).R,(cm eR 0).X⟩
section
variable {CL:List CU}
def bn {b} (h:(!b)=false):b=true:=by cases b<;>simp_all
def bt {b} (h:(!b)=true):b=false:=by cases b<;>simp_all
end
section
variable {CL:List CU} {k:Nat} {L:List GU}
def a0W:cP:=λd e K=> ∃f CL c1 h1 n2 L c2 h2 fam tc td,d=[.agg [.sli f 0 0 (ln CL) c1 h1,.sli n2 1 0 (ln L) c2 h2]]/\e=[⟨.t tc,true,eM CL,0⟩,⟨.t td,true,eO L,0⟩,⟨.x fam,true,[],3⟩]/\(∀g∈L,g.Ok fam)/\ ∀b,(b=true↔vC CL L)->K (.c (.val (.bool b))) []
def a7E {a b:Nat} (h:(!decide ((a:Int)=(b:Int)))=false):a=b:=by have:=bo6 h;omega
def a7F {a b:Nat} (h:(!decide ((a:Int)=(b:Int)))=true): ¬a=b:=λe=>by have:=bo5 h;omega
end
def MC: ∀n:Nat,au n (C.val (.bool false))=kp (au n false)
 |0=>rfl
 |n+1=>by rw[dZ,MC n];rfl
def a3b l {k} (hk:k<ln l) b:ga (kp l) (0+k*1) [.val (.bool b)]=some (kp (l.set k b)):=by rw[qy,qy];exact iH bY l hk b
def Dh:cP:=λe f K=> ∃h d p r k L j i fam m q v,e=[.agg [.sli h 0 0 (ln d) p r,.sli k 1 0 (ln L) j i],.agg (t7 v)]/\f=[⟨.t m,true,eM d,0⟩,⟨.t q,true,eO L,0⟩,⟨.x fam,true,[],3⟩]/\((∀c∈d,c.Ok fam)/\ ∀g∈L,g.Ok fam)/\ln d<=100000000000/\ln L<=1000000000/\
 ∀o:OL Bool,(vC d L->Pw d L v (au (ln L) true) o.l)->(¬vC d L->o.l=[])->K (o.sl 3) [o.blk bY 4]
def Pj {CL L}:iZ CL L (au (ln L) false)↔vC CL L:=by constructor;exact λh=>h.1;refine λh=>⟨h,bb,λk e d=> ?_⟩;rw[gT,if_pos e] at d;cases d
def FZ:pd prog 14 Dh:=iA (nC 0) bj (lP (.cons Du (.cons RF (.cons RI .nil))) (ck (nC 0) bj bg 0)) ⟨func14,kr,kr⟩ λa5 a6 K U=>by
 obtain⟨u,d,D,y,x,L,B,s,fam,tc,td,v,rfl,rfl,⟨a1,X⟩,Q,a2,U⟩:=U;refine⟨zD,?_⟩;conv=>whnf
 refine .inl ⟨rfl,ln L,ln L,rfl,rfl,ai _,a2,λF=> ?_⟩;rw[show tU (ln L) zb=_ from MC (ln L)]
 refine⟨2,[0,1,5],[.agg [.sli u 0 0 (ln d) D y,.sli x 1 0 (ln L) B s],.c (.sli false 2 0 (ln (au (ln L) false)) (ln L) (by rw[bb];exact F))],(λm P e=>by
  show cg (SV.den m) [.agg [.sli u 0 0 (ln d) D y,.sli x 1 0 (ln L) B s],.c (.sli false 5 0 (ln L) (ln L) F)]=_
  have T:=e 0 _ rfl
  have H:=e 1 _ rfl
  have I:=e 2 _ rfl
  simp only[cg,SV.den,C.den,C.cells,T,H,I,aL,bF,af,bb]),.inr rfl,⟨bR d,bT L,cz _,trivial⟩,u,d,D,y,x,L,B,s,false,(au (ln L) false),ln L,(by rw[bb];exact F),fam,_,_,_,rfl,rfl,X,λb hb=> ?_⟩
 rw[Pj] at hb;refine zB ?_ ?_<;>intro hz;have W: ¬vC d L:=λh=>by rw[hb.2 h] at hz;cases hz
 exact zO [0,1,2,1000+ 4] [0,1] (v3:=OL.none.sl 3) (U OL.none (λh=>absurd h W) fr);have W:vC d L:=hb.1 (by cases b with|true=>rfl|false=>cases hz);conv=>whnf
 refine zK [0,1,2,3,4,5] [2,3,5,17,18,19] [0,1,5] (G:={k:Nat//k<=ln L}) (λg=>[(19,.c (.int (g.1:Nat) (aR F g.2)))]) (λg=>[(5,⟨4,false,kp (vq g.1 (ln L)),ln L-ln L⟩)]) (λg=>ln L-g.1) ⟨0,ah _⟩ trivial ?_;rintro ⟨k,M⟩ vs6;have M:k<=ln L:=M;dsimp only;refine zB ?_ ?_<;>intro j;have j:k<ln L:=dL j;refine p6 ?_;conv=>arg 2;tactic'=>exact bM (l:=[.val (.bool true)]) (cs:=kp ((vq k (ln L)).set k true)) rfl rfl rfl rfl (⟨rfl,rfl⟩) rfl rfl (by exact a3b _ (by rw[Pd M];exact j) true)
 conv=>whnf
 rw[bV,Pe j];exact dD [0,1,2,3,4,5] ⟨k+1,j⟩;have V:ln L<=k:=gi j;obtain rfl:k=ln L:=bo M V;rw[Pc];conv=>whnf
 refine zK [0,1,2,3,4,5] [2,3,5] [0,1,5] (G:={o:OL Bool//ln o.l=ln L/\ ∀R,Pw d L v o.l R->Pw d L v (au (ln L) true) R}) (λg=>[(5,g.1.sl 5)]) (λg=>[(5,⟨4,g.1.nl,kp g.1.l,(g.1.cap-ln g.1.l)*1⟩)]) (λg=>g.1.l.count true) ⟨(OL.mk (au (ln L) true) false (ln L) (by rw[bb];exact F)),bb,λR h=>h⟩ trivial ?_ (hent:=λ_ a4=>⟨bR d,bT L,cz _,(by exact⟨fr,fr,fr,fr,fr,λm=>(by simp only[OL.sl,SV.den,C.den,C.cells,bb]),gm _⟩),(by(iterate 5 refine⟨⟨rfl,rfl,rfl,fr⟩,?_⟩);refine⟨⟨rfl,rfl,(show (ln L)-ln L=(ln L-(au (ln L) true).length)*1 by rw[bb,gE]),fr⟩,?_⟩;exact trivial)⟩);rintro ⟨o,E,z⟩ a4;have E:ln o.l=ln L:=E;have z: ∀R,Pw d L v o.l R->Pw d L v (au (ln L) true) R:=z;dsimp only
 refine⟨2,[0,1,5],[.agg [.sli u 0 0 (ln d) D y,.sli x 1 0 (ln L) B s],.c (.sli o.nl 2 0 (ln o.l) o.cap o.ok),.agg (t7 v)],(λm P e=>by
  show cg (SV.den m) [.agg [.sli u 0 0 (ln d) D y,.sli x 1 0 (ln L) B s],o.sl 5,.agg (t7 v)]=_
  have T:=e 0 _ rfl
  have H:=e 1 _ rfl
  have I:=e 2 _ rfl
  simp only[OL.sl,cg,SV.den,C.den,C.cells,T,H,I,aL,bF,af]
  rfl),.inr rfl,⟨bR d,bT L,cz _,trivial⟩,u,d,D,y,x,L,B,s,o.nl,o.l,o.cap,o.ok,fam,_,_,_,v,rfl,rfl,⟨a1,X⟩,Q,λis f Y a0 i=> ?_⟩
 obtain rfl:=T8 Y a0;have i:f=BR d L v o.l:=i;refine zB ?_ ?_<;>intro r;have r:(!decide ((0:Int)<(ln f:Nat)))=true:=r;have r: ¬(0:Int)<(ln f:Nat):=bo5 (p:=(0:Int)<(ln f:Nat)) r;have A:f=[]:=aU om;exact⟨[0,1,2,5],[0,1,3],λa9=>⟨bR d,bT L,cz _,_,[o.blk bY 4],rfl,⟨⟨rfl,rfl,rfl,fr⟩,⟨rfl,rfl,rfl,fr⟩,⟨rfl,rfl,rfl,fr⟩,⟨rfl,rfl,rfl,λm=>(show af m (kp o.l)=af m (bG bY o.l) by rw[qy])⟩,trivial⟩,⟨OL.new o bY _,trivial⟩,o.sl 3,fr,U o (λ_=>z _ (.stop (by rw[<-i];exact A))) (λh=>absurd W h)⟩⟩;have r:(!decide ((0:Int)<(ln f:Nat)))=false:=r;have r:(0:Int)<(ln f:Nat):=bo6 (p:=(0:Int)<(ln f:Nat)) r;have A:BR d L v o.l≠[]:=λe=>by rw[i,e] at r;cases r
 obtain⟨Z,O,J,N⟩:=VF A;rw[<-i] at O J N
 refine⟨2,[0,1,5],[.agg [.sli u 0 0 (ln d) D y,.sli x 1 0 (ln L) B s],.c (.sli o.nl 2 0 (ln o.l) o.cap o.ok),.c (.int (kq f).made (kq f).hm)],(λm P e=>by
  show cg (SV.den m) [.agg [.sli u 0 0 (ln d) D y,.sli x 1 0 (ln L) B s],o.sl 5,.c (.int (kq f).made (kq f).hm)]=_
  have T:=e 0 _ rfl
  have H:=e 1 _ rfl
  have I:=e 2 _ rfl
  simp only[OL.sl,cg,SV.den,C.den,C.cells,T,H,I,aL,bF,af]),.inr rfl,⟨bR d,bT L,cz _,trivial⟩,u,d,D,y,x,L,B,s,o.nl,o.l,o.cap,o.ok,fam,_,_,_,(kq f).made,(kq f).hm,rfl,rfl,X,om,λo2 q _=> ?_⟩
 have q:=q ⟨O,J,Z⟩;exact dD [0,1,2,3,4,6] ⟨o2,by rw[q,Hm,E],λR h=>z R (.step A (by rw[<-i,<-q];exact h))⟩ (hm:=(by rw[q];exact Ro N)) (h:=λa7=>⟨bR d,bT L,ab bY _,gm _,(by(iterate 5 refine⟨⟨rfl,rfl,rfl,fr⟩,?_⟩);refine⟨⟨rfl,rfl,rfl,λm=>(show af m (bG bY o2.l)=af m (kp o2.l) by rw[qy])⟩,?_⟩;exact trivial)⟩)
structure CuT (fam:List mq) (c:CU):Prop where
 n:c.s.n=ln c.tl
 at_:c.tl=[]\/(bZ false c.s.n c.s.c/\ ∃r o,c.s.a=some ⟨r,o,none⟩/\pg fam (r,o) (bG bU c.tl))
 h:IR (c.s.n:Nat)
def Fn.cut {fam c} (h:Fn fam c):CuT fam c:=⟨h.n,.inr ⟨h.ok,h.at_⟩,h.ok.ir⟩
def H3: ∀l:List TR,fy l=bG bU l
 |[]=>rfl
 |t::l=>by rw[fy,H3 l];rfl
def CuT.ok {fam c} (h:CuT fam c):c.Ok fam:=⟨⟨h.n,by
 rcases h.at_ with e|⟨-,r,o,e1,e2⟩
 exact .inl e
 exact .inr ⟨r,o,e1,by rw[H3];exact e2⟩⟩,h.h⟩
def a3U:cP:=λd e K=> ∃(f CL c1 h1 n2 L c2 h2 fam tc td:_) (q:Nat) (hc v:_) (hq:q<ln CL),d=[.agg [.sli f 0 0 (ln CL) c1 h1,.sli n2 1 0 (ln L) c2 h2],.c (.int (q:Nat) hc),.agg (t7 v)]/\e=[⟨.t tc,true,eM CL,0⟩,⟨.t td,true,eO L,0⟩,⟨.x fam,true,[],3⟩]/\(CuT fam CL[q]/\CL[q].made<(ln L:Int))/\K (.c (.val (.bool (kL L v CL[q]).fits))) []
end Go.Proofs.YtlgcobafjbajdaaGreatDoor
