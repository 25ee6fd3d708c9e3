/- w -/
import Derived.Test.YtlgcobafjbajdaaGreatDoorJ01
import Derived.Test.YtlgcobafjbajdaaGreatDoorJ12
import Derived.Test.YtlgcobafjbajdaaGreatDoorJ07
import Derived.Test.YtlgcobafjbajdaaGreatDoorRows
import Derived.ChangeSlices
import Derived.ProofKit
import Derived.OpenShut
import Derived.Carry
import Derived.LaidMore
import Derived.Lay
import Derived.SevenTiedAt
import Derived.Stop.Joined
namespace Go.Proofs.YtlgcobafjbajdaaGreatDoor
open Go.Proofs.Tryz
open Go.RowKit
open Bool renaming not_eq_true'→dE
open IntKind renaming i64→ix,wrap→wr
open List renaming length→ln,map→cg
open _root_.Array renaming toArray_toList→mh
set_option linter.all false
set_option maxRecDepth 100000
set_option maxHeartbeats 32000000
section
variable {CL:List CU} {CT:List Bool}
end
def Zi:cP:=λd e K=> ∃f A c1 h1 n2 B c2 h2 ta tb,d=[.c (.sli f 0 0 (ln A) c1 h1),.c (.sli n2 1 0 (ln B) c2 h2)]/\e=[⟨.t ta,true,bG bY A,0⟩,⟨.t tb,true,bG bY B,0⟩]/\K (.c (.val (.bool (decide (A=B))))) []
def a0I {a b:Bool} (h:(!decide (a=b))=false):a=b:=by cases a<;>cases b<;>simp_all
def a0J {a b:Bool} (h:(!decide (a=b))=true): ¬a=b:=by cases a<;>cases b<;>simp_all
def a1e:jv prog 13 Zi:=cV GA bj (ck GA bj bg 0) ⟨func13,kr,kr⟩ λx E K p=>by
 obtain⟨N,A,I,y,O,B,L,F,H,J,rfl,rfl,p⟩:=p;refine⟨zD,?_⟩;refine zB ?_ ?_<;>intro q;exact⟨[0,1],[0,1],λf=>⟨ab bY A,ab bY B,_,[],rfl,gz _,trivial,.c (.val (.bool (decide (A=B)))),λo=>jD ((decide_eq_false λe=>a7F q (by rw[e])).symm) o,p⟩⟩;have q:ln A=ln B:=a7E q;conv=>whnf
 refine zK [0,1] [0,1,5] [0,1] (G:={k:Nat//k<=ln A/\ ∀i,i<k->A[i]? =B[i]?}) (λg=>[(5,.c (.int (g.1:Nat) (aR y g.2.1)))]) (λ_=>[]) (λg=>ln A-g.1) ⟨0,ah _,λi h=>absurd h (gh _)⟩ trivial ?_;rintro ⟨k,s,d⟩ vs2;have s:k<=ln A:=s;have d: ∀i,i<k->A[i]? =B[i]? :=d;dsimp only;refine zB ?_ ?_<;>intro j;have m:k<ln A:=dL j;have r:k<ln B:=om;have D:IR (k:Int):=aR y s;refine wM ?_;refine zB ?_ ?_<;>intro u;exact⟨[0,1],[0,1],λf=>⟨ab bY A,ab bY B,_,[],rfl,gz _,trivial,.c (.val (.bool (decide (A=B)))),λo=>jD ((decide_eq_false λe=>by subst e;exact a0J u rfl).symm) o,p⟩⟩;exact dD [0,1] ⟨k+1,m,λi M=>(cj i k).elim (d i) λg=>by rw[show i=k by omega,ae m,ae r,a0I u]⟩;have z:ln A<=k:=gi j;exact⟨[0,1],[0,1],λf=>⟨ab bY A,ab bY B,_,[],rfl,gz _,trivial,.c (.val (.bool (decide (A=B)))),λo=>jD ((decide_eq_true (List.ext_getElem? λi=>(cj i k).elim (d i) λg=>by rw[bi om,bi om])).symm) o,p⟩⟩

section
variable {err:Int} {L:List GU} {CL:List CU}
def a6y {f p d} (h:o7 f p d err=false):0<err:=by unfold o7 at h;simp only[Bool.or_eq_false_iff,decide_eq_false_iff_not] at h;omega
def IX j m i hx hy o g e k f:0<=Vd j m i hx hy o g e k f:=by
 have d: ∀a:Int,0<=a*a:=λa=>by rcases Int.le_total 0 a with h|h;exact Int.mul_nonneg h h;exact Int.mul_nonneg_of_nonpos_of_nonpos h h
 unfold Vd;exact Int.add_nonneg (Int.add_nonneg (d _) (d _)) (d _)
def FN v b g:0<=yz v b g:=IX _ _ _ _ _ _ _ _ _ _
def Ck {a b:Int} (h0:0<=a) (h:a<=b):a*a<=b*b:=dM (o8 h h0) (nO h (dM h0 h))
def UZ {f p d p2 e:Int} (g:0<=e) (i:d<=f) (hp:p<=p2) (h:o7 f p e err=true):o7 d p2 e err=true:=by unfold o7 at*;simp only[dY,aG,dE,decide_eq_true_eq,decide_eq_false_iff_not] at*;rcases h with(h|h)|⟨o,h2⟩;exact .inl (.inl h);exact .inl (.inr om);by_cases he:err<=0;exact .inl (.inl he);by_cases h3:d<=0;exact .inl (.inr h3);refine .inr ⟨om,?_⟩;have k:err*d<=err*f:=o8 i om;have j:0<=err*d:=Int.mul_nonneg om om;have m:p*p<=p2*p2:=Ck om hp;exact dM (Ck j k) (dM h2 (nO m g))
def Sp {v w CT} (q:w.e=v.e) (m:w.f<=v.f) (hp:v.p<=w.p) (h:Ik CL L v CT):Ik CL L w CT:=by
 intro i c s r;have g:=h i c s r
 cases hk:qj (kL L w c) with
 |false=>rfl
 |true=>
  exfalso;unfold qj at g hk;rw[oW] at g hk;simp only[aG,dE,decide_eq_true_eq] at hk
  have j:(kL L v c).fits=true:=by
   cases e:(kL L v c).fits with
   |true=>rfl
   |false=>rw[e] at g;simp[hk.2] at g
  have d:=hk.1;unfold kL at j d
  cases hl:c.tl with
  |nil=>rw[hl] at d;cases d
  |cons t l=>rw[hl] at j d;(have k:yz w (qk ⟨t.a,t.a⟩ (t::l)) (pV L c).1=yz v (qk ⟨t.a,t.a⟩ (t::l)) (pV L c).1:=by unfold yz;rw[q]);have d:o7 w.f w.p (yz w (qk ⟨t.a,t.a⟩ (t::l)) (pV L c).1) (pV L c).1=false:=d;have o:o7 w.f w.p (yz v (qk ⟨t.a,t.a⟩ (t::l)) (pV L c).1) (pV L c).1=true:=UZ (FN _ _ _) m hp j;rw[k,o] at d;cases d
def UH {v w A B} (d:w.e=v.e) (g:w.f<=v.f) (hp:v.p<=w.p) (h:PD CL L v A) (k:PD CL L w B):ym A B:=k.1.2 A h.1.1 (Sp d g hp h.2)
end
section
variable {L:List GU}
def a0N:cP:=λd e K=> ∃f CL c1 h1 n2 L c2 h2 fam tc td,d=[.agg [.sli f 0 0 (ln CL) c1 h1,.sli n2 1 0 (ln L) c2 h2]]/\e=[⟨.t tc,true,eM CL,0⟩,⟨.t td,true,eO L,0⟩,⟨.x fam,true,[],3⟩]/\ln L<=1000000000/\ ∀o:OL Bool,o.l=List.replicate (ln L) true->K (o.sl 3) [o.blk bY 4]
end
section
variable {o:List Bool} {k:Nat} {CL:List CU} {L:List GU}
structure UpI (CL:List CU) (L:List GU) (k:Nat) (o:List Bool):Prop where
 len:ln o=ln L
 cl: ∀i (h:i<ln L),k<=i->o.getD i false=true-> ∀z∈jN CL L[i].il,o.getD z.x.toNat false=true
end
section
variable {k:Nat} {o:List Bool}
end
section
variable {CL:List CU} {L:List GU} {CT C0:List Bool} {j:Nat}
def a09 (o:List Bool):Nat:=o.count true
structure RdI (CL:List CU) (L:List GU) (v:VW) (k:Nat) (CT:List Bool):Prop where
 top:Io CL L v CT
 fit:Ik CL L v CT\/a09 CT+k<=ln L
structure InI (CL:List CU) (L:List GU) (v:VW) (C0:List Bool) (j:Nat) (CT:List Bool):Prop where
 top:Io CL L v CT
 sub:ym CT C0
 st:(CT=C0/\ ∀i∈(l7 CL C0 (ln CL)).take j,∀c,CL[i]? =some c->qj (kL L v c)=false)\/a09 CT+1<=a09 C0
end
def uC:List (FuncId×cP):=[(25,a0W),(21,a0N),(31,Q9),(32,a3U),(22,Lk)]
structure ChG (CL:List CU) (L:List GU) (v:VW) where
 k:Nat
 o:OL Bool
 hk:k<=ln L+1
 rd:RdI CL L v k o.l
structure ChJ (CL:List CU) (L:List GU) (v:VW) (C0:List Bool) (n:Nat) where
 j:Nat
 p:OL Bool
 hj:j<=n
 inn:InI CL L v C0 j p.l
section
variable {L:List GU} {CL:List CU} {q k:Nat}
end
section
variable {r s p q:Nat} {R:List Bool}
def ptE x y z (hx:IR x:=by decide) (hy:IR y:=by decide) (hz:IR z:=by decide):PT:=⟨x,y,z,hx,hy,hz⟩
def Ky:TR:=⟨ptE 1 0 0,ptE 0 1 0,ptE 0 0 1⟩
def swE (r:Nat):SW:=⟨some ⟨r,0,none⟩,1,1⟩
def zE n (h:IR n:=by decide):ZV:=⟨n,h⟩
def xD (r s:Nat):List CU:=[⟨swE r,-1,0,[Ky],dc,dc⟩,⟨swE s,0,-1,[Ky],dc,dc⟩]
def wZ (p q:Nat):List GU:=[⟨0,swE p,swE q,⟨none,0,0⟩,15,15,false,⟨#[]⟩,[zE 0],[zE 1],dc,dc,dc⟩]
def zN0:zN 0=zE 0:=vv dc
def Sw r s p q:vC (xD r s) (wZ p q):=by
 refine⟨rfl,⟨?_,?_,?_⟩,λi j=> ?_⟩;show wN [(zE 0,zN 0)];simp[wN];intro e d c f;have d:e∈[(zE 0,zN 0)]:=d;rw[bq] at d;subst d;rw[zN0];have f:(xD r s)[0]? =some c:=f;cases f;show(-1:Int)<0;decide;show wN [(zE 1,zN 0)];simp[wN];have h:dI GU.il 0 (wZ p q)=[(zE 0,zE 0)]:=by rw[<-zN0];rfl
 have g:dI GU.ol 0 (wZ p q)=[(zE 1,zE 0)]:=by rw[<-zN0];rfl
 rw[h,g];rcases i with _|_|i;exact⟨.inl ⟨(by decide:(0:Int)<=0),_,bq.2 rfl,rfl,rfl⟩,.inr ⟨(by decide:(-1:Int)<0),λe d=>by rw[bq] at d;subst d;decide⟩⟩;exact⟨.inr ⟨(by decide:(-1:Int)<0),λe d=>by rw[bq] at d;subst d;decide⟩,.inl ⟨(by decide:(0:Int)<=0),_,bq.2 rfl,rfl,rfl⟩⟩;exact absurd j (by simp[xD])
def a4D r s p q b:iZ (xD r s) (wZ p q) [b]:=by
 refine⟨Sw r s p q,rfl,λk g _ z d c e f=> ?_⟩;obtain rfl:k=0:=by have:(wZ p q).length=1:=rfl;omega
 have d:z∈[zE 0]:=d;rw[bq] at d;subst d;have e:(xD r s)[0]? =some c:=e;cases e;exact absurd (show(0:Int)<= -1 from f) dc
def Fm x y z f p (hx:IR x:=by decide) (hy:IR y:=by decide) (hz:IR z:=by decide) (hf:IR f:=by decide) (hp:IR p:=by decide):VW:=⟨⟨x,y,z,hx,hy,hz⟩,f,p,hf,hp⟩
def a1V r s p q v b:BR (xD r s) (wZ p q) v [b]=lI (xD r s) (wZ p q) v (l7 (xD r s) [b] 2):=by unfold BR;rw[ve (a4D r s p q b)];rfl
def LQ r s p q: ∃t:SN,BR (xD r s) (wZ p q) (Fm 0 0 0 1 1) [true]=[t]/\t.made=0:=by rw[a1V];exact⟨kL (wZ p q) (Fm 0 0 0 1 1) ⟨swE s,0,-1,[Ky],dc,dc⟩,rfl,rfl⟩
def W7 r s p q:BR (xD r s) (wZ p q) (Fm 0 0 0 1 1) [false]=[]:=by rw[a1V];rfl
def a4A r s p q:BR (xD r s) (wZ p q) (Fm 1000 0 0 1 1) [true]=[]:=by rw[a1V];rfl
def a4C r s p q:xI (xD r s) (wZ p q) [true] 0=[false]:=rfl
def a4z (h:Pw (xD r s) (wZ p q) (Fm 0 0 0 1 1) [true] R):R=[false]:=by
 obtain⟨t,d,e⟩:=LQ r s p q
 cases h with
 |stop h=>rw[d] at h;cases h
 |step h hr=>
  rw[d,show kq [t]=t from rfl,e,show(0:Int).toNat=0 from rfl,a4C] at hr
  cases hr with
  |stop h=>rfl
  |step h hr=>exact absurd (W7 r s p q) h
def a4y (h:Pw (xD r s) (wZ p q) (Fm 1000 0 0 1 1) [true] R):R=[true]:=by
 cases h with
 |stop h=>rfl
 |step h hr=>exact absurd (a4A r s p q) h
def Sv {fam} (h1:pg fam (r,0) (fy [Ky])) (h2:pg fam (s,0) (fy [Ky])): ∀c∈xD r s,c.Ok fam:=λc d=>by simp only[xD,br,cd,or_false] at d;rcases d with rfl|rfl;exact⟨⟨rfl,.inr ⟨r,0,rfl,h1⟩⟩,(by decide:IR ((1:Nat):Int))⟩;exact⟨⟨rfl,.inr ⟨s,0,rfl,h2⟩⟩,(by decide:IR ((1:Nat):Int))⟩
def Su {fam} (h1:pg fam (p,0) (qh [zE 0])) (h2:pg fam (q,0) (qh [zE 1])): ∀g∈wZ p q,g.Ok fam:=λg d=>by simp only[wZ,br,cd,or_false] at d;subst d;exact⟨⟨rfl,.inr ⟨p,0,rfl,h1⟩⟩,⟨rfl,.inr ⟨q,0,rfl,h2⟩⟩,(by decide:IR ((1:Nat):Int)),(by decide:IR ((1:Nat):Int))⟩
end
section
variable {H:FuncId->List SV->List aY->(SV->List aY->Prop)->Prop} {f:FuncId} {fn:Func}
def TH {P:Program} {E:ic} (k:iU P E) (hm:P.follows .mixedOrders=true) (q:ko P H) (p:iM P f fn) {args:List SV} {v:SV} (d: ∀ρ ρ',v.den ρ=v.den ρ') (g: ∀ρ ρ',args.map (SV.den ρ)=args.map (SV.den ρ')) (h:A5 E H fn args [] λu _=> ∀ρ,u.den ρ=v.den ρ) (ρ:fF) (w:World): Calls P f (args.map (SV.den ρ)).toArray w λe w'=>e= .returned (v.den ρ)/\Below w.heap.size w w':=by have m:dv w.heap.size ⟨w,λ_=>False,ρ,0⟩ (an []) ρ w:=⟨λi b h=>by simp[an] at h,λi b h=>by simp[an] at h,λi j b c h=>by simp[an] at h,λρ _ i b h=>by simp[an] at h,sR.refl _ _,ai _,λi h=>h.elim,λi b e h=>by simp[an] at h,λi j b c h=>by simp[an] at h,λi b o l e h=>by simp[an] at h⟩;refine(sG k hm q p h w.heap.size _ ρ w m (λρ' _=>g ρ' ρ)).mono ?_;rintro e w' ⟨u,hp',ρ1,hu,hh',-,he⟩;have:=he ρ1 (gt.refl _ _);exact⟨by rw[this,hu ρ1,d ρ1 ρ],hh'.bel.below⟩
def a3a {E:ic} (i:iU prog E) (r:ko prog H) (g:iM prog f fn) {d:Dn}
  (h: ∀args p v,d args=some (p,v)->(∀ρ ρ',v.den ρ=v.den ρ')/\(∀ρ ρ',args.map (SV.den ρ)=args.map (SV.den ρ'))/\((∀q,p=some q->q)->A5 E H fn args [] λu _=> ∀ρ,u.den ρ=v.den ρ)):dW prog f d:=
 ⟨g.callable,λargs p v j=>by
  obtain⟨e,k,m⟩:=h args p v j
  exact⟨e,λo ρ w=>TH i bj r g e k (m o) ρ w⟩⟩
end
def a0l:List (FuncId×cP):=[(19,Zn),(14,Dh)]
def UT:vB prog a0l:= .cons RF<| .cons FZ .nil
def hS:FuncId->List SV->List aY->(SV->List aY->Prop)->Prop:=w7 (hfz (hsm (LU a0l (inl (a1K 0) Mh 0))) 4)
def a4H:ko prog hS:=SG (SH (a2a (lP UT (ck (nC 0) bj bg 0))) 4)
def a1W r s:bZ false (xD r s).length 2:=(by decide:bZ false 2 2)
def a1X p q:bZ false (wZ p q).length 1:=(by decide:bZ false 1 1)
def a1Y r s:(xD r s).length<=100000000000:=(by decide:2<=100000000000)
def a4B p q:(wZ p q).length<=1000000000:=(by decide:1<=1000000000)
def Jj:Dn
 |[]=>some (none,.c (.val (.bool true)))
 |_=>none
def Yy:dW prog 10 Jj:=a3a (nC 0) a4H ⟨func10,kr,kr⟩ λD p v y=>by
 unfold Jj at y;split at y;cases y;refine⟨ff,ff,λ_=> ?_⟩;conv=>whnf
 right;conv=>whnf
 refine .inr ⟨12,4,6,⟨ff,rfl,rfl⟩,λh=> ?_⟩;conv=>whnf
 refine .inr ⟨12,5,6,⟨ff,rfl,rfl⟩,λf=> ?_⟩;conv=>whnf
 refine .inr ⟨12,7,9,⟨ff,rfl,rfl⟩,λg=> ?_⟩;conv=>whnf
 refine .inr ⟨12,8,9,⟨ff,rfl,rfl⟩,λd=> ?_⟩;conv=>whnf
 refine .inr ⟨[.agg [.sli false 6 0 2 2 dc,.sli false 9 0 1 1 dc],.c (.sli false 11 0 1 1 dc),.agg (t7 (Fm 0 0 0 1 1))],[⟨33,false,[.int 50 dc,.int 0 dc,.int 0 dc],0⟩,⟨33,false,[.int 60 dc,.int 10 dc,.int 10 dc],0⟩,⟨35,false,t7 (Fm 0 0 0 100 2),0⟩,⟨35,false,t7 (Fm 55 5 5 1 1),0⟩,⟨.t 0,true,[],0⟩,⟨.t 0,true,[],0⟩,⟨55,false,eM (xD h f),0⟩,⟨.t 0,true,[],0⟩,⟨.t 0,true,[],0⟩,⟨63,false,eO (wZ g d),0⟩,⟨30,false,[.sli false 6 0 2 2 dc,.sli false 9 0 1 1 dc],0⟩,⟨4,false,[.val (.bool true)],0⟩,⟨.x [⟨(h,0),fy [Ky], 58,0⟩,⟨(f,0),fy [Ky], 58,0⟩,⟨(g,0),qh [zE 0], 3,0⟩,⟨(d,0),qh [zE 1], 3,0⟩],true,[],2⟩],gm _,(by(iterate 9 refine⟨mL _,?_⟩);refine⟨⟨rfl,rfl,rfl,λj=>(by simp[af,eO,guC,wZ,SW.v,swE,C.cells,jK,qQ])⟩,?_⟩;exact gz _),?_⟩
 refine⟨12,[6,9,11],[.agg [.sli false 0 0 2 2 dc,.sli false 1 0 1 1 dc],.c (.sli false 2 0 1 1 dc),.agg (t7 (Fm 0 0 0 1 1))],(λj m e=>by
  show cg (SV.den j) [.agg [.sli false 6 0 2 2 dc,.sli false 9 0 1 1 dc],.c (.sli false 11 0 1 1 dc),.agg (t7 (Fm 0 0 0 1 1))]=_
  have q:=e 0 _ rfl
  have k:=e 1 _ rfl
  have G:=e 2 _ rfl
  simp only[cg,SV.den,C.den,C.cells,q,k,G,aL,bF,af]
  rfl),.inl rfl,⟨bR (xD h f),bT (wZ g d),ff,trivial⟩,false,xD h f,2,a1W _ _,false,wZ g d,1,a1X _ _,false,[true],1,dc,_,_,_,_,Fm 0 0 0 1 1,rfl,rfl,⟨Sv (fam:=_) ⟨_,aP,rfl,rfl⟩ ⟨_,aD _ aP,rfl,rfl⟩,Su (fam:=_) ⟨_,aD _ (aD _ aP),rfl,rfl⟩ ⟨_,aD _ (aD _ (aD _ aP)),rfl,rfl⟩⟩,a1Y _ _,λQ L M H z=> ?_⟩
 obtain rfl:=T8 M H;obtain⟨s,F,A⟩:=LQ h f g d;obtain rfl:L=[s]:=z.trans F;refine zl3 ?_
 refine⟨12,[6,9],[.agg [.sli false 0 0 2 2 dc,.sli false 1 0 1 1 dc],.agg (t7 (Fm 0 0 0 1 1))],(λj m e=>by
  show cg (SV.den j) [.agg [.sli false 6 0 2 2 dc,.sli false 9 0 1 1 dc],.agg (t7 (Fm 0 0 0 1 1))]=_
  have q:=e 0 _ rfl
  have k:=e 1 _ rfl
  simp only[cg,SV.den,C.cells,q,k,aL,bF,af]
  rfl),.inl rfl,⟨bR (xD h f),bT (wZ g d),trivial⟩,false,xD h f,2,a1W _ _,false,wZ g d,1,a1X _ _,_,_,_,Fm 0 0 0 1 1,rfl,rfl,⟨Sv (fam:=_) ⟨_,aP,rfl,rfl⟩ ⟨_,aD _ aP,rfl,rfl⟩,Su (fam:=_) ⟨_,aD _ (aD _ aP),rfl,rfl⟩ ⟨_,aD _ (aD _ (aD _ aP)),rfl,rfl⟩⟩,a1Y _ _,a4B _ _,λo i P=> ?_⟩
 have i:=a4z (i (Sw h f g d));obtain⟨R,O,B,J⟩:=o;dsimp only at i;subst i;refine zl3 ?_
 refine⟨12,[6,9],[.agg [.sli false 0 0 2 2 dc,.sli false 1 0 1 1 dc],.agg (t7 (Fm 1000 0 0 1 1))],(λj m e=>by
  show cg (SV.den j) [.agg [.sli false 6 0 2 2 dc,.sli false 9 0 1 1 dc],.agg (t7 (Fm 1000 0 0 1 1))]=_
  have q:=e 0 _ rfl
  have k:=e 1 _ rfl
  simp only[cg,SV.den,C.cells,q,k,aL,bF,af]
  rfl),.inl rfl,⟨bR (xD h f),bT (wZ g d),trivial⟩,false,xD h f,2,a1W _ _,false,wZ g d,1,a1X _ _,_,_,_,Fm 1000 0 0 1 1,rfl,rfl,⟨Sv (fam:=_) ⟨_,aP,rfl,rfl⟩ ⟨_,aD _ aP,rfl,rfl⟩,Su (fam:=_) ⟨_,aD _ (aD _ aP),rfl,rfl⟩ ⟨_,aD _ (aD _ (aD _ aP)),rfl,rfl⟩⟩,a1Y _ _,a4B _ _,λu i P=> ?_⟩
 have i:=a4y (i (Sw h f g d));obtain⟨T,I,E,N⟩:=u;dsimp only at i;subst i;refine zB ?_ ?_<;>intro r;have r:decide (s.made=0)=true:=r;conv=>whnf
 exact λj=>jD rfl j;have r:decide (s.made=0)=false:=r;exact absurd A (of_decide_eq_false r);cases y
def QG:List (FuncId×Dn):=(10,Jj)::IB
def vN:dU QG:= .cons Yy vM
def Bb {T f ev hp t x y} (ho:f= .slice t x none (some y) none) {sz h z e d g eq} (hT:T t=some ⟨sz,h,z,.slice e d g,eq⟩) {a n c} (hx:ev x= .c (.val (.slice a n c))) {k hi} (hk:ev y= .c (.int k hi)) (hlt:k<=c):mf T f ev hp=some (.val (.c (.val (.slice a k c)))):=by subst ho;simp only[mf,hT,hx,Option.map,lW,hk];show(if k<=c then _ else _)=_;rw[if_pos hlt]
def a4Z (n:Nat):minI (n:Int) 3=((min n 3:Nat):Int):=by unfold minI;split<;>omega
def ZI n:IR ((min n 3:Nat):Int):=ui
def a2c {a b d hb} (e:a=b):(SV.c (.int a d))=SV.c (.int b hb):=by subst e;rfl
def stX:List (FuncId×cP):=[(28,QW)]
def a3d:vB prog stX:= .cons Wg .nil
def Zp:cP:=λd f K=> ∃(s:SW) (A fam0 x y:_),d=[.agg [.val (.slice s.a s.n s.c),.val (.int .u8 x),.val (.int .u8 y)]]/\f=[⟨.x fam0,true,[],3⟩]/\((tP fam0 ⟨s.a,min s.n 3,s.c⟩ A/\IR (s.n:Nat)/\s.n<=s.c)/\(0<=x/\x<256)/\(0<=y/\y<256))/\
 ∀(e:OL CU) (oG:OL GU) fam,Po fam e.l oG.l->K (.agg [e.ch 1,oG.ch 2]) [e.blk ju 55,oG.blk ki 63,⟨.x fam,true,[],2⟩]
def GuP.ok9 {fam g} (h:GuP fam g):g.Ok fam:=by obtain⟨⟨x,f,k,s⟩,⟨y,j,i,q⟩,-⟩:=h;have m:=f.ok;have e:=j.ok;rw[k,s] at m;rw[i,q] at e;refine⟨m,e,?_,?_⟩;obtain⟨p,r,o,d,-⟩:=f;rw[<-k,x.hn];exact d.ir;obtain⟨p,r,o,d,-⟩:=j;rw[<-i,y.hn];exact d.ir
structure GrK (fam:List mq) (CL:List CU) (L:List GU):Prop where
 ct: ∀c∈CL,CuT fam c
 co: ∀c∈CL,c.Ok fam
 gk: ∀g∈L,g.Ok fam
 sn:vC CL L
 cn:ln CL<=100000000000
 ln:ln L<=36864
def Po.grk {fam CL L} (h:Po fam CL L):GrK fam CL L:=by have i:=h.cnt;have e:=h.ll;exact⟨λc d=>(h.cu c d).cut,λc d=>(h.cu c d).cut.ok,λg f=>(h.gu g f).ok9,VN h.bld,om,e⟩
def Ig {a b c d e} (h:IR a) (hb:IR b) (i:IR c) (f:IR d) (g:IR e):VW:=⟨⟨a.tmod 524288,b.tmod 524288,c.tmod 524288,h.tmod _,hb.tmod _,i.tmod _⟩,d.tmod 5000,e.tmod 50,f.tmod _,g.tmod _⟩
def a3R {x:Int} (h:0<=x/\x<256):0<=IntKind.i64.wrap (15+IntKind.i64.wrap (x.tmod 4))/\IntKind.i64.wrap (15+IntKind.i64.wrap (x.tmod 4))<=100:=by have d:0<=x.tmod 4:=Int.tmod_nonneg 4 h.1;have e:x.tmod 4<4:=Int.tmod_lt_of_pos x dc;rw[cN (z:=x.tmod 4) ui,cN ui];omega
def a1l:pd prog 11 Zp:=iA (cm vN 0) bj (qJ a3d (ck (cm vN 0) bj bg 0)) ⟨func11,kr,kr⟩ λargs ros K hc=>by
 obtain⟨s,A,fam0,x,y,rfl,rfl,⟨⟨hok,hsi,hcap⟩,hx,hy⟩,hc⟩:=hc;refine⟨λρ ρ' _=>rfl,?_⟩;conv=>whnf
 conv=>arg 2;tactic'=>exact eC rfl rfl rfl rfl rfl rfl hsi
 conv=>whnf
 conv=>arg 2;tactic'=>exact Bb (k:=min s.n 3) (hi:=ZI _) rfl rfl rfl (a2c (a4Z _)) (by exact om)
 exact⟨0,.inr rfl,trivial,⟨s.a,min s.n 3,s.c⟩,A,fam0,_,_,_,_,rfl,rfl,⟨hok,ZI _⟩,a3R hx,λoC oG fam hg=> zO [0,3,4,5] [1,2] (hc oC oG fam hg)⟩
def a7y:List (FuncId×cP):=[(13,Zi)]
def Xt:iL prog a7y:= .cons a1e .nil
def a1I:ic:=vA 0 QG
def B5:iU prog a1I:=cm vN 0
section
open Go.ChangeShapes Go.WideShapes Go.ChangeAt Go.RowKit
def own:ownKnob Tryz.prog.godebug=none:=kr
def Xr:laidOutB Tryz.prog=true:=kr
section
variable {H:Type} {enc:TypeId×Value->H}
def sO {W i} (hb:Below W.heap.size W i) {g}: ∀{ts vs ds ps},DataW.TrodAll enc Tryz.prog W 0 (λ_=>true) true ts vs ds ps->
  (∀t∈ts, Tryz.prog.readableRec t=true/\t< Tryz.prog.types.size)->(∀x∈ps,x.block<W.heap.size)->(∀x∈ps,g x.block=true)->DataW.TrodAll enc Tryz.prog i 0 g true ts vs ds ps
 |[],[],[],_,h,_,_,_=>h
 |t::ts,v::vs,d::ds,ps,h,ht,hlt,hsp=>by obtain⟨p,q,k,j,rfl⟩:=h;exact⟨p,q,WideElems.Trod_stays Xr (ht t aP).1 (ht t aP).2 k (λx e=>hb.same (hlt x (gc _ e))) (λx e=>hsp x (gc _ e)),sO hb j (λt f=>ht t (aD _ f)) (λx e=>hlt x (gG _ e)) (λx e=>hsp x (gG _ e)),rfl⟩
 |[],_::_,_,_,h,_,_,_=>h.elim
 |[],[],_::_,_,h,_,_,_=>h.elim
 |_::_,[],_,_,h,_,_,_=>by cases‹List (DataW H)›<;>exact h.elim
 |_::_,_::_,[],_,h,_,_,_=>h.elim
variable {w:World} {base:Nat} {sp:Nat->Bool} {held:Bool}
def oh {t} (g: Tryz.prog.underlying t=some (.int .i64)) {d c x} (h:DataW.trod enc Tryz.prog w base sp held d t [c]=some x): ∃z,c= .int .i64 z/\IR z:=by obtain⟨z,e,_,f⟩:=DataW.trod_int g h;have:=bounds_i64 f;exact⟨z,by simpa using e,this⟩
def u3: Tryz.prog.underlying 3 =some (.int .i64):=kr
def AI {t e n k} (o: Tryz.prog.underlying t=some (.array n e)) (hk: Tryz.prog.cellsOf e=k) {d l x} (h:DataW.trod enc Tryz.prog w base sp held d t l=some x): ln l= Tryz.prog.cellsOf t/\ ∀i,i<n-> ∃m y,DataW.trod enc Tryz.prog w base sp held m e ((l.drop (i*k)).take k)=some y:=by obtain⟨j,m,_,_,g,q,f⟩:=DataW.trod_array o h;refine⟨g,λi p=> ?_⟩;have:=f i p;rw[hk] at this;exact⟨m,j[i]' om,this.trans (ae om)⟩
def u6 {t e n} (d: Tryz.prog.underlying t=some (.array n e)) {b0 v} (h:Value.okWide Tryz.prog w .any b0 t v): ∃cs:Array Value,v= .agg cs:=by unfold Value.okWide at h;rw[d] at h;obtain⟨cs,e,_⟩:=h;exact⟨cs,e⟩
def a1r: Tryz.prog.cellsOf 3 =1:=kr
def N1: Tryz.prog.cellsOf 25 =5:=kr
def Dm {e l x} (h:DataW.trod enc Tryz.prog w base sp held e 25 l=some x): ∃v0 v1 v2 v3 v4,l=[.int .i64 v0,.int .i64 v1,.int .i64 v2,.int .i64 v3,.int .i64 v4]/\IR v0/\IR v1/\IR v2/\IR v3/\IR v4:=by
 obtain⟨k,d⟩:=AI Tryz.underlying25 a1r h;rw[N1] at k;clear h
 match l,k with
 |[E,a1,a2,a3,a4],_=>
  obtain⟨z,D,g⟩:=d 0 dc
  change DataW.trod enc Tryz.prog w base sp held z 3 [E]=some D at g
  obtain⟨A,r,j⟩:=d 1 dc
  change DataW.trod enc Tryz.prog w base sp held A 3 [a1]=some r at j
  obtain⟨p,J,f⟩:=d 2 dc
  change DataW.trod enc Tryz.prog w base sp held p 3 [a2]=some J at f
  obtain⟨q,s,m⟩:=d 3 dc
  change DataW.trod enc Tryz.prog w base sp held q 3 [a3]=some s at m
  obtain⟨G,B,i⟩:=d 4 dc
  change DataW.trod enc Tryz.prog w base sp held G 3 [a4]=some B at i
  obtain⟨v0,rfl,y⟩:=oh u3 g
  obtain⟨v1,rfl,o⟩:=oh u3 j
  obtain⟨v2,rfl,F⟩:=oh u3 f
  obtain⟨v3,rfl,u⟩:=oh u3 m
  obtain⟨v4,rfl,I⟩:=oh u3 i
  exact⟨v0,v1,v2,v3,v4,rfl,y,o,F,u,I⟩
def Hb {b0 v d ps} (f:Value.okWide Tryz.prog w .any b0 25 v) (j:DataW.Trod enc Tryz.prog w base sp held 25 v d ps): ∃v0 v1 v2 v3 v4,v= .agg #[.int .i64 v0,.int .i64 v1,.int .i64 v2,.int .i64 v3,.int .i64 v4]/\IR v0/\IR v1/\IR v2/\IR v3/\IR v4:=by obtain⟨i,rfl⟩:=u6 Tryz.underlying25 f;obtain⟨g,h⟩:=j;obtain⟨v0,v1,v2,v3,v4,e,k⟩:=Dm h;refine⟨v0,v1,v2,v3,v4,?_,k⟩;have e:i.toList=[.int .i64 v0,.int .i64 v1,.int .i64 v2,.int .i64 v3,.int .i64 v4]:=e;rw[<-mh (xs:=i),e]
def a51: Tryz.prog.underlying 5 =some (.int .u8):=kr
def F7: Tryz.prog.cellsOf 5 =1:=kr
def uw {d c x} (h:DataW.trod enc Tryz.prog w base sp held d 5 [c]=some x): ∃z,c= .int .u8 z/\0<=z/\z<256:=by
 obtain⟨z,e,_,f⟩:=DataW.trod_int a51 h;have f:(0:Int)<=z/\z<=255:=by simpa[Lit.wf,IntKind.min,IntKind.max,IntKind.signed,IntKind.bits] using f
 exact⟨z,by simpa using e,f.1,om⟩
end
def yE ρ: ∀L:List ZV,af ρ (qh L)=L.map λz=>Value.int .i64 z.x
 |[]=>rfl
 |z::l=>by rw[qh,cO,yE ρ l];rfl
def Pn L:cC (qh L):=by rw[KK];exact ab bI L
section
variable {H:Type} {enc:TypeId×Value->H} {w:World} {held:Bool}
def Ri {a v} (h:w.cell? a=some v): ∃x:Obj,w.heap[a.block]? =some x/\x.isCells=true:=by unfold World.cell? at h;split at h;rename_i c e f d;exact⟨_,d,rfl⟩;cases h
def JZ {q cs x} (h:DataW.trod enc Tryz.prog w 0 (λ_=>true) held q 22 cs=some x): ∃(s:SW) (A fam0:_),cs=[.slice s.a s.n s.c]/\(tP fam0 ⟨s.a,min s.n 3,s.c⟩ A/\IR (s.n:Nat)/\s.n<=s.c)/\ ∀e∈fam0,iV w.heap.size w false e:=by
 rcases open_ints Tryz.underlying22 u3 kr h with⟨i,_⟩|⟨a,len,p,zs,i,_,I,N,M,_,d,G⟩;exact⟨⟨none,0,0⟩,[],[],i,⟨⟨rfl,.inl rfl⟩,dc,ai _⟩,λe u=>by cases u⟩;simp only[if_true] at M;have k:IR ((len:Nat):Int):=bZ.ir (nl:=false) ⟨I,N,λh=>by cases h⟩;by_cases h0:len=0;subst h0;exact⟨⟨some a,0,p⟩,[],[],i,⟨⟨rfl,.inl rfl⟩,k,I⟩,λe u=>by cases u⟩;obtain⟨B,y,o⟩:=a;have m:o=none:=by simpa[Addr.add] using World.cell?_spot (d 0 om)
 subst m;have g: ∀z∈zs.take (min len 3),IR z:=λz f=>by have:=bounds_i64 (G z (sY f));exact this
 have r:((zs.take (min len 3)).pmap (λz h=>(⟨z,h⟩:ZV)) g).map (λz=>Value.int .i64 z.x)=(zs.take (min len 3)).map (Value.int .i64):=by rw[List.map_pmap];exact List.pmap_eq_map g
 obtain⟨x,J,E⟩:=Ri (d 0 om);refine⟨⟨some ⟨B,y,none⟩,len,p⟩,(zs.take (min len 3)).pmap (λz h=>(⟨z,h⟩:ZV)) g,[⟨(B,y),qh ((zs.take (min len 3)).pmap (λz h=>(⟨z,h⟩:ZV)) g),0,0⟩],i,⟨⟨by rw[List.length_pmap,aO];show min len 3=_;omega,.inr ⟨B,y,rfl,⟨_,bq.2 rfl,rfl,rfl⟩⟩⟩,k,I⟩,λe u=> ?_⟩;obtain rfl:=bq.1 u;refine⟨Pn _,⟨x,J,E⟩,λh=>(by cases h),λj v D=> ?_,λ_=>(aE.1 J).1⟩;have D:(af (λ_=>(0,0)) (qh ((zs.take (min len 3)).pmap (λz h=>(⟨z,h⟩:ZV)) g)))[j]? =some v:=D;rw[yE,r,gA] at D;obtain⟨z,f,rfl⟩:=Option.map_eq_some_iff.1 D;rw[gb] at f;split at f;have F:j<ln zs:=(aw.1 f).1;have L:=d j F;rw[Addr.add_lit] at L;show w.cell? ⟨B,y+j,none⟩=_;rw[L,ao,f];rfl;cases f
def J0 {b0 v d ps} (f:Value.okWide Tryz.prog w .any b0 24 v) (D:DataW.Trod enc Tryz.prog w 0 (λ_=>true) held 24 v d ps): ∃(s:SW) (A fam0 x y:_),v=(SV.den (λ_=>(0,0)) (.agg [.val (.slice s.a s.n s.c),.val (.int .u8 x),.val (.int .u8 y)]))/\((tP fam0 ⟨s.a,min s.n 3,s.c⟩ A/\IR (s.n:Nat)/\s.n<=s.c)/\(0<=x/\x<256)/\(0<=y/\y<256))/\ ∀e∈fam0,iV w.heap.size w false e:=by
 obtain⟨r,rfl,_⟩:=okWide_struct Tryz.underlying24 f;obtain⟨g,h⟩:=D
 have key: ∀l:List Value,DataW.trod enc Tryz.prog w 0 (λ_=>true) held g 24 l=some (d,ps)-> ∃(s:SW) (A fam0 x y:_),l=[.slice s.a s.n s.c,.int .u8 x,.int .u8 y]/\((tP fam0 ⟨s.a,min s.n 3,s.c⟩ A/\IR (s.n:Nat)/\s.n<=s.c)/\(0<=x/\x<256)/\(0<=y/\y<256))/\ ∀e∈fam0,iV w.heap.size w false e:=λl h=>by
  obtain⟨z,n,_,_,u,q,p⟩:=DataW.trod_struct Tryz.underlying24 h;have F: Tryz.prog.cellsOf 24 =3:=kr;have cS: Tryz.prog.cellsOf 22 =1:=kr;rw[F] at u
  match l,u with
  |[i,a1,a2],_=>
   have q:ln z=3:=q
   match z,q with
   |[B,y1,y2],_=>
    have k:=p 0 _ rfl
    have m:=p 1 _ rfl
    have j:=p 2 _ rfl
    change DataW.trod enc Tryz.prog w 0 (λ_=>true) held n 22 (([i,a1,a2].drop 0).take (Tryz.prog.cellsOf 22))=some B at k
    change DataW.trod enc Tryz.prog w 0 (λ_=>true) held n 5 (([i,a1,a2].drop 1).take (Tryz.prog.cellsOf 5))=some y1 at m
    change DataW.trod enc Tryz.prog w 0 (λ_=>true) held n 5 (([i,a1,a2].drop 2).take (Tryz.prog.cellsOf 5))=some y2 at j
    rw[cS] at k
    rw[F7] at m j
    change DataW.trod enc Tryz.prog w 0 (λ_=>true) held n 22 [i]=some B at k
    change DataW.trod enc Tryz.prog w 0 (λ_=>true) held n 5 [a1]=some y1 at m
    change DataW.trod enc Tryz.prog w 0 (λ_=>true) held n 5 [a2]=some y2 at j
    obtain⟨s,A,fam0,E,J,o⟩:=JZ k
    obtain⟨x,rfl,L⟩:=uw m
    obtain⟨y,rfl,G⟩:=uw j
    obtain rfl:i=_:=by simpa using E
    exact⟨s,A,fam0,x,y,rfl,⟨J,L,G⟩,o⟩
 obtain⟨s,A,fam0,x,y,e,I⟩:=key r.toList h;refine⟨s,A,fam0,x,y,?_,I⟩;rw[<-mh (xs:=r),e];rfl
end
end
def l5X:List (FuncId×cP):=[(11,Zp),(14,Dh)]
def a2i:vB prog l5X:= .cons a1l<| .cons FZ .nil
def Zl:cP:=λd e K=> ∃(s:SW) (A fam0 x y q0 q1 q2 q3 q4 hq0 hq1 hq2 hq3 hq4 b0 b1:_),d=[.agg [.val (.slice s.a s.n s.c),.val (.int .u8 x),.val (.int .u8 y)],.agg [.int q0 hq0,.int q1 hq1,.int q2 hq2,.int q3 hq3,.int q4 hq4],.agg [.val (.int .u8 b0),.val (.int .u8 b1)]]/\e=[⟨.x fam0,true,[],3⟩]/\(((tP fam0 ⟨s.a,min s.n 3,s.c⟩ A/\IR (s.n:Nat)/\s.n<=s.c)/\(0<=x/\x<256)/\(0<=y/\y<256))/\(0<=b0/\b0<256)/\(0<=b1/\b1<256))/\K (.c (.val (.bool true))) []
def bt2 {b} (h:(!b)=true):b=false:=by cases b<;>simp_all
def YG {A B} (h:ym A B) {k} (e:k<ln A) (f:k<ln B) (d:A[k]=true):B[k]=true:=by have:=h k (by rw[ao,ae e];exact d);rw[ao,ae f] at this;exact this
def HU {a:Int} {n:Int} (d:0<n): -n<a.tmod n/\a.tmod n<n:=by have:=Int.tmod_lt_of_pos a d;exact⟨Int.lt_tmod_of_pos a d,this⟩
def a53 {d b:Int} (h:0<=b/\b<256):wr ix (d.tmod 5000-wr ix b)<=d.tmod 5000:=by have:=HU (a:=d) (n:=5000) dc;rw[cN (z:=b) ui,cN ui];omega
def a54 {d b:Int} (h:0<=b/\b<256):d.tmod 50<=wr ix (d.tmod 50+wr ix b):=by have:=HU (a:=d) (n:=50) dc;rw[cN (z:=b) ui,cN ui];omega
def a2v {a b:Nat} (h:(!decide ((a:Int)=(b:Int)))=true):a≠b:=λe=>by subst e;simp at h
def IV:pd prog 7 Zl:=iA B5 bj (lP a2i (dX Xt (ck B5 bj bg 0))) ⟨func7,kr,kr⟩ λV a0 K Q=>by
 obtain⟨s,A,H,x,y,q0,q1,q2,q3,q4,m,h,i,j,d,b0,b1,rfl,rfl,⟨L,P,M⟩,Q⟩:=Q;refine⟨λI F _=>rfl,0,[],[.agg [.val (.slice s.a s.n s.c),.val (.int .u8 x),.val (.int .u8 y)]],(λ_ _ _=>rfl),.inr rfl,trivial,s,A,H,x,y,rfl,rfl,L,λq o fam hg=> ?_⟩;conv=>whnf
 have r:=hg.grk;have a5:=r.ln;have a1:=r.cn;have E:IR ((ln o.l:Nat):Int):=o.ok.ir
 refine⟨6,[4,5],[.agg [.sli q.nl 0 0 (ln q.l) q.cap q.ok,.sli o.nl 1 0 (ln o.l) o.cap o.ok],.agg (t7 (Ig m h i j d))],(λI F e=>by
  show cg (SV.den I) [.agg [.sli q.nl 4 0 (ln q.l) q.cap q.ok,.sli o.nl 5 0 (ln o.l) o.cap o.ok],.agg (t7 (Ig m h i j d))]=_
  have U:=e 0 _ rfl
  have J:=e 1 _ rfl
  simp only[cg,SV.den,C.cells,U,J,aL,bF,af]
  rfl),.inl rfl,⟨ab ju _,ab ki _,trivial⟩,q.nl,q.l,q.cap,q.ok,o.nl,o.l,o.cap,o.ok,fam,_,_,(Ig m h i j d),rfl,(by rw[Dv,DX]),⟨r.co,r.gk⟩,r.cn,om,λD z _=> ?_⟩
 refine⟨6,[4,5],[.agg [.sli q.nl 0 0 (ln q.l) q.cap q.ok,.sli o.nl 1 0 (ln o.l) o.cap o.ok],.agg (t7 (⟨(Ig m h i j d).e,wr ix ((Ig m h i j d).f-wr ix b0),wr ix ((Ig m h i j d).p+wr ix b1),el _,el _⟩:VW))],(λI F e=>by
  show cg (SV.den I) [.agg [.sli q.nl 4 0 (ln q.l) q.cap q.ok,.sli o.nl 5 0 (ln o.l) o.cap o.ok],.agg (t7 (⟨(Ig m h i j d).e,wr ix ((Ig m h i j d).f-wr ix b0),wr ix ((Ig m h i j d).p+wr ix b1),el _,el _⟩:VW))]=_
  have U:=e 0 _ rfl
  have J:=e 1 _ rfl
  simp only[cg,SV.den,C.cells,U,J,aL,bF,af]
  rfl),.inl rfl,⟨ab ju _,ab ki _,trivial⟩,q.nl,q.l,q.cap,q.ok,o.nl,o.l,o.cap,o.ok,fam,_,_,(⟨(Ig m h i j d).e,wr ix ((Ig m h i j d).f-wr ix b0),wr ix ((Ig m h i j d).p+wr ix b1),el _,el _⟩:VW),rfl,(by rw[Dv,DX]),⟨r.co,r.gk⟩,r.cn,om,λR B _=> ?_⟩
 conv=>whnf
 have X:=Ln E (z r.sn) (KW r.sn);have W:=Ln E (B r.sn) (KW r.sn);have N:ln D.l=ln R.l:=X.1.1.2.1.trans W.1.1.2.1.symm;have O:=UH (v:=(Ig m h i j d)) (w:=⟨(Ig m h i j d).e,wr ix ((Ig m h i j d).f-wr ix b0),wr ix ((Ig m h i j d).p+wr ix b1),el _,el _⟩) rfl (a53 P) (a54 M) X W;refine zB ?_ ?_<;>intro h4;exact absurd N (a2v h4);refine zK [0,10,11] [7,11,12,13] [1,2] (G:={k:Nat//k<=ln D.l}) (λg=>[(13,.c (.int (g.1:Nat) (aR D.ok g.2)))]) (λ_=>[]) (λg=>ln D.l-g.1) ⟨0,ah _⟩ trivial ?_;rintro ⟨k,hk⟩ va2;dsimp only;refine zB ?_ ?_<;>intro Z;have u:k<ln D.l:=dL Z;have T:k<ln R.l:=om;refine eS ?_;refine zB ?_ ?_<;>intro h1;refine eS ?_;refine zB ?_ ?_<;>intro Y;exact absurd (YG O u T h1) (by rw[bt2 (b:=R.l[k]) Y];decide);exact dD [0,1,2] ⟨k+1,u⟩;exact dD [0,1,2] ⟨k+1,u⟩;exact⟨[0],[],λa4=>⟨_,[],rfl,gz _,trivial,.c (.val (.bool true)),λI=>rfl,Q⟩⟩
section
open Go.ChangeShapes Go.WideShapes Go.ChangeAt Go.RowKit
section
variable {H:Type} {enc:TypeId×Value->H}
variable {w:World} {base:Nat} {sp:Nat->Bool} {held:Bool}
def F6: Tryz.prog.cellsOf 50 =2:=kr
def yF {d l x} (h:DataW.trod enc Tryz.prog w base sp held d 50 l=some x): ∃v0 v1,l=[.int .u8 v0,.int .u8 v1]/\(0<=v0/\v0<256)/\(0<=v1/\v1<256):=by
 obtain⟨f,e⟩:=AI Tryz.underlying50 F7 h;rw[F6] at f;clear h
 match l,f with
 |[m,a1],_=>
  obtain⟨o,j,i⟩:=e 0 dc
  change DataW.trod enc Tryz.prog w base sp held o 5 [m]=some j at i
  obtain⟨q,r,g⟩:=e 1 dc
  change DataW.trod enc Tryz.prog w base sp held q 5 [a1]=some r at g
  obtain⟨v0,rfl,p⟩:=uw i
  obtain⟨v1,rfl,k⟩:=uw g
  exact⟨v0,v1,rfl,p,k⟩
def Bo {b0 v d ps} (f:Value.okWide Tryz.prog w .any b0 50 v) (j:DataW.Trod enc Tryz.prog w base sp held 50 v d ps): ∃v0 v1,v= .agg #[.int .u8 v0,.int .u8 v1]/\(0<=v0/\v0<256)/\(0<=v1/\v1<256):=by obtain⟨i,rfl⟩:=u6 Tryz.underlying50 f;obtain⟨g,h⟩:=j;obtain⟨v0,v1,e,k⟩:=yF h;refine⟨v0,v1,?_,k⟩;have e:i.toList=[.int .u8 v0,.int .u8 v1]:=e;rw[<-mh (xs:=i),e]
end
def NQ {f:FuncId} (N:pd Tryz.prog f Zl) {s:SW} {A:List ZV} {d:List mq} {x y z D F E B:Int} (p:IR z) (k:IR D) (r:IR F) (m:IR E) (q:IR B) (J:(tP d ⟨s.a,min s.n 3,s.c⟩ A/\IR (s.n:Nat)/\s.n<=s.c)/\(0<=x/\x<256)/\(0<=y/\y<256)) (w:World) (G: ∀e∈d,iV w.heap.size w false e) {b0 b1:Int} (H:0<=b0/\b0<256) (M:0<=b1/\b1<256): Calls Tryz.prog f #[SV.den (λ_=>(0,0)) (.agg [.val (.slice s.a s.n s.c),.val (.int .u8 x),.val (.int .u8 y)]),SV.den (λ_=>(0,0)) (.agg [.int z p,.int D k,.int F r,.int E m,.int B q]),SV.den (λ_=>(0,0)) (.agg [.val (.int .u8 b0),.val (.int .u8 b1)])] w λe w'=>e= .returned (.bool true)/\Below w.heap.size w w':=by
 refine(N.2 [.agg [.val (.slice s.a s.n s.c),.val (.int .u8 x),.val (.int .u8 y)],.agg [.int z p,.int D k,.int F r,.int E m,.int B q],.agg [.val (.int .u8 b0),.val (.int .u8 b1)]] [⟨.x d,true,[],3⟩] (λu _=>u= .c (.val (.bool true))) ⟨s,A,d,x,y,z,D,F,E,B,p,k,r,m,q,b0,b1,rfl,rfl,⟨J,H,M⟩,rfl⟩ ⟨⟨rfl,rfl⟩,trivial⟩ ⟨ff,trivial⟩ (λ_=>(0,0)) w (λi c g=> ?_) (λi b o l e g I L=> ?_) (λi b o l g I=> ?_)).mono ?_;rcases i with _|i<;>simp[an] at g;subst g;exact λj v h=>by simp[af] at h
 rcases i with _|i<;>simp[an] at g;subst g;cases I;exact G e L;rcases i with _|i<;>simp[an] at g;subst g;cases I;rfl;rintro e w' ⟨u,news,σ,rfl,_,hh,_,L⟩;exact⟨L σ (gt.refl _ _),hh.bel.below⟩
end
end Go.Proofs.YtlgcobafjbajdaaGreatDoor
