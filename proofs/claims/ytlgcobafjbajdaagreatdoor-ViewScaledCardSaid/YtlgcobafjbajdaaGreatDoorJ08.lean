/- w -/
import Derived.Test.YtlgcobafjbajdaaGreatDoorJ01
import Derived.Test.YtlgcobafjbajdaaGreatDoorJ07
import Derived.Test.YtlgcobafjbajdaaGreatDoorJ05
namespace Go.Proofs.YtlgcobafjbajdaaGreatDoor
open Tryz
open Go.RowKit
open List renaming append_assoc→aJ,cons→AV,length→ln
set_option linter.all false
set_option maxRecDepth 100000
set_option maxHeartbeats 32000000
def vU:Dn
 |[.agg [.int x1 _,.int y1 _,.int z1 _],.agg [.int x2 _,.int y2 _,.int z2 _],.agg [.int x3 _,.int y3 _,.int z3 _]]=>
  some (none,.agg [.int (xB ⟨x1,y1,z1⟩ ⟨x2,y2,z2⟩ ⟨x1,y1,z1⟩ ⟨x3,y3,z3⟩).x.sign (fX _),.int (xB ⟨x1,y1,z1⟩ ⟨x2,y2,z2⟩ ⟨x1,y1,z1⟩ ⟨x3,y3,z3⟩).y.sign (fX _),.int (xB ⟨x1,y1,z1⟩ ⟨x2,y2,z2⟩ ⟨x1,y1,z1⟩ ⟨x3,y3,z3⟩).z.sign (fX _)])
 |_=>none
def Kq:dW prog 204 vU:=dC (un:=20) (n:=0) ⟨func204,kr,kr⟩ BL bg λq p v d=>by
 unfold vU at d;split at d;rename_i A j x m y i u f s e z h D g r k B o;cases d;refine⟨[.agg [.int A j,.int x m,.int y i],.agg [.int u f,.int s e,.int z h],.agg [.int D g,.int r k,.int B o]],fr,ff,ff,λ_=> ?_⟩;conv=>whnf
 exact λ_=>rfl;cases d
def Iw:List (FuncId×Dn):=(204,vU)::Qp
def vG:dU Iw:= .cons Kq<|BL
abbrev Gm:ic:=Se 20 Iw [] (λi=>i==12) noR
def Gn:iU prog Gm:=Oj vG .nil 20 _ a2x
def Z5 {a b c d e f M N h hb r j g p h1 h2 o m i s} (k:V3.mk a b c=M) (q:V3.mk d e f=N) ρ:(SV.tup [.agg [.int a h,.int b hb,.int c r],.agg [.int d j,.int e g,.int f p]]).den ρ=(SV.tup [.agg [.int M.x h1,.int M.y h2,.int M.z o],.agg [.int N.x m,.int N.y i,.int N.z s]]).den ρ:=by subst k;subst q;rfl
def YS {x1 y1 z1 x2 y2 z2:Int} hx1 hy1 hz1 hx2 hy2 hz2 (ty cap:Nat) hs:A5 Gm (inl Gm Mh 0) f221 [.c (.sli false 0 0 2 cap hs)] [⟨ty,true,[.int x1 hx1,.int y1 hy1,.int z1 hz1,.int x2 hx2,.int y2 hy2,.int z2 hz2],0⟩] λu _=> ∀ρ,u.den ρ=(SV.tup [.agg [.int (ep ⟨x1,y1,z1⟩ ⟨x2,y2,z2⟩).x (fl (p:=⟨x1,y1,z1⟩) (q:=⟨x2,y2,z2⟩) hx1 hy1 hz1 hx2 hy2 hz2).1,.int (ep ⟨x1,y1,z1⟩ ⟨x2,y2,z2⟩).y (fl (p:=⟨x1,y1,z1⟩) (q:=⟨x2,y2,z2⟩) hx1 hy1 hz1 hx2 hy2 hz2).2.1,.int (ep ⟨x1,y1,z1⟩ ⟨x2,y2,z2⟩).z (fl (p:=⟨x1,y1,z1⟩) (q:=⟨x2,y2,z2⟩) hx1 hy1 hz1 hx2 hy2 hz2).2.2],.agg [.int (eV ⟨x1,y1,z1⟩ ⟨x2,y2,z2⟩).x (fk (p:=⟨x1,y1,z1⟩) (q:=⟨x2,y2,z2⟩) hx1 hy1 hz1 hx2 hy2 hz2).1,.int (eV ⟨x1,y1,z1⟩ ⟨x2,y2,z2⟩).y (fk (p:=⟨x1,y1,z1⟩) (q:=⟨x2,y2,z2⟩) hx1 hy1 hz1 hx2 hy2 hz2).2.1,.int (eV ⟨x1,y1,z1⟩ ⟨x2,y2,z2⟩).z (fk (p:=⟨x1,y1,z1⟩) (q:=⟨x2,y2,z2⟩) hx1 hy1 hz1 hx2 hy2 hz2).2.2]]).den ρ:=by
 repeat' first
  |exact λρ=>Z5 (by simp only[Me,Md,Eg,Ef, *]) (by simp only[Me,Md,Eg,Ef, *]) ρ
  |(refine zB ?_ ?_<;>intro h<;>first|(have h:ew (⟨x1,y1,z1⟩:V3) (⟨x2,y2,z2⟩:V3)=true:=h)|(have h:ew (⟨x2,y2,z2⟩:V3) (⟨x1,y1,z1⟩:V3)=true:=h)|(have h:ew (⟨x1,y1,z1⟩:V3) (⟨x2,y2,z2⟩:V3)=false:=h)|(have h:ew (⟨x2,y2,z2⟩:V3) (⟨x1,y1,z1⟩:V3)=false:=h))
  |(refine⟨?_,trivial⟩;(conv=>whnf))
  |(refine⟨?_,?_,trivial⟩<;>(conv=>whnf))
def YT {x1 y1 z1 x2 y2 z2 x3 y3 z3:Int} hx1 hy1 hz1 hx2 hy2 hz2 hx3 hy3 hz3 (ty cap:Nat) hs:A5 Gm (inl Gm Mh 0) f221 [.c (.sli false 0 0 3 cap hs)] [⟨ty,true,[.int x1 hx1,.int y1 hy1,.int z1 hz1,.int x2 hx2,.int y2 hy2,.int z2 hz2,.int x3 hx3,.int y3 hy3,.int z3 hz3],0⟩] λu _=> ∀ρ,u.den ρ=(SV.tup [.agg [.int (ep (ep ⟨x1,y1,z1⟩ ⟨x2,y2,z2⟩) ⟨x3,y3,z3⟩).x (fl (p:=ep ⟨x1,y1,z1⟩ ⟨x2,y2,z2⟩) (q:=⟨x3,y3,z3⟩) (fl (p:=⟨x1,y1,z1⟩) (q:=⟨x2,y2,z2⟩) hx1 hy1 hz1 hx2 hy2 hz2).1 (fl (p:=⟨x1,y1,z1⟩) (q:=⟨x2,y2,z2⟩) hx1 hy1 hz1 hx2 hy2 hz2).2.1 (fl (p:=⟨x1,y1,z1⟩) (q:=⟨x2,y2,z2⟩) hx1 hy1 hz1 hx2 hy2 hz2).2.2 hx3 hy3 hz3).1,.int (ep (ep ⟨x1,y1,z1⟩ ⟨x2,y2,z2⟩) ⟨x3,y3,z3⟩).y (fl (p:=ep ⟨x1,y1,z1⟩ ⟨x2,y2,z2⟩) (q:=⟨x3,y3,z3⟩) (fl (p:=⟨x1,y1,z1⟩) (q:=⟨x2,y2,z2⟩) hx1 hy1 hz1 hx2 hy2 hz2).1 (fl (p:=⟨x1,y1,z1⟩) (q:=⟨x2,y2,z2⟩) hx1 hy1 hz1 hx2 hy2 hz2).2.1 (fl (p:=⟨x1,y1,z1⟩) (q:=⟨x2,y2,z2⟩) hx1 hy1 hz1 hx2 hy2 hz2).2.2 hx3 hy3 hz3).2.1,.int (ep (ep ⟨x1,y1,z1⟩ ⟨x2,y2,z2⟩) ⟨x3,y3,z3⟩).z (fl (p:=ep ⟨x1,y1,z1⟩ ⟨x2,y2,z2⟩) (q:=⟨x3,y3,z3⟩) (fl (p:=⟨x1,y1,z1⟩) (q:=⟨x2,y2,z2⟩) hx1 hy1 hz1 hx2 hy2 hz2).1 (fl (p:=⟨x1,y1,z1⟩) (q:=⟨x2,y2,z2⟩) hx1 hy1 hz1 hx2 hy2 hz2).2.1 (fl (p:=⟨x1,y1,z1⟩) (q:=⟨x2,y2,z2⟩) hx1 hy1 hz1 hx2 hy2 hz2).2.2 hx3 hy3 hz3).2.2],.agg [.int (eV (eV ⟨x1,y1,z1⟩ ⟨x2,y2,z2⟩) ⟨x3,y3,z3⟩).x (fk (p:=eV ⟨x1,y1,z1⟩ ⟨x2,y2,z2⟩) (q:=⟨x3,y3,z3⟩) (fk (p:=⟨x1,y1,z1⟩) (q:=⟨x2,y2,z2⟩) hx1 hy1 hz1 hx2 hy2 hz2).1 (fk (p:=⟨x1,y1,z1⟩) (q:=⟨x2,y2,z2⟩) hx1 hy1 hz1 hx2 hy2 hz2).2.1 (fk (p:=⟨x1,y1,z1⟩) (q:=⟨x2,y2,z2⟩) hx1 hy1 hz1 hx2 hy2 hz2).2.2 hx3 hy3 hz3).1,.int (eV (eV ⟨x1,y1,z1⟩ ⟨x2,y2,z2⟩) ⟨x3,y3,z3⟩).y (fk (p:=eV ⟨x1,y1,z1⟩ ⟨x2,y2,z2⟩) (q:=⟨x3,y3,z3⟩) (fk (p:=⟨x1,y1,z1⟩) (q:=⟨x2,y2,z2⟩) hx1 hy1 hz1 hx2 hy2 hz2).1 (fk (p:=⟨x1,y1,z1⟩) (q:=⟨x2,y2,z2⟩) hx1 hy1 hz1 hx2 hy2 hz2).2.1 (fk (p:=⟨x1,y1,z1⟩) (q:=⟨x2,y2,z2⟩) hx1 hy1 hz1 hx2 hy2 hz2).2.2 hx3 hy3 hz3).2.1,.int (eV (eV ⟨x1,y1,z1⟩ ⟨x2,y2,z2⟩) ⟨x3,y3,z3⟩).z (fk (p:=eV ⟨x1,y1,z1⟩ ⟨x2,y2,z2⟩) (q:=⟨x3,y3,z3⟩) (fk (p:=⟨x1,y1,z1⟩) (q:=⟨x2,y2,z2⟩) hx1 hy1 hz1 hx2 hy2 hz2).1 (fk (p:=⟨x1,y1,z1⟩) (q:=⟨x2,y2,z2⟩) hx1 hy1 hz1 hx2 hy2 hz2).2.1 (fk (p:=⟨x1,y1,z1⟩) (q:=⟨x2,y2,z2⟩) hx1 hy1 hz1 hx2 hy2 hz2).2.2 hx3 hy3 hz3).2.2]]).den ρ:=by
 repeat' first
  |exact λρ=>Z5 (by simp only[Me,Md,Eg,Ef, *]) (by simp only[Me,Md,Eg,Ef, *]) ρ
  |(refine zB ?_ ?_<;>intro h<;>first|(have h:ew (⟨x1,y1,z1⟩:V3) (⟨x2,y2,z2⟩:V3)=true:=h)|(have h:ew (⟨x1,y1,z1⟩:V3) (⟨x3,y3,z3⟩:V3)=true:=h)|(have h:ew (⟨x2,y2,z2⟩:V3) (⟨x1,y1,z1⟩:V3)=true:=h)|(have h:ew (⟨x2,y2,z2⟩:V3) (⟨x3,y3,z3⟩:V3)=true:=h)|(have h:ew (⟨x3,y3,z3⟩:V3) (⟨x1,y1,z1⟩:V3)=true:=h)|(have h:ew (⟨x3,y3,z3⟩:V3) (⟨x2,y2,z2⟩:V3)=true:=h)|(have h:ew (⟨x1,y1,z1⟩:V3) (⟨x2,y2,z2⟩:V3)=false:=h)|(have h:ew (⟨x1,y1,z1⟩:V3) (⟨x3,y3,z3⟩:V3)=false:=h)|(have h:ew (⟨x2,y2,z2⟩:V3) (⟨x1,y1,z1⟩:V3)=false:=h)|(have h:ew (⟨x2,y2,z2⟩:V3) (⟨x3,y3,z3⟩:V3)=false:=h)|(have h:ew (⟨x3,y3,z3⟩:V3) (⟨x1,y1,z1⟩:V3)=false:=h)|(have h:ew (⟨x3,y3,z3⟩:V3) (⟨x2,y2,z2⟩:V3)=false:=h))
  |(refine⟨?_,trivial⟩;(conv=>whnf))
  |(refine⟨?_,?_,trivial⟩<;>(conv=>whnf))
def RP:Dr
 |[.c (.sli false b 0 2 _ _)],hf=>(match hf b with
  |some ⟨_,_,[.int x1 hx1,.int y1 hy1,.int z1 hz1,.int x2 hx2,.int y2 hy2,.int z2 hz2],_⟩=>some (none,SV.tup [.agg [.int (ep ⟨x1,y1,z1⟩ ⟨x2,y2,z2⟩).x (fl (p:=⟨x1,y1,z1⟩) (q:=⟨x2,y2,z2⟩) hx1 hy1 hz1 hx2 hy2 hz2).1,.int (ep ⟨x1,y1,z1⟩ ⟨x2,y2,z2⟩).y (fl (p:=⟨x1,y1,z1⟩) (q:=⟨x2,y2,z2⟩) hx1 hy1 hz1 hx2 hy2 hz2).2.1,.int (ep ⟨x1,y1,z1⟩ ⟨x2,y2,z2⟩).z (fl (p:=⟨x1,y1,z1⟩) (q:=⟨x2,y2,z2⟩) hx1 hy1 hz1 hx2 hy2 hz2).2.2],.agg [.int (eV ⟨x1,y1,z1⟩ ⟨x2,y2,z2⟩).x (fk (p:=⟨x1,y1,z1⟩) (q:=⟨x2,y2,z2⟩) hx1 hy1 hz1 hx2 hy2 hz2).1,.int (eV ⟨x1,y1,z1⟩ ⟨x2,y2,z2⟩).y (fk (p:=⟨x1,y1,z1⟩) (q:=⟨x2,y2,z2⟩) hx1 hy1 hz1 hx2 hy2 hz2).2.1,.int (eV ⟨x1,y1,z1⟩ ⟨x2,y2,z2⟩).z (fk (p:=⟨x1,y1,z1⟩) (q:=⟨x2,y2,z2⟩) hx1 hy1 hz1 hx2 hy2 hz2).2.2]])
  |_=>none)
 |[.c (.sli false b 0 3 _ _)],hf=>(match hf b with
  |some ⟨_,_,[.int x1 hx1,.int y1 hy1,.int z1 hz1,.int x2 hx2,.int y2 hy2,.int z2 hz2,.int x3 hx3,.int y3 hy3,.int z3 hz3],_⟩=>some (none,SV.tup [.agg [.int (ep (ep ⟨x1,y1,z1⟩ ⟨x2,y2,z2⟩) ⟨x3,y3,z3⟩).x (fl (p:=ep ⟨x1,y1,z1⟩ ⟨x2,y2,z2⟩) (q:=⟨x3,y3,z3⟩) (fl (p:=⟨x1,y1,z1⟩) (q:=⟨x2,y2,z2⟩) hx1 hy1 hz1 hx2 hy2 hz2).1 (fl (p:=⟨x1,y1,z1⟩) (q:=⟨x2,y2,z2⟩) hx1 hy1 hz1 hx2 hy2 hz2).2.1 (fl (p:=⟨x1,y1,z1⟩) (q:=⟨x2,y2,z2⟩) hx1 hy1 hz1 hx2 hy2 hz2).2.2 hx3 hy3 hz3).1,.int (ep (ep ⟨x1,y1,z1⟩ ⟨x2,y2,z2⟩) ⟨x3,y3,z3⟩).y (fl (p:=ep ⟨x1,y1,z1⟩ ⟨x2,y2,z2⟩) (q:=⟨x3,y3,z3⟩) (fl (p:=⟨x1,y1,z1⟩) (q:=⟨x2,y2,z2⟩) hx1 hy1 hz1 hx2 hy2 hz2).1 (fl (p:=⟨x1,y1,z1⟩) (q:=⟨x2,y2,z2⟩) hx1 hy1 hz1 hx2 hy2 hz2).2.1 (fl (p:=⟨x1,y1,z1⟩) (q:=⟨x2,y2,z2⟩) hx1 hy1 hz1 hx2 hy2 hz2).2.2 hx3 hy3 hz3).2.1,.int (ep (ep ⟨x1,y1,z1⟩ ⟨x2,y2,z2⟩) ⟨x3,y3,z3⟩).z (fl (p:=ep ⟨x1,y1,z1⟩ ⟨x2,y2,z2⟩) (q:=⟨x3,y3,z3⟩) (fl (p:=⟨x1,y1,z1⟩) (q:=⟨x2,y2,z2⟩) hx1 hy1 hz1 hx2 hy2 hz2).1 (fl (p:=⟨x1,y1,z1⟩) (q:=⟨x2,y2,z2⟩) hx1 hy1 hz1 hx2 hy2 hz2).2.1 (fl (p:=⟨x1,y1,z1⟩) (q:=⟨x2,y2,z2⟩) hx1 hy1 hz1 hx2 hy2 hz2).2.2 hx3 hy3 hz3).2.2],.agg [.int (eV (eV ⟨x1,y1,z1⟩ ⟨x2,y2,z2⟩) ⟨x3,y3,z3⟩).x (fk (p:=eV ⟨x1,y1,z1⟩ ⟨x2,y2,z2⟩) (q:=⟨x3,y3,z3⟩) (fk (p:=⟨x1,y1,z1⟩) (q:=⟨x2,y2,z2⟩) hx1 hy1 hz1 hx2 hy2 hz2).1 (fk (p:=⟨x1,y1,z1⟩) (q:=⟨x2,y2,z2⟩) hx1 hy1 hz1 hx2 hy2 hz2).2.1 (fk (p:=⟨x1,y1,z1⟩) (q:=⟨x2,y2,z2⟩) hx1 hy1 hz1 hx2 hy2 hz2).2.2 hx3 hy3 hz3).1,.int (eV (eV ⟨x1,y1,z1⟩ ⟨x2,y2,z2⟩) ⟨x3,y3,z3⟩).y (fk (p:=eV ⟨x1,y1,z1⟩ ⟨x2,y2,z2⟩) (q:=⟨x3,y3,z3⟩) (fk (p:=⟨x1,y1,z1⟩) (q:=⟨x2,y2,z2⟩) hx1 hy1 hz1 hx2 hy2 hz2).1 (fk (p:=⟨x1,y1,z1⟩) (q:=⟨x2,y2,z2⟩) hx1 hy1 hz1 hx2 hy2 hz2).2.1 (fk (p:=⟨x1,y1,z1⟩) (q:=⟨x2,y2,z2⟩) hx1 hy1 hz1 hx2 hy2 hz2).2.2 hx3 hy3 hz3).2.1,.int (eV (eV ⟨x1,y1,z1⟩ ⟨x2,y2,z2⟩) ⟨x3,y3,z3⟩).z (fk (p:=eV ⟨x1,y1,z1⟩ ⟨x2,y2,z2⟩) (q:=⟨x3,y3,z3⟩) (fk (p:=⟨x1,y1,z1⟩) (q:=⟨x2,y2,z2⟩) hx1 hy1 hz1 hx2 hy2 hz2).1 (fk (p:=⟨x1,y1,z1⟩) (q:=⟨x2,y2,z2⟩) hx1 hy1 hz1 hx2 hy2 hz2).2.1 (fk (p:=⟨x1,y1,z1⟩) (q:=⟨x2,y2,z2⟩) hx1 hy1 hz1 hx2 hy2 hz2).2.2 hx3 hy3 hz3).2.2]])
  |_=>none)
 |_,_=>none
def a22:CY prog 221 RP:=by
 refine⟨(⟨func221,kr,kr⟩:iM prog 221 f221).callable,λF T p v e=> ?_⟩;unfold RP at e;split at e;rename_i b m r;split at e;rename_i u J O o I q M k G g H f N j L D;cases e;refine⟨ff,λ_ E w z=> ?_⟩;have x:=(z b _ D).1;refine yd (P:= prog) Gn bj bg ⟨func221,kr,kr⟩ ff (λi c d=> ?_) (λ_=>E b) (λA h=> ?_) (YS o q k g f j u m r) w (λi c d=> ?_)
 cases i with
 |zero=>simp[an] at d;subst d;exact⟨rfl,ff⟩
 |succ i=>simp[an] at d
 have:=h 0 rfl;simp only[aI,dj,SV.den,C.den,C.cells,this]
 cases i with
 |zero=>simp[an] at d;subst d;exact x
 |succ i=>simp[an] at d
 cases e;rename_i b m r;split at e;rename_i u J O o I q M k G g H f N j U s Q y R B L D;cases e;refine⟨ff,λ_ E w z=> ?_⟩;have x:=(z b _ D).1;refine yd (P:= prog) Gn bj bg ⟨func221,kr,kr⟩ ff (λi c d=> ?_) (λ_=>E b) (λA h=> ?_) (YT o q k g f j s y B u m r) w (λi c d=> ?_)
 cases i with
 |zero=>simp[an] at d;subst d;exact⟨rfl,ff⟩
 |succ i=>simp[an] at d
 have:=h 0 rfl;simp only[aI,dj,SV.den,C.den,C.cells,this]
 cases i with
 |zero=>simp[an] at d;subst d;exact x
 |succ i=>simp[an] at d
 cases e;cases e
def rdE:List (FuncId×Dr):=[(221,RP)]
def TM:nN rdE:= .cons a22 .nil
noncomputable def a1T:FuncId->Option Func:=lk [(224, f224)]
def B9: ∀f fn,a1T f=some fn->iM prog f fn:=nV λx d=>by simp only[br,cd,or_false] at d;subst d;exact⟨func224,kr,kr⟩
def Dx:Dn
 |[.agg [.int x1 _,.int y1 _,.int z1 _],.agg [.int x2 _,.int y2 _,.int z2 _],.agg [.int x3 _,.int y3 _,.int z3 _],.agg [.int x4 _,.int y4 _,.int z4 _]]=>
  some (none,.c (.val (.bool (iz ⟨x1,y1,z1⟩ ⟨x2,y2,z2⟩ ⟨x3,y3,z3⟩ ⟨x4,y4,z4⟩))))
 |_=>none
def Uj:dW prog 222 Dx:=Fb (un:=20) (n:=3) ⟨func222,kr,kr⟩ vG TM B9 λU p v D=>by
 unfold Dx at D
 split at D
 ·rename_i k M g O h J f G e F j I u H m N r Q s P q L o R
  cases D
  refine⟨[.agg [.int k M,.int g O,.int h J],.agg [.int f G,.int e F,.int j I],.agg [.int u H,.int m N,.int r Q],.agg [.int s P,.int q L,.int o R]],fr,ff,ff,λ_=> ?_⟩
  refine zB ?_ ?_<;>intro E
  ·have i:=ax0 (v:=(xB ⟨k,g,h⟩ ⟨f,e,j⟩ ⟨u,m,r⟩ ⟨s,q,o⟩)) E
   refine zB ?_ ?_<;>intro x
   rotate_left
   ·conv=>whnf
    exact λd=>bJ (Ds i dc (a2y x)) d
   refine zB ?_ ?_<;>intro y
   rotate_left
   ·conv=>whnf
    exact λd=>bJ (Ds i dc (a2z ((EN 0 (⟨k,g,h⟩:V3) (⟨f,e,j⟩:V3) (⟨u,m,r⟩:V3) (⟨s,q,o⟩:V3)).symm.trans y))) d
   conv=>whnf
   exact λd=>bJ (Ds i dc ((EN 0 (⟨u,m,r⟩:V3) (⟨s,q,o⟩:V3) (⟨k,g,h⟩:V3) (⟨f,e,j⟩:V3)).trans (npT x ((EN 0 (⟨k,g,h⟩:V3) (⟨f,e,j⟩:V3) (⟨u,m,r⟩:V3) (⟨s,q,o⟩:V3)).symm.trans y)))) d
  refine zB ?_ ?_<;>intro T
  ·have i:=ax1 (v:=(xB ⟨k,g,h⟩ ⟨f,e,j⟩ ⟨u,m,r⟩ ⟨s,q,o⟩)) E T
   refine zB ?_ ?_<;>intro x
   rotate_left
   ·conv=>whnf
    exact λd=>bJ (Ds i dc (a2y x)) d
   refine zB ?_ ?_<;>intro y
   rotate_left
   ·conv=>whnf
    exact λd=>bJ (Ds i dc (a2z ((EN 1 (⟨k,g,h⟩:V3) (⟨f,e,j⟩:V3) (⟨u,m,r⟩:V3) (⟨s,q,o⟩:V3)).symm.trans y))) d
   conv=>whnf
   exact λd=>bJ (Ds i dc ((EN 1 (⟨u,m,r⟩:V3) (⟨s,q,o⟩:V3) (⟨k,g,h⟩:V3) (⟨f,e,j⟩:V3)).trans (npT x ((EN 1 (⟨k,g,h⟩:V3) (⟨f,e,j⟩:V3) (⟨u,m,r⟩:V3) (⟨s,q,o⟩:V3)).symm.trans y)))) d
  refine zB ?_ ?_<;>intro V
  ·have i:=ax2 (v:=(xB ⟨k,g,h⟩ ⟨f,e,j⟩ ⟨u,m,r⟩ ⟨s,q,o⟩)) E T V
   refine zB ?_ ?_<;>intro x
   rotate_left
   ·conv=>whnf
    exact λd=>bJ (Ds i dc (a2y x)) d
   refine zB ?_ ?_<;>intro y
   rotate_left
   ·conv=>whnf
    exact λd=>bJ (Ds i dc (a2z ((EN 2 (⟨k,g,h⟩:V3) (⟨f,e,j⟩:V3) (⟨u,m,r⟩:V3) (⟨s,q,o⟩:V3)).symm.trans y))) d
   conv=>whnf
   exact λd=>bJ (Ds i dc ((EN 2 (⟨u,m,r⟩:V3) (⟨s,q,o⟩:V3) (⟨k,g,h⟩:V3) (⟨f,e,j⟩:V3)).trans (npT x ((EN 2 (⟨k,g,h⟩:V3) (⟨f,e,j⟩:V3) (⟨u,m,r⟩:V3) (⟨s,q,o⟩:V3)).symm.trans y)))) d
  conv=>whnf
  have i:=ax3 (v:=(xB ⟨k,g,h⟩ ⟨f,e,j⟩ ⟨u,m,r⟩ ⟨s,q,o⟩)) E T V
  refine zB ?_ ?_<;>intro W
  ·have A:uK (ep (⟨k,g,h⟩:V3) (⟨f,e,j⟩:V3)) (eV (⟨k,g,h⟩:V3) (⟨f,e,j⟩:V3))=true:=W
   refine zB ?_ ?_<;>intro z
   rotate_left
   ·conv=>whnf
    exact λd=>bJ (NU i (pa1 A z)) d
   refine zB ?_ ?_<;>intro B
   rotate_left
   ·conv=>whnf
    exact λd=>bJ (NU i (pa2 A z (ZU B))) d
   conv=>whnf
   exact λd=>bJ (NU i (pa3 A z (ZW B))) d
  ·have A:uK (ep (⟨k,g,h⟩:V3) (⟨f,e,j⟩:V3)) (eV (⟨k,g,h⟩:V3) (⟨f,e,j⟩:V3))=false:=W
   refine zB ?_ ?_<;>intro z
   rotate_left
   ·conv=>whnf
    exact λd=>bJ (NU i (pa1 A z)) d
   refine zB ?_ ?_<;>intro B
   rotate_left
   ·conv=>whnf
    exact λd=>bJ (NU i (pa2 A z (ZU B))) d
   conv=>whnf
   exact λd=>bJ (NU i (pa3 A z (ZW B))) d
 ·cases D
def Qq:List (FuncId×Dn):=(222,Dx)::Iw
def NK:dU Qq:= .cons Uj<|vG
section
variable {p q:V3} {x:Bool}
def Qr:List (FuncId×Dn):=Qq
def NL:dU Qr:=NK
def a2e {v} (h:v.isZ=false):s8 v≠3:=λe=>by
 rcases VB v with⟨-,i,d,f⟩|⟨g,-⟩|⟨g,-⟩|⟨g,-⟩
 ·unfold V3.isZ at h;rw[i,d,f] at h;cases h
 all_goals rw[g] at e;cases e
def Xp {v} (h:v.isZ=true):s8 v=3:=by unfold V3.isZ at h;simp only[aG,decide_eq_true_eq] at h;unfold s8;rw[if_neg om,if_neg om,if_neg om]
def UK {a b c} (h:s8 (fc a b c)=3) (e:x=iz p q (ep (ep a b) c) (eV (eV a b) c)):x=lB p q a b c:=by unfold lB;rw[if_pos h];exact e
def YJ {a b c} (d:s8 (fc a b c)≠3) (h:decide (0<IntKind.i64.wrap ((kD a b c p).sign*(kD a b c q).sign))=true):false=lB p q a b c:=by rw[yf] at h;unfold lB;rw[if_neg d,if_pos (of_decide_eq_true h)]
def ni {a b c} (d:s8 (fc a b c)≠3) (h:decide (0<IntKind.i64.wrap ((kD a b c p).sign*(kD a b c q).sign))=false) (g:(kD a b c p).sign≠0\/(kD a b c q).sign≠0) (e:x=fQ (kD p q a b).sign (kD p q b c).sign (kD p q c a).sign):x=lB p q a b c:=by rw[yf] at h;unfold lB;rw[if_neg d,if_neg (of_decide_eq_false h),if_pos g];exact e
def Fc {a b c} (f:s8 (fc a b c)≠3) (h:decide (0<IntKind.i64.wrap ((kD a b c p).sign*(kD a b c q).sign))=false) (g:(kD a b c p).sign=0) (d:(kD a b c q).sign=0) (e:x=nY p q a b c):x=lB p q a b c:=by rw[yf] at h;unfold lB;rw[if_neg f,if_neg (of_decide_eq_false h),if_neg (by rw[g,d];simp)];exact e
def pl1 {a b c} (h:iz p q a b=true):true=nY p q a b c:=by unfold nY;rw[h];rfl
def pl2 {a b c} (h:iz p q a b=false) (h1:iz p q b c=true):true=nY p q a b c:=by unfold nY;rw[h,h1];rfl
def pl3 {a b c} (h:iz p q a b=false) (h1:iz p q b c=false) (h2:iz p q c a=true):true=nY p q a b c:=by unfold nY;rw[h,h1,h2];rfl
def pl4 {a b c} (h:iz p q a b=false) (h1:iz p q b c=false) (h2:iz p q c a=false) (e:x=Xi (s8 (fc a b c)) a b c p):x=nY p q a b c:=by unfold nY;rw[h,h1,h2];exact e
def a2b {k n a b c} (h:s8 n=k) (e:x=fQ ((xB a b a p).at k).sign ((xB b c b p).at k).sign ((xB c a c p).at k).sign):x=Xi (s8 n) a b c p:=by rw[h];exact e
def Qs:List (FuncId×Dn):=Qr
def NM:dU Qs:=NL
end
section
variable {s:TR}
def kI:List PT->List C
 |[]=>[]
 |p::l=>mK p++kI l
def xr: ∀l:List PT,bu (kI l)=3*ln l
 |[]=>rfl
 |_::l=>by rw[kI,cw,xr l,aS];show 3+_=_;omega
def sJ: ∀a b:List PT,kI (a++b)=kI a++kI b
 |[],_=>rfl
 |_::l,b=>by rw[cK,kI,sJ l b,kI,aJ]
def xq: ∀l:List PT,cC (kI l)
 |[]=>λ_ _=>rfl
 |_::l=>cL ff (xq l)
structure uc where
 l:List PT
 nl:Bool
 cap:Nat
 ok:bZ nl (ln l) cap
def uc.sl (o:uc) (b:Nat):SV:= .c (.sli o.nl b 0 (ln o.l) o.cap o.ok)
def uc.blk (o:uc):aY:=⟨33,o.nl,kI o.l,(o.cap-ln o.l)*3⟩
def uc.none:uc:=⟨[],true,0,by unfold bZ;decide⟩
def uc.new (o:uc):CW o.blk:=by
 refine⟨xq o.l,?_⟩
 cases h:o.nl with
 |false=>exact .inl h
 |true=>right;have e:=o.ok.1;have d:=o.ok.2.2 h;have:o.l=[]:=aU om;unfold uc.blk aY.void;rw[h,this];rfl
def uc.app (o:uc) {m} (hm:(ln o.l+m)*3<=17592186044416):o.blk.ty= 33 /\o.blk.ro=o.nl/\bu o.blk.cs=ln o.l*3/\(o.nl=false->bu o.blk.cs+o.blk.tl=o.cap*3)/\(ln o.l+m)*3<=17592186044416:=by
 have d:bu o.blk.cs=ln o.l*3:=by show bu (kI o.l)=_;rw[xr];omega
 refine⟨rfl,rfl,d,λ_=> ?_,hm⟩;rw[d];show (ln o.l)*3+(o.cap-ln o.l)*3=o.cap*3;have:=o.ok.1;omega
def uc.push (o:uc) (m:List PT) {n:Nat} (e:ln m=n) (d:Nat) (h2:bZ (o.nl&&decide (n=0)) (ln o.l+n) d):uc:=⟨o.l++m,o.nl&&decide (n=0),d,by rw[aa,e];exact h2⟩
def uc.push_sl (o:uc) m {n} (e:ln m=n) d (h2:bZ (o.nl&&decide (n=0)) (ln o.l+n) d) b ρ:(SV.c (.sli (o.nl&&decide (n=0)) b 0 (ln o.l+n) d h2)).den ρ=((o.push m e d h2).sl b).den ρ:=by simp only[uc.sl,uc.push,SV.den,C.den,C.cells,aa,e]
def uc.push_blk (o:uc) m {n} (e:ln m=n) d (h2:bZ (o.nl&&decide (n=0)) (ln o.l+n) d) {cs} (f: ∀ρ,af ρ cs=af ρ (kI m)): 33 =(o.push m e d h2).blk.ty/\(o.nl&&decide (n=0))=(o.push m e d h2).blk.ro/\(d-(ln o.l+n))*3=(o.push m e d h2).blk.tl/\ ∀ρ,af ρ (kI o.l++cs)=af ρ (o.push m e d h2).blk.cs:=by refine⟨rfl,rfl,?_,λρ=> ?_⟩;simp only[uc.push,uc.blk,aa,e];show _=af ρ (kI (o.l++m));rw[sJ,bp,bp,f]
def PT.v (p:PT):V3:=⟨p.x,p.y,p.z⟩
def Bg (p:PT) (t:TR):Bool:=uK p.v t.a.v||(uK p.v t.b.v||uK p.v t.c.v)
def TR.l (t:TR):List PT:=[t.a,t.b,t.c]
def mb (w:Bool) (s t:TR):List PT:=s.l.filter λp=>Bg p t==w
def jf (w:Bool) (s t:TR) (k:Nat):List PT:=(s.l.take k).filter λp=>Bg p t==w
def a05 {t} (h:Bg s.a t=true):jf true s t 1=jf true s t 0++[s.a]/\jf false s t 1=jf false s t 0:=by simp[jf,TR.l,h]
def a02 {t} (h:Bg s.a t=false):jf true s t 1=jf true s t 0/\jf false s t 1=jf false s t 0++[s.a]:=by simp[jf,TR.l,h]
def a06 {t} (h:Bg s.b t=true):jf true s t 2=jf true s t 1++[s.b]/\jf false s t 2=jf false s t 1:=by simp[jf,TR.l,nQ,h];split<;>simp
def a03 {t} (h:Bg s.b t=false):jf true s t 2=jf true s t 1/\jf false s t 2=jf false s t 1++[s.b]:=by simp[jf,TR.l,nQ,h];split<;>simp
def a07 {t} (h:Bg s.c t=true):jf true s t 3=jf true s t 2++[s.c]/\jf false s t 3=jf false s t 2:=by simp[jf,TR.l,nQ,h];(repeat' split)<;>simp_all
def a04 {t} (h:Bg s.c t=false):jf true s t 3=jf true s t 2/\jf false s t 3=jf false s t 2++[s.c]:=by simp[jf,TR.l,nQ,h];(repeat' split)<;>simp_all
def VX w s t k:(jf w s t k).length<=3:=aC (Id _ _) (by simp[TR.l];omega)
def a4M {j:Nat} (h:j<=3):IR j:=by unfold IR;omega
def Ll:cP:=λe f K=> ∃s t:TR,e=[.agg (qd s),.agg (qd t)]/\f=[]/\
 ∀d o2:uc,d.l=mb true s t->o2.l=mb false s t->K (.tup [.c (.sli d.nl 0 0 (ln d.l) d.cap d.ok),.c (.sli o2.nl 1 0 (ln o2.l) o2.cap o2.ok)]) [d.blk,o2.blk]
def NB {o:uc} {t:TR} {w:Bool} {k:Nat} (h:o.l=jf w s t k):(ln o.l+1)*3<=17592186044416:=by have:=VX w s t k;rw[h];omega
def wj {o:uc} {l m n:List PT} (h:o.l=l) (e:n=l++m):o.l++m=n:=by rw[h,e]
end
def vo (s0 s1 s2 d t1 e:V3):Bool:=lB s0 s1 d t1 e||(lB s1 s2 d t1 e||lB s2 s0 d t1 e)
def a37:Dn
 |[.agg [.int x1 _,.int y1 _,.int z1 _,.int x2 _,.int y2 _,.int z2 _,.int x3 _,.int y3 _,.int z3 _],.agg [.int x4 _,.int y4 _,.int z4 _,.int x5 _,.int y5 _,.int z5 _,.int x6 _,.int y6 _,.int z6 _]]=>
  some (none,.c (.val (.bool (vo ⟨x1,y1,z1⟩ ⟨x2,y2,z2⟩ ⟨x3,y3,z3⟩ ⟨x4,y4,z4⟩ ⟨x5,y5,z5⟩ ⟨x6,y6,z6⟩))))
 |_=>none
def Qt:List (FuncId×Dn):=Qs
def NN:dU Qt:=NM
def wY (t:TR):Bool:=(fc t.a.v t.b.v t.c.v).isZ
def vn (s t:TR):Bool:=vo s.a.v s.b.v s.c.v t.a.v t.b.v t.c.v
def pW (p q:PT) (t:TR):Bool:=lB p.v q.v t.a.v t.b.v t.c.v
def sgE (v w:V3):Bool:=decide (v.x.sign=w.x.sign)&&(decide (v.y.sign=w.y.sign)&&decide (v.z.sign=w.z.sign))
def Ge (a b u v:PT):Bool:=decide ((kD a.v b.v u.v v.v).sign=0)&&sgE (xB a.v b.v a.v u.v) (xB a.v b.v a.v v.v)
def Ci (s t:TR):List PT->List PT->List PT->Bool
 |[_],[u,u2],[v,v2]=>pW u u2 t||pW v v2 s
 |[a,b],[u],[v]=>Ge a b u v
 |_,_,_=>true
def qv (s t:TR):Bool:=decide (((mb true s t).length:Int)=0)||(wY s||wY t)
def zu (s t:TR):Bool:=cond (qv s t) (vn s t||vn t s) (Ci s t (mb true s t) (mb false s t) (mb false t s))
section
variable {s:TR} {u:PT}
def jm p q:uK p q=uK q p:=by rw[Bool.eq_iff_iff,LF,LF];exact eq_comm
def a1L {p q r} (h:uK p q=true) (g:uK p r=true):q=r:=(LF.1 h).symm.trans (LF.1 g)
def LN {a b c} (h:(fc a b c).isZ=false):a≠b/\b≠c/\a≠c:=by refine⟨λe=> ?_,λe=> ?_,λe=> ?_⟩<;>subst e<;>revert h<;>unfold V3.isZ fc V3.cross V3.sub<;>simp<;>grind
def one (b:Bool):Nat:=cond b 1 0
def a7b: ∀a b c d e f g h i:Bool,(!(a&&b)&& !(a&&c)&& !(b&&c)&& !(d&&e)&& !(d&&f)&& !(e&&f)&& !(g&&h)&& !(g&&i)&& !(h&&i)&& !(a&&d)&& !(a&&g)&& !(d&&g)&& !(b&&e)&& !(b&&h)&& !(e&&h)&& !(c&&f)&& !(c&&i)&& !(f&&i))=true->
 one (a||(b||c))+one (d||(e||f))+one (g||(h||i))=one (a||(d||g))+one (b||(e||h))+one (c||(f||i)):=dc
def xR s t:(mb true s t).length=one (Bg s.a t)+one (Bg s.b t)+one (Bg s.c t)/\(mb false s t).length+(mb true s t).length=3:=by unfold mb TR.l;cases h1:Bg s.a t<;>cases h2:Bg s.b t<;>cases h3:Bg s.c t<;>simp[one,h1,h2,h3]
def a1a {t} (hs:wY s=false) (i:wY t=false):(mb true s t).length=(mb true t s).length:=by
 rw[(xR s t).1,(xR t s).1];obtain⟨s1,s2,j⟩:=LN hs;obtain⟨t1,k,m⟩:=LN i;unfold Bg;rw[jm t.a.v s.a.v,jm t.a.v s.b.v,jm t.a.v s.c.v,jm t.b.v s.a.v,jm t.b.v s.b.v,jm t.b.v s.c.v,jm t.c.v s.a.v,jm t.c.v s.b.v,jm t.c.v s.c.v];have e: ∀{p q r},q≠r->(!(uK p q&&uK p r))=true:=λ{p q r} d=>by (cases h:uK p q<;>cases g:uK p r<;>first|rfl|exact absurd (a1L h g) d)
 have f: ∀{p q r},p≠r->(!(uK p q&&uK r q))=true:=λ{p q r} d=>by rw[jm p q,jm r q];exact e d
 refine a7b _ _ _ _ _ _ _ _ _ ?_;simp only[e t1,e k,e m,f s1,f s2,f j,Bool.and_self]
def len1 {l:List PT} (h:ln l=1): ∃a,l=[a]:=List.length_eq_one_iff.1 h
def len2 {l:List PT} (h:ln l=2): ∃a b,l=[a,b]:=by
 cases l with
 |nil=>cases h
 |cons a l=>obtain⟨b,rfl⟩:=len1 (l:=l) (by simpa using h);exact⟨a,b,rfl⟩
def a4T {l:List PT} (h:ln l=3): ∃a b c,l=[a,b,c]:=by
 cases l with
 |nil=>cases h
 |cons a l=>obtain⟨b,c,rfl⟩:=len2 (l:=l) (by simpa using h);exact⟨a,b,c,rfl⟩
def JM {t:TR} (h:qv s t=false):wY s=false/\wY t=false/\ ((∃a u u2 c v v2,mb true s t=[a]/\mb false s t=[u,u2]/\mb true t s=[c]/\mb false t s=[v,v2])\/ (∃a b u c d v,mb true s t=[a,b]/\mb false s t=[u]/\mb true t s=[c,d]/\mb false t s=[v])\/ (∃a b c d e f,mb true s t=[a,b,c]/\mb false s t=[]/\mb true t s=[d,e,f]/\mb false t s=[])):=by unfold qv at h;simp only[Bool.or_eq_false_iff,decide_eq_false_iff_not] at h;obtain⟨y,p,o⟩:=h;refine⟨p,o,?_⟩;have r:=(xR s t).2;have x:=(xR t s).2;have z:=a1a p o;have g:(mb true s t).length=1\/(mb true s t).length=2\/(mb true s t).length=3:=om;rcases g with g|g|g;obtain⟨a,i⟩:=len1 g;obtain⟨u,u2,j⟩:=len2 (l:=mb false s t) om;obtain⟨c,m⟩:=len1 (l:=mb true t s) om;obtain⟨v,v2,k⟩:=len2 (l:=mb false t s) om;exact .inl ⟨a,u,u2,c,v,v2,i,j,m,k⟩;obtain⟨a,b,i⟩:=len2 g;obtain⟨u,j⟩:=len1 (l:=mb false s t) om;obtain⟨c,d,m⟩:=len2 (l:=mb true t s) om;obtain⟨v,k⟩:=len1 (l:=mb false t s) om;exact .inr (.inl ⟨a,b,u,c,d,v,i,j,m,k⟩);obtain⟨a,b,c,i⟩:=a4T g;obtain⟨d,e,f,q⟩:=a4T (l:=mb true t s) om;exact .inr (.inr ⟨a,b,c,d,e,f,i,aU om,q,aU om⟩)
def a2t {t} (h:qv s t=true):(vn s t||vn t s)=zu s t:=by unfold zu;rw[h];rfl
def a2s {t} (h:qv s t=false) {l m n} (h1:mb true s t=l) (h2:mb false s t=m) (d:mb false t s=n) {x} (e:x=Ci s t l m n):x=zu s t:=by unfold zu;rw[h,h1,h2,d];exact e
def ap3 {t} (h:decide (((mb true s t).length:Int)=0)=false) (h1:wY s=false):wY t=qv s t:=by unfold qv;rw[h,h1];rfl
def a7A {t a d v e} (g:pW u d t=true):true=Ci s t [a] [u,d] [v,e]:=by show true=(pW u d t||pW v e s);rw[g];rfl
def a7B {t a e v d} (g:pW u e t=false):pW v d s=Ci s t [a] [u,e] [v,d]:=by show _=(pW u e t||pW v d s);rw[g];rfl
def a7C {t a b v} (g:decide ((kD a.v b.v u.v v.v).sign=0)=true):sgE (xB a.v b.v a.v u.v) (xB a.v b.v a.v v.v)=Ci s t [a,b] [u] [v]:=by show _=Ge a b u v;unfold Ge;rw[g];rfl
def a7D {t a b v} (g:decide ((kD a.v b.v u.v v.v).sign=0)=false):false=Ci s t [a,b] [u] [v]:=by show _=Ge a b u v;unfold Ge;rw[g];rfl
def TJ {E} (k:iU prog E) {H} (q:ko prog H) {f fn} (p:iM prog f fn) {args:List SV} {v:SV} (d: ∀ρ ρ',v.den ρ=v.den ρ') (g: ∀ρ ρ',args.map (SV.den ρ)=args.map (SV.den ρ')) (h:A5 E H fn args [] λu _=> ∀ρ,u.den ρ=v.den ρ) ρ (w:World): Calls prog f (args.map (SV.den ρ)).toArray w λe w'=>e= .returned (v.den ρ)/\Below w.heap.size w w':=by have m:dv w.heap.size ⟨w,λ_=>False,ρ,0⟩ (an []) ρ w:=⟨λi b h=>by simp[an] at h,λi b h=>by simp[an] at h,λi j b c h=>by simp[an] at h,λρ _ i b h=>by simp[an] at h,sR.refl _ _,ai _,λi h=>h.elim,λi b e h=>by simp[an] at h,λi j b c h=>by simp[an] at h,λi b o l e h=>by simp[an] at h⟩;refine(sG k bj q p h w.heap.size _ ρ w m (λρ' _=>g ρ' ρ)).mono ?_;rintro e w' ⟨u,hp',ρ1,hu,hh',-,he⟩;have:=he ρ1 (gt.refl _ _);exact⟨by rw[this,hu ρ1,d ρ1 ρ],hh'.bel.below⟩
def K4:List (FuncId×Dn):=Qt
def yv:dU K4:=NN
end
section
variable {x y z:Int}
def BG (d:decide (0<=x)=true) (e:decide (0<=y)=true) (uC:decide (0<=z)=true):true=fQ x y z:=by unfold fQ;rw[d,e,uC];rfl
def sD (d:decide (0<=x)=true) (g:decide (0<=y)=true) (uC:decide (0<=z)=false) (e:decide (x<=0)=true) (f:decide (y<=0)=true):decide (z<=0)=fQ x y z:=by unfold fQ;rw[d,g,uC,e,f];rfl
def sC (d:decide (0<=x)=true) (g:decide (0<=y)=true) (uC:decide (0<=z)=false) (e:decide (x<=0)=true) (f:decide (y<=0)=false):false=fQ x y z:=by unfold fQ;rw[d,g,uC,e,f];rfl
def wR (d:decide (0<=x)=true) (f:decide (0<=y)=true) (uC:decide (0<=z)=false) (e:decide (x<=0)=false):false=fQ x y z:=by unfold fQ;rw[d,f,uC,e];rfl
def wQ (d:decide (0<=x)=true) (g:decide (0<=y)=false) (e:decide (x<=0)=true) (f:decide (y<=0)=true):decide (z<=0)=fQ x y z:=by unfold fQ;rw[d,g,e,f];rfl
def wP (d:decide (0<=x)=true) (g:decide (0<=y)=false) (e:decide (x<=0)=true) (f:decide (y<=0)=false):false=fQ x y z:=by unfold fQ;rw[d,g,e,f];rfl
def BF (d:decide (0<=x)=true) (f:decide (0<=y)=false) (e:decide (x<=0)=false):false=fQ x y z:=by unfold fQ;rw[d,f,e];rfl
def BE (f:decide (0<=x)=false) (d:decide (x<=0)=true) (e:decide (y<=0)=true):decide (z<=0)=fQ x y z:=by unfold fQ;rw[f,d,e];rfl
def BD (f:decide (0<=x)=false) (d:decide (x<=0)=true) (e:decide (y<=0)=false):false=fQ x y z:=by unfold fQ;rw[f,d,e];rfl
def KU (e:decide (0<=x)=false) (d:decide (x<=0)=false):false=fQ x y z:=by unfold fQ;rw[e,d];rfl
def agq {b} (h:b=fQ x y z:=by first|exact BG aq aq aq|exact sD aq aq aq aq aq|exact sC aq aq aq aq aq|exact wR aq aq aq aq|exact wQ aq aq aq aq|exact wP aq aq aq aq|exact BF aq aq aq|exact BE aq aq aq|exact BD aq aq aq|exact KU aq aq):b=fQ x y z:=h
def DK:Dn
 |[.agg [.int x1 _,.int y1 _,.int z1 _],.agg [.int x3 _,.int y3 _,.int z3 _,.int x4 _,.int y4 _,.int z4 _,.int x5 _,.int y5 _,.int z5 _]]=>
  some ((some (s8 (fc (⟨x3,y3,z3⟩:V3) (⟨x4,y4,z4⟩:V3) (⟨x5,y5,z5⟩:V3))≠3)),.c (.val (.bool (Xi (s8 (fc (⟨x3,y3,z3⟩:V3) (⟨x4,y4,z4⟩:V3) (⟨x5,y5,z5⟩:V3))) (⟨x3,y3,z3⟩:V3) (⟨x4,y4,z4⟩:V3) (⟨x5,y5,z5⟩:V3) (⟨x1,y1,z1⟩:V3)))))
 |_=>none
def UB:dW prog 223 DK:=dC (un:=20) (n:=3) ⟨func223,kr,kr⟩ yv B9 λQ p v s=>by
 unfold DK at s
 split at s
 rename_i V H T J U F q D d I k M o L f G e N g B i P h E
 cases s
 refine⟨[.agg [.int V H,.int T J,.int U F],.agg [.int q D,.int d I,.int k M,.int o L,.int f G,.int e N,.int g B,.int i P,.int h E]],fr,ff,ff,λW=> ?_⟩
 have m:=W _ rfl
 refine zB ?_ ?_<;>intro A
 have j:=ax0 (v:=(fc (⟨q,d,k⟩:V3) (⟨o,f,e⟩:V3) (⟨g,i,h⟩:V3))) A
 conv=>whnf
 ·repeat' first|(refine zB ?_ ?_<;>intro u)|exact λr=>bJ (a2b j agq) r
 refine zB ?_ ?_<;>intro O
 have j:=ax1 (v:=(fc (⟨q,d,k⟩:V3) (⟨o,f,e⟩:V3) (⟨g,i,h⟩:V3))) A O
 conv=>whnf
 ·repeat' first|(refine zB ?_ ?_<;>intro u)|exact λr=>bJ (a2b j agq) r
 refine zB ?_ ?_<;>intro R
 have j:=ax2 (v:=(fc (⟨q,d,k⟩:V3) (⟨o,f,e⟩:V3) (⟨g,i,h⟩:V3))) A O R
 conv=>whnf
 ·repeat' first|(refine zB ?_ ?_<;>intro u)|exact λr=>bJ (a2b j agq) r
 conv=>whnf
 exact absurd (ax3 (v:=(fc (⟨q,d,k⟩:V3) (⟨o,f,e⟩:V3) (⟨g,i,h⟩:V3))) A O R) m
 cases s
def Qu:List (FuncId×Dn):=(223,DK)::K4
def BM:dU Qu:= .cons UB<|yv
def a7L (h:decide (x=0)=false):x≠0\/y≠0:= .inl (of_decide_eq_false h)
def sI (h:decide (y=0)=false):x≠0\/y≠0:= .inr (of_decide_eq_false h)
def DH:Dn
 |[.agg [.int x1 _,.int y1 _,.int z1 _],.agg [.int x2 _,.int y2 _,.int z2 _],.agg [.int x3 _,.int y3 _,.int z3 _,.int x4 _,.int y4 _,.int z4 _,.int x5 _,.int y5 _,.int z5 _]]=>
  some (none,.c (.val (.bool (lB ⟨x1,y1,z1⟩ ⟨x2,y2,z2⟩ ⟨x3,y3,z3⟩ ⟨x4,y4,z4⟩ ⟨x5,y5,z5⟩))))
 |_=>none
def Uy:dW prog 212 DH:=Fb (un:=20) (n:=0) ⟨func212,kr,kr⟩ BM TM bg λa0 p v q=>by
 unfold DH at q
 split at q
 rename_i x1 O y1 Q z1 I x2 B y2 r z2 H Z F s P U T X R E M A V J D N Y L G
 cases q
 refine⟨[.agg [.int x1 O,.int y1 Q,.int z1 I],.agg [.int x2 B,.int y2 r,.int z2 H],.agg [.int Z F,.int s P,.int U T,.int X R,.int E M,.int A V,.int J D,.int N Y,.int L G]],fr,ff,ff,λ_=> ?_⟩
 refine zB ?_ ?_<;>intro z0
 have ha:=Xp (v:=(fc (⟨Z,s,U⟩:V3) (⟨X,E,A⟩:V3) (⟨J,N,L⟩:V3))) z0
 conv=>whnf
 exact λd=>bJ (UK ha rfl) d
 have e:=a2e (v:=(fc (⟨Z,s,U⟩:V3) (⟨X,E,A⟩:V3) (⟨J,N,L⟩:V3))) z0
 refine zB ?_ ?_<;>intro f
 conv=>whnf
 exact λd=>bJ (YJ e f) d
 refine zB ?_ ?_<;>intro m
 refine zB ?_ ?_<;>intro g
 refine zB ?_ ?_<;>intro o
 conv=>whnf
 exact λd=>bJ (Fc e f (of_decide_eq_true m) (of_decide_eq_true g) (pl1 o)) d
 refine zB ?_ ?_<;>intro W
 conv=>whnf
 exact λd=>bJ (Fc e f (of_decide_eq_true m) (of_decide_eq_true g) (pl2 o W)) d
 refine zB ?_ ?_<;>intro c2
 conv=>whnf
 exact λd=>bJ (Fc e f (of_decide_eq_true m) (of_decide_eq_true g) (pl3 o W c2)) d
 refine⟨e,?_⟩
 conv=>whnf
 exact λd=>bJ (Fc e f (of_decide_eq_true m) (of_decide_eq_true g) (pl4 o W c2 rfl)) d
 refine zB ?_ ?_<;>intro i
 refine zB ?_ ?_<;>intro k
 refine zB ?_ ?_<;>intro uC
 conv=>whnf
 exact λd=>bJ (ni e f (sI g) (BG i k uC)) d
 refine zB ?_ ?_<;>intro h
 refine zB ?_ ?_<;>intro j
 conv=>whnf
 exact λd=>bJ (ni e f (sI g) (sD i k uC h j)) d
 conv=>whnf
 exact λd=>bJ (ni e f (sI g) (sC i k uC h j)) d
 conv=>whnf
 exact λd=>bJ (ni e f (sI g) (wR i k uC h)) d
 refine zB ?_ ?_<;>intro h
 refine zB ?_ ?_<;>intro j
 conv=>whnf
 exact λd=>bJ (ni e f (sI g) (wQ i k h j)) d
 conv=>whnf
 exact λd=>bJ (ni e f (sI g) (wP i k h j)) d
 conv=>whnf
 exact λd=>bJ (ni e f (sI g) (BF i k h)) d
 refine zB ?_ ?_<;>intro h
 refine zB ?_ ?_<;>intro j
 conv=>whnf
 exact λd=>bJ (ni e f (sI g) (BE i h j)) d
 conv=>whnf
 exact λd=>bJ (ni e f (sI g) (BD i h j)) d
 conv=>whnf
 exact λd=>bJ (ni e f (sI g) (KU i h)) d
 conv=>whnf
 ·repeat' first|(refine zB ?_ ?_<;>intro u)|exact λd=>bJ (ni e f (a7L m) agq) d
 cases q
def QB:List (FuncId×Dn):=(212,DH)::Qu
def BP:dU QB:= .cons Uy<|BM
end
section
variable {d e f:Bool}
def is1 {a b c} (h:a=true):true=(a||(b||c)):=by rw[h];rfl
def is2 {a b c} (h:a=false) (h1:b=true):true=(a||(b||c)):=by rw[h,h1];rfl
def is3 {a b c} (h:a=false) (h1:b=false):c=(a||(b||c)):=by rw[h,h1];rfl
def dIs:Dn
 |[.agg [.int x1 _,.int y1 _,.int z1 _],.agg [.int x2 _,.int y2 _,.int z2 _,.int x3 _,.int y3 _,.int z3 _,.int x4 _,.int y4 _,.int z4 _]]=>
  some (none,.c (.val (.bool (uK (⟨x1,y1,z1⟩:V3) (⟨x2,y2,z2⟩:V3)||(uK (⟨x1,y1,z1⟩:V3) (⟨x3,y3,z3⟩:V3)||uK (⟨x1,y1,z1⟩:V3) (⟨x4,y4,z4⟩:V3))))))
 |_=>none
def a7S:dW prog 220 dIs:=dC (un:=20) (n:=0) ⟨func220,kr,kr⟩ BP bg λN p v o=>by
 unfold dIs at o;split at o;rename_i k D i G j A y s x q E z M u r F J I Q H P B O L;cases o;refine⟨[.agg [.int k D,.int i G,.int j A],.agg [.int y s,.int x q,.int E z,.int M u,.int r F,.int J I,.int Q H,.int P B,.int O L]],fr,ff,ff,λ_=> ?_⟩;refine zB ?_ ?_<;>intro g;have g:uK (⟨k,i,j⟩:V3) (⟨y,x,E⟩:V3)=true:=g;conv=>whnf
 exact λm=>bJ (is1 g) m;have g:uK (⟨k,i,j⟩:V3) (⟨y,x,E⟩:V3)=false:=g;refine zB ?_ ?_<;>intro h;have h:uK (⟨k,i,j⟩:V3) (⟨M,r,J⟩:V3)=true:=h;conv=>whnf
 exact λm=>bJ (is2 g h) m;have h:uK (⟨k,i,j⟩:V3) (⟨M,r,J⟩:V3)=false:=h;conv=>whnf
 exact λm=>bJ (is3 g h) m;cases o
def Iy:List (FuncId×Dn):=(220,dIs)::QB
def vJ:dU Iy:= .cons a7S<|BP
abbrev a4o:ic:=vA 0 Iy
def Gv:iU prog a4o:=cm vJ 0
def NV:jv prog 210 Ll:=cV Gv bj (ck Gv bj bg 0) ⟨func210,kr,kr⟩ λB D K y=>by
 obtain⟨s,t,rfl,rfl,y⟩:=y;refine⟨λ_ _ _=>rfl,?_⟩;conv=>whnf
 refine fC (G:={g:Nat×uc×uc×(Nat->Value)//g.1<=3/\g.2.1.l=jf true s t g.1/\g.2.2.1.l=jf false s t g.1}) (λg=>.c (.val (g.1.2.2.2 0)):: .c (.val (g.1.2.2.2 1)):: .c (.ptr 0 0):: .c (.ptr 1 0):: .c (.val (g.1.2.2.2 4)):: .c (.val (g.1.2.2.2 5))::g.1.2.1.sl 2::g.1.2.2.1.sl 3:: .c (.int (g.1.1:Nat) (a4M g.2.1))::tn g.1.2.2.2 9 25 []) (λg=>[⟨58,false,qd s,0⟩,⟨58,false,qd t,0⟩,g.1.2.1.blk,g.1.2.2.1.blk]) (λg=>3-g.1.1) ?_ ?_;exact zY [0,1,1000+ 33,2000+ 33] [2,3,6,7,8] [0,1] λA=>⟨(0,uc.none,uc.none,A),ah _,rfl,rfl⟩;rintro⟨⟨k,j,o2,A⟩,z,p,q⟩;have z:k<=3:=z;have p:j.l=jf true s t k:=p;have q:o2.l=jf false s t k:=q;have x:k=3\/k=0\/k=1\/k=2:=om;rcases x with rfl|rfl|rfl|rfl;exact zO [2,3] [0,1] (y j o2 p q);refine zB ?_ ?_<;>intro u;have u:Bg s.a t=true:=u;refine⟨rfl,j.app (NB p),λm i=> ?_⟩;conv=>whnf
 have o:=a05 u;exact qg [0,1,5,3] [2,3,6,7,8] [0,1,2,3] (λh=>⟨(1,(j.push [s.a] rfl m i),o2,h),(by decide:1<=3),wj p o.1,q.trans o.2.symm⟩) (λh=>(by decide:3-1<3-0)) (λh=>⟨ff,ff,cL j.new.1 ff,o2.new.1,(by exact⟨fr,fr,fr,fr,fr,fr,λr=>uc.push_sl j [s.a] rfl m i 2 r,fr,fr,fr,fr,fr,fr,fr,fr,fr,fr,fr,fr,fr,fr,fr,fr,fr,fr,fr,fr,fr,fr,fr,fr,fr,fr,fr,trivial⟩),(by exact⟨⟨rfl,rfl,rfl,fr⟩,⟨rfl,rfl,rfl,fr⟩,uc.push_blk j [s.a] rfl m i fr,⟨rfl,rfl,rfl,fr⟩,trivial⟩)⟩);have u:Bg s.a t=false:=u;refine⟨rfl,o2.app (NB q),λm i=> ?_⟩;conv=>whnf
 have o:=a02 u;exact qg [0,1,2,5] [2,3,6,7,8] [0,1,2,3] (λh=>⟨(1,j,(o2.push [s.a] rfl m i),h),(by decide:1<=3),p.trans o.1.symm,wj q o.2⟩) (λh=>(by decide:3-1<3-0)) (λh=>⟨ff,ff,j.new.1,cL o2.new.1 ff,(by exact⟨fr,fr,fr,fr,fr,fr,fr,λr=>uc.push_sl o2 [s.a] rfl m i 3 r,fr,fr,fr,fr,fr,fr,fr,fr,fr,fr,fr,fr,fr,fr,fr,fr,fr,fr,fr,fr,fr,fr,fr,fr,fr,fr,trivial⟩),(by exact⟨⟨rfl,rfl,rfl,fr⟩,⟨rfl,rfl,rfl,fr⟩,⟨rfl,rfl,rfl,fr⟩,uc.push_blk o2 [s.a] rfl m i fr,trivial⟩)⟩);refine zB ?_ ?_<;>intro u;have u:Bg s.b t=true:=u;refine⟨rfl,j.app (NB p),λm i=> ?_⟩;conv=>whnf
 have o:=a06 u;exact qg [0,1,5,3] [2,3,6,7,8] [0,1,2,3] (λh=>⟨(2,(j.push [s.b] rfl m i),o2,h),(by decide:2<=3),wj p o.1,q.trans o.2.symm⟩) (λh=>(by decide:3-2<3-1)) (λh=>⟨ff,ff,cL j.new.1 ff,o2.new.1,(by exact⟨fr,fr,fr,fr,fr,fr,λr=>uc.push_sl j [s.b] rfl m i 2 r,fr,fr,fr,fr,fr,fr,fr,fr,fr,fr,fr,fr,fr,fr,fr,fr,fr,fr,fr,fr,fr,fr,fr,fr,fr,fr,fr,trivial⟩),(by exact⟨⟨rfl,rfl,rfl,fr⟩,⟨rfl,rfl,rfl,fr⟩,uc.push_blk j [s.b] rfl m i fr,⟨rfl,rfl,rfl,fr⟩,trivial⟩)⟩);have u:Bg s.b t=false:=u;refine⟨rfl,o2.app (NB q),λm i=> ?_⟩;conv=>whnf
 have o:=a03 u;exact qg [0,1,2,5] [2,3,6,7,8] [0,1,2,3] (λh=>⟨(2,j,(o2.push [s.b] rfl m i),h),(by decide:2<=3),p.trans o.1.symm,wj q o.2⟩) (λh=>(by decide:3-2<3-1)) (λh=>⟨ff,ff,j.new.1,cL o2.new.1 ff,(by exact⟨fr,fr,fr,fr,fr,fr,fr,λr=>uc.push_sl o2 [s.b] rfl m i 3 r,fr,fr,fr,fr,fr,fr,fr,fr,fr,fr,fr,fr,fr,fr,fr,fr,fr,fr,fr,fr,fr,fr,fr,fr,fr,fr,trivial⟩),(by exact⟨⟨rfl,rfl,rfl,fr⟩,⟨rfl,rfl,rfl,fr⟩,⟨rfl,rfl,rfl,fr⟩,uc.push_blk o2 [s.b] rfl m i fr,trivial⟩)⟩);refine zB ?_ ?_<;>intro u;have u:Bg s.c t=true:=u;refine⟨rfl,j.app (NB p),λm i=> ?_⟩;conv=>whnf
 have o:=a07 u;exact qg [0,1,5,3] [2,3,6,7,8] [0,1,2,3] (λh=>⟨(3,(j.push [s.c] rfl m i),o2,h),(by decide:3<=3),wj p o.1,q.trans o.2.symm⟩) (λh=>(by decide:3-3<3-2)) (λh=>⟨ff,ff,cL j.new.1 ff,o2.new.1,(by exact⟨fr,fr,fr,fr,fr,fr,λr=>uc.push_sl j [s.c] rfl m i 2 r,fr,fr,fr,fr,fr,fr,fr,fr,fr,fr,fr,fr,fr,fr,fr,fr,fr,fr,fr,fr,fr,fr,fr,fr,fr,fr,fr,trivial⟩),(by exact⟨⟨rfl,rfl,rfl,fr⟩,⟨rfl,rfl,rfl,fr⟩,uc.push_blk j [s.c] rfl m i fr,⟨rfl,rfl,rfl,fr⟩,trivial⟩)⟩);have u:Bg s.c t=false:=u;refine⟨rfl,o2.app (NB q),λm i=> ?_⟩;conv=>whnf
 have o:=a04 u;exact qg [0,1,2,5] [2,3,6,7,8] [0,1,2,3] (λh=>⟨(3,j,(o2.push [s.c] rfl m i),h),(by decide:3<=3),p.trans o.1.symm,wj q o.2⟩) (λh=>(by decide:3-3<3-2)) (λh=>⟨ff,ff,j.new.1,cL o2.new.1 ff,(by exact⟨fr,fr,fr,fr,fr,fr,fr,λr=>uc.push_sl o2 [s.c] rfl m i 3 r,fr,fr,fr,fr,fr,fr,fr,fr,fr,fr,fr,fr,fr,fr,fr,fr,fr,fr,fr,fr,fr,fr,fr,fr,fr,fr,trivial⟩),(by exact⟨⟨rfl,rfl,rfl,fr⟩,⟨rfl,rfl,rfl,fr⟩,⟨rfl,rfl,rfl,fr⟩,uc.push_blk o2 [s.c] rfl m i fr,trivial⟩)⟩)
def a64 {a b c} (h:a=true):true=((a||(b||c))||(d||(e||f))):=by rw[h];rfl
def a65 {a b c} (h:d=true):true=((a||(b||c))||(d||(e||f))):=by rw[h];simp
def a66 {a b c} (h:b=true):true=((a||(b||c))||(d||(e||f))):=by rw[h];simp
def a67 {a b c} (h:e=true):true=((a||(b||c))||(d||(e||f))):=by rw[h];simp
def a68 {a b c} (h:c=true):true=((a||(b||c))||(d||(e||f))):=by rw[h];simp
def a69 {a b c} (h:f=true):true=((a||(b||c))||(d||(e||f))):=by rw[h];simp
def a63 {a b c} (g:a=false) (j:d=false) (hb:b=false) (h:e=false) (k:c=false) (i:f=false):false=((a||(b||c))||(d||(e||f))):=by rw[g,hb,k,j,h,i];rfl
def Dw:Dn
 |[.agg [.int x1 _,.int y1 _,.int z1 _,.int x2 _,.int y2 _,.int z2 _,.int x3 _,.int y3 _,.int z3 _],.agg [.int x4 _,.int y4 _,.int z4 _,.int x5 _,.int y5 _,.int z5 _,.int x6 _,.int y6 _,.int z6 _]]=>
  some (none,.c (.val (.bool (vo ⟨x1,y1,z1⟩ ⟨x2,y2,z2⟩ ⟨x3,y3,z3⟩ ⟨x4,y4,z4⟩ ⟨x5,y5,z5⟩ ⟨x6,y6,z6⟩||vo ⟨x4,y4,z4⟩ ⟨x5,y5,z5⟩ ⟨x6,y6,z6⟩ ⟨x1,y1,z1⟩ ⟨x2,y2,z2⟩ ⟨x3,y3,z3⟩))))
 |_=>none
def Ui:dW prog 211 Dw:=dC (un:=20) (n:=0) ⟨func211,kr,kr⟩ vJ bg λL p v h=>by
 unfold Dw at h;split at h;rename_i x1 x W A z1 r U j T i z2 q x3 m P z z3 D x4 B R u Q F X k y5 G Y o x6 s Z y V E;cases h;refine⟨[.agg [.int x1 x,.int W A,.int z1 r,.int U j,.int T i,.int z2 q,.int x3 m,.int P z,.int z3 D],.agg [.int x4 B,.int R u,.int Q F,.int X k,.int y5 G,.int Y o,.int x6 s,.int Z y,.int V E]],fr,ff,ff,λ_=> ?_⟩;refine zB ?_ ?_<;>intro O;conv=>whnf
 exact λg=>bJ (a64 O) g;refine zB ?_ ?_<;>intro H;conv=>whnf
 exact λg=>bJ (a65 H) g;refine zB ?_ ?_<;>intro N;conv=>whnf
 exact λg=>bJ (a66 N) g;refine zB ?_ ?_<;>intro M;conv=>whnf
 exact λg=>bJ (a67 M) g;refine zB ?_ ?_<;>intro J;conv=>whnf
 exact λg=>bJ (a68 J) g;refine zB ?_ ?_<;>intro I;conv=>whnf
 exact λg=>bJ (a69 I) g;conv=>whnf
 exact λg=>bJ (a63 O H N M J I) g;cases h
def Iz:List (FuncId×Dn):=(211,Dw)::Iy
def BO:dU Iz:= .cons Ui<|vJ
def Qc:List (FuncId×cP):=[(210,Ll)]
def Nz:iL prog Qc:= .cons NV .nil
abbrev Si:ic:=vA 20 Iz
def Gs:iU prog Si:=cm BO 20
abbrev H_R:=hnew Qc (inl Si Mh 0)
def a0q:ko prog H_R:=dX Nz (ck Gs bj bg 0)
def YU s t:A5 Si H_R f206 [.agg (qd s),.agg (qd t)] [] λu _=> ∀ρ,u.den ρ=(SV.c (.val (.bool (zu s t)))).den ρ:=by
 refine⟨ff,ff,trivial,⟨s,t,rfl,rfl,?_⟩⟩;intro D E r z;refine⟨ff,ff,trivial,⟨t,s,rfl,rfl,?_⟩⟩;intro o2 A y B;obtain⟨l1,J,c1,V⟩:=D;obtain⟨X,M,Y,L⟩:=E;obtain⟨N,Z,R,P⟩:=o2;obtain⟨U,W,O,T⟩:=A;simp only at r y z B;subst r y z B
 cases hz:qv s t with
 |true=>refine zB ?_ ?_<;>intro H;(conv=>whnf);exact λρ=>bJ (a2t hz) ρ;refine zB ?_ ?_<;>intro I;(conv=>whnf);exact λρ=>bJ (a2t hz) ρ;refine zB ?_ ?_<;>intro F;(conv=>whnf);exact λρ=>bJ (a2t hz) ρ;exact absurd (hz.symm.trans ((ap3 H I).symm.trans F)) dc
 |false=>obtain⟨p,o,G⟩:=JM hz;rcases G with⟨a,u,A,c,v,Q,h,i,m,j⟩|⟨a,b,u,c,d,v,h,i,m,j⟩|⟨a,b,c,d,e,f,h,i,m,j⟩;have k:=λ{x:Bool}=>a2s (x:=x) hz h i j;clear hz;generalize mb true s t=L1 at*;generalize mb false s t=L2 at*;generalize mb true t s=L3 at*;generalize mb false t s=L4 at*;subst h i m j;(conv=>whnf);refine eB (λq=>absurd (p.symm.trans q) dc) (λ_=> ?_);(conv=>whnf);refine eB (λq=>absurd (o.symm.trans q) dc) (λ_=> ?_);refine zB ?_ ?_<;>intro g;(conv=>whnf);exact λρ=>bJ (k (a7A g)) ρ;(conv=>whnf);exact λρ=>bJ (k (a7B g)) ρ;have k:=λ{x:Bool}=>a2s (x:=x) hz h i j;clear hz;generalize mb true s t=L1 at*;generalize mb false s t=L2 at*;generalize mb true t s=L3 at*;generalize mb false t s=L4 at*;subst h i m j;(conv=>whnf);refine eB (λq=>absurd (p.symm.trans q) dc) (λ_=> ?_);(conv=>whnf);refine eB (λq=>absurd (o.symm.trans q) dc) (λ_=> ?_);refine zB ?_ ?_<;>intro g;(conv=>whnf);exact λρ=>bJ (k (a7C g)) ρ;(conv=>whnf);exact λρ=>bJ (k (a7D g)) ρ;have k:=λ{x:Bool}=>a2s (x:=x) hz h i j;clear hz;generalize mb true s t=L1 at*;generalize mb false s t=L2 at*;generalize mb true t s=L3 at*;generalize mb false t s=L4 at*;subst h i m j;(conv=>whnf);refine eB (λq=>absurd (p.symm.trans q) dc) (λ_=> ?_);(conv=>whnf);refine eB (λq=>absurd (o.symm.trans q) dc) (λ_=> ?_);(conv=>whnf);exact λρ=>bJ (k rfl) ρ
def Je:Dn
 |[.agg [.int x1 hx1,.int y1 hy1,.int z1 hz1,.int x2 hx2,.int y2 hy2,.int z2 hz2,.int x3 hx3,.int y3 hy3,.int z3 hz3],.agg [.int x4 hx4,.int y4 hy4,.int z4 hz4,.int x5 hx5,.int y5 hy5,.int z5 hz5,.int x6 hx6,.int y6 hy6,.int z6 hz6]]=>some (none,.c (.val (.bool (zu ⟨⟨x1,y1,z1,hx1,hy1,hz1⟩,⟨x2,y2,z2,hx2,hy2,hz2⟩,⟨x3,y3,z3,hx3,hy3,hz3⟩⟩ ⟨⟨x4,y4,z4,hx4,hy4,hz4⟩,⟨x5,y5,z5,hx5,hy5,hz5⟩,⟨x6,y6,z6,hx6,hy6,hz6⟩⟩))))
 |_=>none
def Yt:dW prog 206 Je:=⟨(⟨func206,kr,kr⟩:iM prog 206 f206).callable,λG p v g=>by unfold Je at g;split at g;rename_i W u O z T q M i L h V o Z k H y X B Y A J s I E P j U F Q m x6 r R x N D;cases g;exact⟨ff,λ_ ρ w=>TJ Gs a0q ⟨func206,kr,kr⟩ ff ff (YU ⟨⟨W,O,T,u,z,q⟩,⟨M,L,V,i,h,o⟩,⟨Z,H,X,k,y,B⟩⟩ ⟨⟨Y,J,I,A,s,E⟩,⟨P,U,Q,j,F,m⟩,⟨x6,R,N,r,x,D⟩⟩) ρ w⟩;cases g⟩
def Qz:List (FuncId×Dn):=(206,Je)::Iz
def NO:dU Qz:= .cons Yt<|BO
end
attribute [local irreducible] zu
def Dd:List (FuncId×Dn):=(100,LA)::(143,WH)::(194,Ly)::(180,DC)::Qz
def k6:dU Dd:= .cons Uv<| .cons a0e<| .cons Up<| .cons MP<|NO
def yZ (un:Nat):ic:={vA un Dd with O:=lR qo}
def dK un:iU prog (yZ un):=⟨(cm k6 un).T,(cm k6 un).D,gy eD,(cm k6 un).R,λ_ _ _ _ h=>(show False from h).elim⟩
noncomputable def ZD (un:Nat):ic:=p7 (yZ un) a2N
def lN un:iU prog (ZD un):=jM (dK un) My
def meC:List (FuncId×cP):=[(205,QO)]
def a2o:iL prog meC:= .cons V9 .nil
def Q0:cP:=λd e K=> ∃t nl A c h ty,d=[.agg (qd t),.c (.sli nl 0 0 (ln A) c h)]/\e=[⟨.t ty,true,bG bU A,0⟩]/\ ∀b:Bool,K (.c (.val (.bool b))) []
def Wk:jv prog 197 Q0:=cV (lN 0) bj (dX a2o (ck (lN 0) bj bg 0)) ⟨func197,kr,kr⟩ λj m K e=>by
 obtain⟨t,y,A,c,h,r,rfl,rfl,e⟩:=e;refine⟨zD,?_⟩;conv=>whnf
 refine zK [0,1] [1,2,5] [0] (G:={k:Nat//k<=ln A}) (λg=>[(5,.c (.int (g.1:Nat) (aR h g.2)))]) (λ_=>[]) (λg=>ln A-g.1) ⟨0,ah _⟩ trivial ?_;rintro ⟨k,f⟩ vs2;have f:k<=ln A:=f;dsimp only;refine zB ?_ ?_<;>intro i;have d:k<ln A:=dL i;refine eS ?_;refine zB ?_ ?_<;>intro x;exact dD [0,1] ⟨k+1,d⟩;refine⟨ff,ff,trivial,jC A[k],jC t,rfl,rfl,λb=> ?_⟩;refine zB ?_ ?_<;>intro p;exact dD [0,1] ⟨k+1,d⟩;refine zB ?_ ?_<;>intro q;exact zO [0] [0] (e _);exact dD [0,1] ⟨k+1,d⟩;exact zO [0] [0] (e _)
def fiC:List (FuncId×cP):=[(197,Q0)]
def a1N:iL prog fiC:= .cons Wk .nil
def Lf:cP:=λd e K=> ∃f A c h n2 R c2 h2 t t2 u v,d=[.c (.sli f 0 0 (ln A) c h),.c (.sli n2 1 0 (ln R) c2 h2),.agg (pC u),.agg (pC v)]/\e=[⟨.t t,true,bG bU A,0⟩,⟨.t t2,true,bG bU R,0⟩]/\ ∀b:Bool,K (.c (.val (.bool b))) []
def RC:jv prog 179 Lf:=cV (lN 0) bj (dX a1N (ck (lN 0) bj bg 0)) ⟨func179,kr,kr⟩ λm r K e=>by
 obtain⟨H,A,c,h,p,R,x,o,t,E,u,v,rfl,rfl,e⟩:=e;have f:cC (bG bU R):=ab bU R;refine⟨zD,?_⟩;conv=>whnf
 refine zK [0,1,2,3] [0,1,6,7,9] [0,1] (G:={k:Nat//k<=ln A}) (λg=>[(9,.c (.int (g.1:Nat) (aR h g.2)))]) (λ_=>[]) (λg=>ln A-g.1) ⟨0,ah _⟩ trivial ?_
 iterate 2
  try
   refine zB ?_ ?_<;>intro q
   exact zO [0,1] [0,1] (e _)
   refine zB ?_ ?_<;>intro z
   exact zO [0,1] [0,1] (e _)
   exact dD [0,1,2,3] ⟨k+1,d⟩
   conv=>whnf
   refine zK [0,1,2,3] [0,1,6,7,13] [0,1] (G:={k:Nat//k<=ln A}) (λg=>[(13,.c (.int (g.1:Nat) (aR h g.2)))]) (λ_=>[]) (λg=>ln A-g.1) ⟨0,ah _⟩ trivial ?_
  rintro ⟨k,i⟩ vs2
  have i:k<=ln A:=i
  dsimp only
  refine zB ?_ ?_<;>intro j
  have d:k<ln A:=dL j
  refine eS ?_
  refine zB ?_ ?_<;>intro F
  exact dD [0,1,2,3] ⟨k+1,d⟩
  refine zB ?_ ?_<;>intro y
  exact dD [0,1,2,3] ⟨k+1,d⟩
 refine⟨ff,⟨f,trivial⟩,jO A[k] u v,p,R,x,o,_,rfl,rfl,λb=> ?_⟩;refine zB ?_ ?_<;>intro q;exact zO [0,1] [0,1] (e _);exact dD [0,1,2,3] ⟨k+1,d⟩;exact zO [0,1] [0,1] (e _)
section
variable {α:Type}
def PP (R:RW α):Prop:= ∀a b,R.c a=R.c b->a=b
def mj.uniqR {R:RW α} (hi:PP R) {cs off} {A B:List α} (h:mj R cs off A) (k:mj R cs off B) (e:ln A=ln B):A=B:=by refine jg e λi f d=> ?_;have:=(h.get f).symm.trans (k.get d);exact hi _ _ (Option.some.inj this)
open Classical in
noncomputable def eU (R:RW α) (cs:List C) (off n:Nat):List α:=if h: ∃A:List α,ln A=n/\mj R cs off A then Classical.choose h else []
def lQ {R:RW α} (hi:PP R) {cs off} {A:List α} (h:mj R cs off A):eU R cs off (ln A)=A:=by unfold eU;have d: ∃B:List α,ln B=ln A/\mj R cs off B:=⟨A,rfl,h⟩;rw[dif_pos d];have e:=Classical.choose_spec d;exact mj.uniqR hi e.2 h e.1
def m7 {R:RW α} (hi:PP R) (A:List α):eU R (bG R A) 0 (ln A)=A:=lQ hi (mj.self R A)
attribute [irreducible] eU
def pX:PP bU:=λa b h=>by obtain⟨⟨x,y,z,P,N,Q⟩,⟨L,J,O,o,k,r⟩,⟨V,I,T,p,E,H⟩⟩:=a;obtain⟨⟨U,R,M,F,s,B⟩,⟨G,u,m,f,d,e⟩,⟨D,q,A,j,i,g⟩⟩:=b;have h:qd _=qd _:=h;simp only[qd,AV.injEq,C.int.injEq,and_true] at h;obtain⟨rfl,rfl,rfl,rfl,rfl,rfl,rfl,rfl,rfl⟩:=h;rfl
end
def a8e:Dn
 |[.agg [.wid ju0 u0 hu0,.wid ju1 u1 hu1,.wid ju2 u2 hu2],.agg [.wid jv0 v0 hv0,.wid jv1 v1 hv1,.wid jv2 v2 hv2]]=>
  if ju0<=10000000/\ju1<=10000000/\ju2<=10000000/\jv0<=10000000/\jv1<=10000000/\jv2<=10000000 then some (none,.agg [.wid ((ju1+jv2)+(ju2+jv1)+1) (u1*v2-u2*v1) (aH (Sm.mul hu1 hv2) (Sm.mul hu2 hv1)),.wid ((ju2+jv0)+(ju0+jv2)+1) (u2*v0-u0*v2) (aH (Sm.mul hu2 hv0) (Sm.mul hu0 hv2)),.wid ((ju0+jv1)+(ju1+jv0)+1) (u0*v1-u1*v0) (aH (Sm.mul hu0 hv1) (Sm.mul hu1 hv0))]) else none
 |_=>none
def Y8:List (FuncId×Dn):=Qi
def yr:dU Y8:=FF
def a3s:Dn
 |[.agg [.int x1 hx1,.int y1 hy1,.int z1 hz1,.int x2 hx2,.int y2 hy2,.int z2 hz2,.int x3 hx3,.int y3 hy3,.int z3 hz3]]=>
  some (none,.agg [.wid 517 ((y2-y1)*(z3-z1)-(z2-z1)*(y3-y1)) (aH (Sm.mul (aH (cG hy2) (cG hy1)) (aH (cG hz3) (cG hz1))) (Sm.mul (aH (cG hz2) (cG hz1)) (aH (cG hy3) (cG hy1)))),.wid 517 ((z2-z1)*(x3-x1)-(x2-x1)*(z3-z1)) (aH (Sm.mul (aH (cG hz2) (cG hz1)) (aH (cG hx3) (cG hx1))) (Sm.mul (aH (cG hx2) (cG hx1)) (aH (cG hz3) (cG hz1)))),.wid 517 ((x2-x1)*(y3-y1)-(y2-y1)*(x3-x1)) (aH (Sm.mul (aH (cG hx2) (cG hx1)) (aH (cG hy3) (cG hy1))) (Sm.mul (aH (cG hy2) (cG hy1)) (aH (cG hx3) (cG hx1))))])
 |_=>none
def vT:Dn
 |[.agg [.wid ja a ha],.agg [.wid jb b hb],.agg [.wid jc c hc],.agg [.wid jd d hd]]=>
  if ja<=20000000/\jb<=20000000/\jc<=20000000/\jd<=20000000 then some (none,.agg [.wid ((ja+jb)+(jc+jd)+1) (a*b-c*d) (aH (Sm.mul ha hb) (Sm.mul hc hd))]) else none
 |_=>none
def Kn:dW prog 215 vT:=dC (un:=20) (n:=0) ⟨func215,kr,kr⟩ yr bg λg p v f=>by
 unfold vT at f;split at f;rename_i m a h q b j o c i k d f;split at f;rename_i e;cases f;refine⟨[.agg [.wid 20000000 a (h.mono e.1)],.agg [.wid 20000000 b (j.mono e.2.1)],.agg [.wid 20000000 c (i.mono e.2.2.1)],.agg [.wid 20000000 d (f.mono e.2.2.2)]],fr,ff,ff,λ_=> ?_⟩;conv=>whnf
 exact λ_=>rfl;cases f;cases f
def yQ:Dn
 |[.agg [.int x1 hx1,.int y1 hy1,.int z1 hz1],.agg [.int x2 hx2,.int y2 hy2,.int z2 hz2]]=>
  some (none,.agg [.wid 129 (x2-x1) (aH (cG hx2) (cG hx1)),.wid 129 (y2-y1) (aH (cG hy2) (cG hy1)),.wid 129 (z2-z1) (aH (cG hz2) (cG hz1))])
 |_=>none
def O8:dW prog 184 yQ:=dC (un:=20) (n:=0) ⟨func184,kr,kr⟩ yr bg λk p v d=>by
 unfold yQ at d;split at d;rename_i u i q j r h o f m e s g;cases d;refine⟨[.agg [.int u i,.int q j,.int r h],.agg [.int o f,.int m e,.int s g]],fr,ff,ff,λ_=> ?_⟩;conv=>whnf
 exact λ_=>rfl;cases d
def Y9:List (FuncId×Dn):=(215,vT)::(184,yQ)::Y8
def FH:dU Y9:= .cons Kn<| .cons O8<|yr
def vW:Dn
 |[.agg [.wid ju0 u0 hu0,.wid ju1 u1 hu1,.wid ju2 u2 hu2],.agg [.wid jv0 v0 hv0,.wid jv1 v1 hv1,.wid jv2 v2 hv2]]=>
  if ju0<=10000000/\ju1<=10000000/\ju2<=10000000/\jv0<=10000000/\jv1<=10000000/\jv2<=10000000 then some (none,.agg [.wid ((ju1+jv2)+(ju2+jv1)+1) (u1*v2-u2*v1) (aH (Sm.mul hu1 hv2) (Sm.mul hu2 hv1)),.wid ((ju2+jv0)+(ju0+jv2)+1) (u2*v0-u0*v2) (aH (Sm.mul hu2 hv0) (Sm.mul hu0 hv2)),.wid ((ju0+jv1)+(ju1+jv0)+1) (u0*v1-u1*v0) (aH (Sm.mul hu0 hv1) (Sm.mul hu1 hv0))]) else none
 |_=>none
def Ks:dW prog 208 vW:=dC (un:=20) (n:=0) ⟨func208,kr,kr⟩ FH bg λm p v e=>by
 unfold vW at e;split at e;rename_i A E h B z k D x g r o f q y i u s j;split at e;rename_i d;cases e;refine⟨[.agg [.wid 10000000 E (h.mono d.1),.wid 10000000 z (k.mono d.2.1),.wid 10000000 x (g.mono d.2.2.1)],.agg [.wid 10000000 o (f.mono d.2.2.2.1),.wid 10000000 y (i.mono d.2.2.2.2.1),.wid 10000000 s (j.mono d.2.2.2.2.2)]],fr,ff,ff,λ_=> ?_⟩;conv=>whnf
 exact λ_=>rfl;cases e;cases e
def Za:List (FuncId×Dn):=(208,vW)::Y9
def qx:dU Za:= .cons Ks<|FH
def th:Dn
 |[.agg [.int x1 hx1,.int y1 hy1,.int z1 hz1,.int x2 hx2,.int y2 hy2,.int z2 hz2,.int x3 hx3,.int y3 hy3,.int z3 hz3]]=>
  some (none,.agg [.wid 517 ((y2-y1)*(z3-z1)-(z2-z1)*(y3-y1)) (aH (Sm.mul (aH (cG hy2) (cG hy1)) (aH (cG hz3) (cG hz1))) (Sm.mul (aH (cG hz2) (cG hz1)) (aH (cG hy3) (cG hy1)))),.wid 517 ((z2-z1)*(x3-x1)-(x2-x1)*(z3-z1)) (aH (Sm.mul (aH (cG hz2) (cG hz1)) (aH (cG hx3) (cG hx1))) (Sm.mul (aH (cG hx2) (cG hx1)) (aH (cG hz3) (cG hz1)))),.wid 517 ((x2-x1)*(y3-y1)-(y2-y1)*(x3-x1)) (aH (Sm.mul (aH (cG hx2) (cG hx1)) (aH (cG hy3) (cG hy1))) (Sm.mul (aH (cG hy2) (cG hy1)) (aH (cG hx3) (cG hx1))))])
 |_=>none
def HG:dW prog 203 th:=dC (un:=20) (n:=0) ⟨func203,kr,kr⟩ qx bg λq p v d=>by
 unfold th at d;split at d;rename_i A j x m y i u f s e z h D g r k B o;cases d;refine⟨[.agg [.int A j,.int x m,.int y i,.int u f,.int s e,.int z h,.int D g,.int r k,.int B o]],fr,ff,ff,λ_=> ?_⟩;conv=>whnf
 exact λ_=>rfl;cases d
def Jh:Dn
 |[.c (.int n hn)]=>
  some (none,.agg [.wid 64 (n) (cG hn)])
 |_=>none
def Yw:dW prog 192 Jh:=dC (un:=20) (n:=0) ⟨func192,kr,kr⟩ qx bg λe p v d=>by
 unfold Jh at d;split at d;rename_i n f;cases d;refine⟨[.c (.int n f)],fr,ff,ff,λ_=> ?_⟩;conv=>whnf
 exact λ_=>rfl;cases d
def Jg:Dn
 |[.agg [.wid ja a ha],.agg [.wid jb b hb]]=>
  if ja<=80000000/\jb<=80000000 then some (none,.agg [.wid (ja+jb) (a*b) (Sm.mul ha hb)]) else none
 |_=>none
def Yv:dW prog 193 Jg:=dC (un:=20) (n:=0) ⟨func193,kr,kr⟩ qx bg λf p v e=>by
 unfold Jg at e;split at e;rename_i j a g i b h;split at e;rename_i d;cases e;refine⟨[.agg [.wid 80000000 a (g.mono d.1)],.agg [.wid 80000000 b (h.mono d.2)]],fr,ff,ff,λ_=> ?_⟩;conv=>whnf
 exact λ_=>rfl;cases e;cases e
def IY:Dn
 |[.agg [.wid ja a ha],.agg [.wid jb b hb]]=>
  if ja<=80000000/\jb<=80000000 then some (none,.agg [.wid (ja+jb+1) (a+b) (cp ha hb)]) else none
 |_=>none
def Ym:dW prog 181 IY:=dC (un:=20) (n:=0) ⟨func181,kr,kr⟩ qx bg λf p v e=>by
 unfold IY at e;split at e;rename_i j a g i b h;split at e;rename_i d;cases e;refine⟨[.agg [.wid 80000000 a (g.mono d.1)],.agg [.wid 80000000 b (h.mono d.2)]],fr,ff,ff,λ_=> ?_⟩;conv=>whnf
 exact λ_=>rfl;cases e;cases e
section
variable {m:List C}
def cW {j k y z hy d} (h:y=z) ρ:(C.wid j y hy).cells ρ=(C.wid k z d).cells ρ:=by subst h;rfl
def aW {ρ x y l} (h1:x.cells ρ=y.cells ρ) (h2:af ρ l=af ρ m):af ρ (x::l)=af ρ (y::m):=by rw[cO,cO,h1,h2]
def rD {ρ l} (h:af ρ l=af ρ m):(SV.agg l).den ρ=(SV.agg m).den ρ:=by rw[pn,pn,h]
def Zb:List (FuncId×Dn):=(203,th)::(192,Jh)::(193,Jg)::(181,IY)::Za
def FI:dU Zb:= .cons HG<| .cons Yw<| .cons Yv<| .cons Ym<|qx
def F8:Dn
 |[.agg [.int x1 hx1,.int y1 hy1,.int z1 hz1,.int x2 hx2,.int y2 hy2,.int z2 hz2,.int x3 hx3,.int y3 hy3,.int z3 hz3]]=>
  some (none,.agg [.wid 517 ((y2-y1)*(z3-z1)-(z2-z1)*(y3-y1)) (aH (Sm.mul (aH (cG hy2) (cG hy1)) (aH (cG hz3) (cG hz1))) (Sm.mul (aH (cG hz2) (cG hz1)) (aH (cG hy3) (cG hy1)))),.wid 517 ((z2-z1)*(x3-x1)-(x2-x1)*(z3-z1)) (aH (Sm.mul (aH (cG hz2) (cG hz1)) (aH (cG hx3) (cG hx1))) (Sm.mul (aH (cG hx2) (cG hx1)) (aH (cG hz3) (cG hz1)))),.wid 517 ((x2-x1)*(y3-y1)-(y2-y1)*(x3-x1)) (aH (Sm.mul (aH (cG hx2) (cG hx1)) (aH (cG hy3) (cG hy1))) (Sm.mul (aH (cG hy2) (cG hy1)) (aH (cG hx3) (cG hx1)))),.wid 1810 (0-(((y2-y1)*(z3-z1)-(z2-z1)*(y3-y1))*x1+(((z2-z1)*(x3-x1)-(x2-x1)*(z3-z1))*y1+((x2-x1)*(y3-y1)-(y2-y1)*(x3-x1))*z1))) (aH (cG (n:=0) dc) (cp (Sm.mul (aH (Sm.mul (aH (cG hy2) (cG hy1)) (aH (cG hz3) (cG hz1))) (Sm.mul (aH (cG hz2) (cG hz1)) (aH (cG hy3) (cG hy1)))) (cG hx1)) (cp (Sm.mul (aH (Sm.mul (aH (cG hz2) (cG hz1)) (aH (cG hx3) (cG hx1))) (Sm.mul (aH (cG hx2) (cG hx1)) (aH (cG hz3) (cG hz1)))) (cG hy1)) (Sm.mul (aH (Sm.mul (aH (cG hx2) (cG hx1)) (aH (cG hy3) (cG hy1))) (Sm.mul (aH (cG hy2) (cG hy1)) (aH (cG hx3) (cG hx1)))) (cG hz1)))))])
 |_=>none
def a3A:dW prog 191 F8:=dC (un:=20) (n:=0) ⟨func191,kr,kr⟩ FI bg λr p v d=>by
 unfold F8 at d;split at d;rename_i B j y o z i x f u e A h E g s k D q;cases d;refine⟨[.agg [.int B j,.int y o,.int z i,.int x f,.int u e,.int A h,.int E g,.int s k,.int D q]],fr,ff,ff,λ_=> ?_⟩;conv=>whnf
 exact λ_=>rfl;cases d
end
section
def J2 (_ e d _ f i _ g h:Int):Int:=(f-e)*(h-d)-(i-d)*(g-e)
def J3 (d _ e f _ i h _ g:Int):Int:=(i-e)*(h-d)-(f-d)*(g-e)
def J4 (d e _ f h _ i g _:Int):Int:=(f-d)*(g-e)-(h-e)*(i-d)
def Mw (e d f j m i k g h:Int):Int:= -(J2 e d f j m i k g h*e+J3 e d f j m i k g h*d+J4 e d f j m i k g h*f)
section
variable {x1 y1 z1 x2 y2 z2 x3 y3 z3:Int} (h1:IR x1) (h2:IR y1) (h3:IR z1) (h4:IR x2) (h5:IR y2) (h6:IR z2) (h7:IR x3) (h8:IR y3) (h9:IR z3)
include h1 h2 h3 h4 h5 h6 h7 h8 h9
theorem lp:Sm 517 (J2 x1 y1 z1 x2 y2 z2 x3 y3 z3):=by exact aH (Sm.mul (aH (cG h5) (cG h2)) (aH (cG h9) (cG h3))) (Sm.mul (aH (cG h6) (cG h3)) (aH (cG h8) (cG h2)))
theorem lr:Sm 517 (J3 x1 y1 z1 x2 y2 z2 x3 y3 z3):=by exact aH (Sm.mul (aH (cG h6) (cG h3)) (aH (cG h7) (cG h1))) (Sm.mul (aH (cG h4) (cG h1)) (aH (cG h9) (cG h3)))
theorem lA:Sm 517 (J4 x1 y1 z1 x2 y2 z2 x3 y3 z3):=by exact aH (Sm.mul (aH (cG h4) (cG h1)) (aH (cG h8) (cG h2))) (Sm.mul (aH (cG h5) (cG h2)) (aH (cG h7) (cG h1)))
theorem l6:Sm 1745 (Mw x1 y1 z1 x2 y2 z2 x3 y3 z3):=(cp (cp (Sm.mul (lp h1 h2 h3 h4 h5 h6 h7 h8 h9) (cG h1)) (Sm.mul (lr h1 h2 h3 h4 h5 h6 h7 h8 h9) (cG h2))) (Sm.mul (lA h1 h2 h3 h4 h5 h6 h7 h8 h9) (cG h3))).neg
end
def vV:Dn
 |[.agg [.int x1 hx1,.int y1 hy1,.int z1 hz1,.int x2 hx2,.int y2 hy2,.int z2 hz2,.int x3 hx3,.int y3 hy3,.int z3 hz3]]=>some (none,.agg [.wid 517 (J2 x1 y1 z1 x2 y2 z2 x3 y3 z3) (lp hx1 hy1 hz1 hx2 hy2 hz2 hx3 hy3 hz3),.wid 517 (J3 x1 y1 z1 x2 y2 z2 x3 y3 z3) (lr hx1 hy1 hz1 hx2 hy2 hz2 hx3 hy3 hz3),.wid 517 (J4 x1 y1 z1 x2 y2 z2 x3 y3 z3) (lA hx1 hy1 hz1 hx2 hy2 hz2 hx3 hy3 hz3),.wid 1745 (Mw x1 y1 z1 x2 y2 z2 x3 y3 z3) (l6 hx1 hy1 hz1 hx2 hy2 hz2 hx3 hy3 hz3)])
 |_=>none
theorem Kr:dW prog 191 vV:=⟨a3A.1,λg p v d=>by unfold vV at d;split at d;rename_i G s D x E r B j A i F o J m z u H y;cases d;refine⟨ff,λ_ h w=> ?_⟩;refine((a3A.2 _ _ _ rfl).2 (λq k=>by cases k) h w).mono λe I f=>⟨f.1.trans (congrArg Ending.returned ?_),f.2⟩;refine rD (aW rfl (aW rfl (aW rfl (aW (cW ?_ h) rfl))));unfold Mw J2 J3 J4;simp only[ph,Int.neg_add,Int.zero_add,Int.add_assoc];cases d⟩
def Zc:List (FuncId×Dn):=(191,vV)::Zb
theorem uo:dU Zc:= .cons Kr<|FI
def RT:Dn
 |[.agg [.int x1 hx1,.int y1 hy1,.int z1 hz1,.int x2 hx2,.int y2 hy2,.int z2 hz2,.int x3 hx3,.int y3 hy3,.int z3 hz3]]=>
  some (none,.agg [.wid 1034 (J2 x1 y1 z1 x2 y2 z2 x3 y3 z3*J2 x1 y1 z1 x2 y2 z2 x3 y3 z3) (Sm.mul (lp hx1 hy1 hz1 hx2 hy2 hz2 hx3 hy3 hz3) (lp hx1 hy1 hz1 hx2 hy2 hz2 hx3 hy3 hz3)),.wid 1098 (2*(J2 x1 y1 z1 x2 y2 z2 x3 y3 z3*J3 x1 y1 z1 x2 y2 z2 x3 y3 z3)) (Sm.mul (cG (n:=2) dc) (Sm.mul (lp hx1 hy1 hz1 hx2 hy2 hz2 hx3 hy3 hz3) (lr hx1 hy1 hz1 hx2 hy2 hz2 hx3 hy3 hz3))),.wid 1098 (2*(J2 x1 y1 z1 x2 y2 z2 x3 y3 z3*J4 x1 y1 z1 x2 y2 z2 x3 y3 z3)) (Sm.mul (cG (n:=2) dc) (Sm.mul (lp hx1 hy1 hz1 hx2 hy2 hz2 hx3 hy3 hz3) (lA hx1 hy1 hz1 hx2 hy2 hz2 hx3 hy3 hz3))),.wid 2326 (2*(J2 x1 y1 z1 x2 y2 z2 x3 y3 z3*Mw x1 y1 z1 x2 y2 z2 x3 y3 z3)) (Sm.mul (cG (n:=2) dc) (Sm.mul (lp hx1 hy1 hz1 hx2 hy2 hz2 hx3 hy3 hz3) (l6 hx1 hy1 hz1 hx2 hy2 hz2 hx3 hy3 hz3))),.wid 1034 (J3 x1 y1 z1 x2 y2 z2 x3 y3 z3*J3 x1 y1 z1 x2 y2 z2 x3 y3 z3) (Sm.mul (lr hx1 hy1 hz1 hx2 hy2 hz2 hx3 hy3 hz3) (lr hx1 hy1 hz1 hx2 hy2 hz2 hx3 hy3 hz3)),.wid 1098 (2*(J3 x1 y1 z1 x2 y2 z2 x3 y3 z3*J4 x1 y1 z1 x2 y2 z2 x3 y3 z3)) (Sm.mul (cG (n:=2) dc) (Sm.mul (lr hx1 hy1 hz1 hx2 hy2 hz2 hx3 hy3 hz3) (lA hx1 hy1 hz1 hx2 hy2 hz2 hx3 hy3 hz3))),.wid 2326 (2*(J3 x1 y1 z1 x2 y2 z2 x3 y3 z3*Mw x1 y1 z1 x2 y2 z2 x3 y3 z3)) (Sm.mul (cG (n:=2) dc) (Sm.mul (lr hx1 hy1 hz1 hx2 hy2 hz2 hx3 hy3 hz3) (l6 hx1 hy1 hz1 hx2 hy2 hz2 hx3 hy3 hz3))),.wid 1034 (J4 x1 y1 z1 x2 y2 z2 x3 y3 z3*J4 x1 y1 z1 x2 y2 z2 x3 y3 z3) (Sm.mul (lA hx1 hy1 hz1 hx2 hy2 hz2 hx3 hy3 hz3) (lA hx1 hy1 hz1 hx2 hy2 hz2 hx3 hy3 hz3)),.wid 2326 (2*(J4 x1 y1 z1 x2 y2 z2 x3 y3 z3*Mw x1 y1 z1 x2 y2 z2 x3 y3 z3)) (Sm.mul (cG (n:=2) dc) (Sm.mul (lA hx1 hy1 hz1 hx2 hy2 hz2 hx3 hy3 hz3) (l6 hx1 hy1 hz1 hx2 hy2 hz2 hx3 hy3 hz3))),.wid 3490 (Mw x1 y1 z1 x2 y2 z2 x3 y3 z3*Mw x1 y1 z1 x2 y2 z2 x3 y3 z3) (Sm.mul (l6 hx1 hy1 hz1 hx2 hy2 hz2 hx3 hy3 hz3) (l6 hx1 hy1 hz1 hx2 hy2 hz2 hx3 hy3 hz3))])
 |_=>none
theorem a25:dW prog 172 RT:=dC (un:=20) (n:=0) ⟨func172,kr,kr⟩ uo bg λq p v d=>by
 unfold RT at d;split at d;rename_i A j x m y i u f s e z h D g r k B o;cases d;refine⟨[.agg [.int A j,.int x m,.int y i,.int u f,.int s e,.int z h,.int D g,.int r k,.int B o]],fr,ff,ff,λ_=> ?_⟩;conv=>whnf
 exact λ_=>rfl;cases d
end
def a9e:Dn
 |[.agg [.int x1 hx1,.int y1 hy1,.int z1 hz1,.int x2 hx2,.int y2 hy2,.int z2 hz2,.int x3 hx3,.int y3 hy3,.int z3 hz3]]=>
  some (none,.agg [.wid 1034 (J2 x1 y1 z1 x2 y2 z2 x3 y3 z3*J2 x1 y1 z1 x2 y2 z2 x3 y3 z3) (Sm.mul (lp hx1 hy1 hz1 hx2 hy2 hz2 hx3 hy3 hz3) (lp hx1 hy1 hz1 hx2 hy2 hz2 hx3 hy3 hz3)),.wid 1098 (2*(J2 x1 y1 z1 x2 y2 z2 x3 y3 z3*J3 x1 y1 z1 x2 y2 z2 x3 y3 z3)) (Sm.mul (cG (n:=2) dc) (Sm.mul (lp hx1 hy1 hz1 hx2 hy2 hz2 hx3 hy3 hz3) (lr hx1 hy1 hz1 hx2 hy2 hz2 hx3 hy3 hz3))),.wid 1098 (2*(J2 x1 y1 z1 x2 y2 z2 x3 y3 z3*J4 x1 y1 z1 x2 y2 z2 x3 y3 z3)) (Sm.mul (cG (n:=2) dc) (Sm.mul (lp hx1 hy1 hz1 hx2 hy2 hz2 hx3 hy3 hz3) (lA hx1 hy1 hz1 hx2 hy2 hz2 hx3 hy3 hz3))),.wid 2326 (2*(J2 x1 y1 z1 x2 y2 z2 x3 y3 z3*Mw x1 y1 z1 x2 y2 z2 x3 y3 z3)) (Sm.mul (cG (n:=2) dc) (Sm.mul (lp hx1 hy1 hz1 hx2 hy2 hz2 hx3 hy3 hz3) (l6 hx1 hy1 hz1 hx2 hy2 hz2 hx3 hy3 hz3))),.wid 1034 (J3 x1 y1 z1 x2 y2 z2 x3 y3 z3*J3 x1 y1 z1 x2 y2 z2 x3 y3 z3) (Sm.mul (lr hx1 hy1 hz1 hx2 hy2 hz2 hx3 hy3 hz3) (lr hx1 hy1 hz1 hx2 hy2 hz2 hx3 hy3 hz3)),.wid 1098 (2*(J3 x1 y1 z1 x2 y2 z2 x3 y3 z3*J4 x1 y1 z1 x2 y2 z2 x3 y3 z3)) (Sm.mul (cG (n:=2) dc) (Sm.mul (lr hx1 hy1 hz1 hx2 hy2 hz2 hx3 hy3 hz3) (lA hx1 hy1 hz1 hx2 hy2 hz2 hx3 hy3 hz3))),.wid 2326 (2*(J3 x1 y1 z1 x2 y2 z2 x3 y3 z3*Mw x1 y1 z1 x2 y2 z2 x3 y3 z3)) (Sm.mul (cG (n:=2) dc) (Sm.mul (lr hx1 hy1 hz1 hx2 hy2 hz2 hx3 hy3 hz3) (l6 hx1 hy1 hz1 hx2 hy2 hz2 hx3 hy3 hz3))),.wid 1034 (J4 x1 y1 z1 x2 y2 z2 x3 y3 z3*J4 x1 y1 z1 x2 y2 z2 x3 y3 z3) (Sm.mul (lA hx1 hy1 hz1 hx2 hy2 hz2 hx3 hy3 hz3) (lA hx1 hy1 hz1 hx2 hy2 hz2 hx3 hy3 hz3)),.wid 2326 (2*(J4 x1 y1 z1 x2 y2 z2 x3 y3 z3*Mw x1 y1 z1 x2 y2 z2 x3 y3 z3)) (Sm.mul (cG (n:=2) dc) (Sm.mul (lA hx1 hy1 hz1 hx2 hy2 hz2 hx3 hy3 hz3) (l6 hx1 hy1 hz1 hx2 hy2 hz2 hx3 hy3 hz3))),.wid 3490 (Mw x1 y1 z1 x2 y2 z2 x3 y3 z3*Mw x1 y1 z1 x2 y2 z2 x3 y3 z3) (Sm.mul (l6 hx1 hy1 hz1 hx2 hy2 hz2 hx3 hy3 hz3) (l6 hx1 hy1 hz1 hx2 hy2 hz2 hx3 hy3 hz3))])
 |_=>none
def a8f:Dn
 |[.agg [.wid ja0 a0 ha0,.wid ja1 a1 ha1,.wid ja2 a2 ha2,.wid ja3 a3 ha3,.wid ja4 a4 ha4,.wid ja5 a5 ha5,.wid ja6 a6 ha6,.wid ja7 a7 ha7,.wid ja8 a8 ha8,.wid ja9 a9 ha9],.agg [.wid jb0 b0 hb0,.wid jb1 b1 hb1,.wid jb2 b2 hb2,.wid jb3 b3 hb3,.wid jb4 b4 hb4,.wid jb5 b5 hb5,.wid jb6 b6 hb6,.wid jb7 b7 hb7,.wid jb8 b8 hb8,.wid jb9 b9 hb9]]=>
  if ja0<=20000000/\ja1<=20000000/\ja2<=20000000/\ja3<=20000000/\ja4<=20000000/\ja5<=20000000/\ja6<=20000000/\ja7<=20000000/\ja8<=20000000/\ja9<=20000000/\jb0<=20000000/\jb1<=20000000/\jb2<=20000000/\jb3<=20000000/\jb4<=20000000/\jb5<=20000000/\jb6<=20000000/\jb7<=20000000/\jb8<=20000000/\jb9<=20000000 then some (none,.agg [.wid (ja0+jb0+1) (a0+b0) (cp ha0 hb0),.wid (ja1+jb1+1) (a1+b1) (cp ha1 hb1),.wid (ja2+jb2+1) (a2+b2) (cp ha2 hb2),.wid (ja3+jb3+1) (a3+b3) (cp ha3 hb3),.wid (ja4+jb4+1) (a4+b4) (cp ha4 hb4),.wid (ja5+jb5+1) (a5+b5) (cp ha5 hb5),.wid (ja6+jb6+1) (a6+b6) (cp ha6 hb6),.wid (ja7+jb7+1) (a7+b7) (cp ha7 hb7),.wid (ja8+jb8+1) (a8+b8) (cp ha8 hb8),.wid (ja9+jb9+1) (a9+b9) (cp ha9 hb9)]) else none
 |_=>none
def DG:Dn
 |[.agg [.wid ja0 a0 ha0,.wid ja1 a1 ha1,.wid ja2 a2 ha2,.wid ja3 a3 ha3,.wid ja4 a4 ha4,.wid ja5 a5 ha5,.wid ja6 a6 ha6,.wid ja7 a7 ha7,.wid ja8 a8 ha8,.wid ja9 a9 ha9],.agg [.wid jb0 b0 hb0,.wid jb1 b1 hb1,.wid jb2 b2 hb2,.wid jb3 b3 hb3,.wid jb4 b4 hb4,.wid jb5 b5 hb5,.wid jb6 b6 hb6,.wid jb7 b7 hb7,.wid jb8 b8 hb8,.wid jb9 b9 hb9]]=>
  if ja0<=20000000/\ja1<=20000000/\ja2<=20000000/\ja3<=20000000/\ja4<=20000000/\ja5<=20000000/\ja6<=20000000/\ja7<=20000000/\ja8<=20000000/\ja9<=20000000/\jb0<=20000000/\jb1<=20000000/\jb2<=20000000/\jb3<=20000000/\jb4<=20000000/\jb5<=20000000/\jb6<=20000000/\jb7<=20000000/\jb8<=20000000/\jb9<=20000000 then some (none,.agg [.wid (ja0+jb0+1) (a0+b0) (cp ha0 hb0),.wid (ja1+jb1+1) (a1+b1) (cp ha1 hb1),.wid (ja2+jb2+1) (a2+b2) (cp ha2 hb2),.wid (ja3+jb3+1) (a3+b3) (cp ha3 hb3),.wid (ja4+jb4+1) (a4+b4) (cp ha4 hb4),.wid (ja5+jb5+1) (a5+b5) (cp ha5 hb5),.wid (ja6+jb6+1) (a6+b6) (cp ha6 hb6),.wid (ja7+jb7+1) (a7+b7) (cp ha7 hb7),.wid (ja8+jb8+1) (a8+b8) (cp ha8 hb8),.wid (ja9+jb9+1) (a9+b9) (cp ha9 hb9)]) else none
 |_=>none
def MS:dW prog 152 DG:=dC (un:=20) (n:=0) ⟨func152,kr,kr⟩ uo bg λG p v e=>by
 unfold DG at e;split at e;rename_i c7 a0 E c2 a1 f X a2 i P a3 j R J x Z a5 k Y H B c0 a7 m c3 a8 o I M r c8 b0 A V b1 y c6 O z N W F Q b4 s c4 b5 u c5 b6 D T b7 q L b8 g c1 U h;split at e;rename_i d;cases e;refine⟨[.agg [.wid 20000000 a0 (E.mono d.1),.wid 20000000 a1 (f.mono d.2.1),.wid 20000000 a2 (i.mono d.2.2.1),.wid 20000000 a3 (j.mono d.2.2.2.1),.wid 20000000 J (x.mono d.2.2.2.2.1),.wid 20000000 a5 (k.mono d.2.2.2.2.2.1),.wid 20000000 H (B.mono d.2.2.2.2.2.2.1),.wid 20000000 a7 (m.mono d.2.2.2.2.2.2.2.1),.wid 20000000 a8 (o.mono d.2.2.2.2.2.2.2.2.1),.wid 20000000 M (r.mono d.2.2.2.2.2.2.2.2.2.1)],.agg [.wid 20000000 b0 (A.mono d.2.2.2.2.2.2.2.2.2.2.1),.wid 20000000 b1 (y.mono d.2.2.2.2.2.2.2.2.2.2.2.1),.wid 20000000 O (z.mono d.2.2.2.2.2.2.2.2.2.2.2.2.1),.wid 20000000 W (F.mono d.2.2.2.2.2.2.2.2.2.2.2.2.2.1),.wid 20000000 b4 (s.mono d.2.2.2.2.2.2.2.2.2.2.2.2.2.2.1),.wid 20000000 b5 (u.mono d.2.2.2.2.2.2.2.2.2.2.2.2.2.2.2.1),.wid 20000000 b6 (D.mono d.2.2.2.2.2.2.2.2.2.2.2.2.2.2.2.2.1),.wid 20000000 b7 (q.mono d.2.2.2.2.2.2.2.2.2.2.2.2.2.2.2.2.2.1),.wid 20000000 b8 (g.mono d.2.2.2.2.2.2.2.2.2.2.2.2.2.2.2.2.2.2.1),.wid 20000000 U (h.mono d.2.2.2.2.2.2.2.2.2.2.2.2.2.2.2.2.2.2.2)]],fr,ff,ff,λ_=> ?_⟩;conv=>whnf
 exact λ_=>rfl;cases e;cases e
def Z6 (j h o i f g m d e k x y z:Int):Int:=j*(x*x)+h*(x*y)+o*(x*z)+i*x+f*(y*y)+g*(y*z)+m*y+d*(z*z)+e*z+k
def Lv:Dn
 |[.agg [.wid jq0 q0 hq0,.wid jq1 q1 hq1,.wid jq2 q2 hq2,.wid jq3 q3 hq3,.wid jq4 q4 hq4,.wid jq5 q5 hq5,.wid jq6 q6 hq6,.wid jq7 q7 hq7,.wid jq8 q8 hq8,.wid jq9 q9 hq9],.agg [.int x hx,.int y hy,.int z hz]]=>
  if jq0<=1000000/\jq1<=1000000/\jq2<=1000000/\jq3<=1000000/\jq4<=1000000/\jq5<=1000000/\jq6<=1000000/\jq7<=1000000/\jq8<=1000000/\jq9<=1000000 then some (none,.agg [.wid ((((((((((0+(jq0+128)+1)+(jq1+128)+1)+(jq2+128)+1)+(jq3+128)+1)+(jq4+128)+1)+(jq5+128)+1)+(jq6+128)+1)+(jq7+128)+1)+(jq8+128)+1)+(jq9+128)+1) (Z6 q0 q1 q2 q3 q4 q5 q6 q7 q8 q9 x y z) (by have h:=(cp (cp (cp (cp (cp (cp (cp (cp (cp (cp sm0 (Sm.mul hq0 (Sm.mul (cG hx) (cG hx)))) (Sm.mul hq1 (Sm.mul (cG hx) (cG hy)))) (Sm.mul hq2 (Sm.mul (cG hx) (cG hz)))) (Sm.mul hq3 (Sm.mul (cG hx) (cG (n:=1) dc)))) (Sm.mul hq4 (Sm.mul (cG hy) (cG hy)))) (Sm.mul hq5 (Sm.mul (cG hy) (cG hz)))) (Sm.mul hq6 (Sm.mul (cG hy) (cG (n:=1) dc)))) (Sm.mul hq7 (Sm.mul (cG hz) (cG hz)))) (Sm.mul hq8 (Sm.mul (cG hz) (cG (n:=1) dc)))) (Sm.mul hq9 (Sm.mul (cG (n:=1) dc) (cG (n:=1) dc))));have e:Z6 q0 q1 q2 q3 q4 q5 q6 q7 q8 q9 x y z=0+q0*(x*x)+q1*(x*y)+q2*(x*z)+q3*(x*1)+q4*(y*y)+q5*(y*z)+q6*(y*1)+q7*(z*z)+q8*(z*1)+q9*(1*1):=(by unfold Z6;grind);rw[e];exact h)]) else none
 |_=>none
def Uh:dW prog 175 Lv:=dC (un:=20) (n:=0) ⟨func175,kr,kr⟩ uo bg λs p v e=>by
 unfold Lv at e;split at e;rename_i D R r L F h O W o u Y q Q X f V A j B J i G N g P E k M I m x T y H z U;split at e;rename_i d;cases e;refine⟨[.agg [.wid 1000000 R (r.mono d.1),.wid 1000000 F (h.mono d.2.1),.wid 1000000 W (o.mono d.2.2.1),.wid 1000000 Y (q.mono d.2.2.2.1),.wid 1000000 X (f.mono d.2.2.2.2.1),.wid 1000000 A (j.mono d.2.2.2.2.2.1),.wid 1000000 J (i.mono d.2.2.2.2.2.2.1),.wid 1000000 N (g.mono d.2.2.2.2.2.2.2.1),.wid 1000000 E (k.mono d.2.2.2.2.2.2.2.2.1),.wid 1000000 I (m.mono d.2.2.2.2.2.2.2.2.2)],.agg [.int x T,.int y H,.int z U]],fr,ff,ff,λ_=> ?_⟩;conv=>whnf
 intro Z;refine rD (aW (cW ?_ Z) rfl);unfold Z6;grind;cases e;cases e
def Qj:List (FuncId×Dn):=(172,RT)::(152,DG)::(175,Lv)::Zc
def FJ:dU Qj:= .cons a25<| .cons MS<| .cons Uh<|uo
def qc (t:TR):Nat->Int:=
 let A:=J2 t.a.x t.a.y t.a.z t.b.x t.b.y t.b.z t.c.x t.c.y t.c.z
 let B:=J3 t.a.x t.a.y t.a.z t.b.x t.b.y t.b.z t.c.x t.c.y t.c.z
 let C:=J4 t.a.x t.a.y t.a.z t.b.x t.b.y t.b.z t.c.x t.c.y t.c.z
 let D:=Mw t.a.x t.a.y t.a.z t.b.x t.b.y t.b.z t.c.x t.c.y t.c.z
 fun
 |0=>A*A|1=>2*(A*B)|2=>2*(A*C)|3=>2*(A*D)|4=>B*B|5=>2*(B*C)|6=>2*(B*D)|7=>C*C|8=>2*(C*D)|_=>D*D
def qa (p q:PT):Bool:=decide (p.x=q.x)&&(decide (p.y=q.y)&&decide (p.z=q.z))
def rq (t:TR) (p:PT):Bool:=qa t.a p||(qa t.b p||qa t.c p)
def yq:List TR->PT->Nat->Int
 |[],_,_=>0
 |t::l,p,k=>(if rq t p=true then qc t k else 0)+yq l p k
def FD p k t: ∀l,yq (l++[t]) p k=yq l p k+(if rq t p=true then qc t k else 0)
 |[]=>by simp[yq]
 |x::l=>by simp only[cK,yq,FD p k t l];omega
def uk l p j k (hk:k<ln l):yq (l.take (k+1)) p j=yq (l.take k) p j+(if rq l[k] p=true then qc l[k] j else 0):=by rw[bE hk,FD]
def a5k t k:Sm 3490 (qc t k):=by
 have a:=lp t.a.hx t.a.hy t.a.hz t.b.hx t.b.hy t.b.hz t.c.hx t.c.hy t.c.hz;have b:=lr t.a.hx t.a.hy t.a.hz t.b.hx t.b.hy t.b.hz t.c.hx t.c.hy t.c.hz;have c:=lA t.a.hx t.a.hy t.a.hz t.b.hx t.b.hy t.b.hz t.c.hx t.c.hy t.c.hz;have d:=l6 t.a.hx t.a.hy t.a.hz t.b.hx t.b.hy t.b.hz t.c.hx t.c.hy t.c.hz;have two:Sm 2 (2:Int):=by unfold Sm;decide
 have m: ∀{j z},Sm j z->j<=3490->Sm 3490 z:=λh e=>h.mono e;unfold qc;split;exact m (a.mul a) dc;exact m (two.mul (a.mul b)) dc;exact m (two.mul (a.mul c)) dc;exact m (two.mul (a.mul d)) dc;exact m (b.mul b) dc;exact m (two.mul (b.mul c)) dc;exact m (two.mul (b.mul d)) dc;exact m (c.mul c) dc;exact m (two.mul (c.mul d)) dc;exact m (d.mul d) dc
def Qf {M} p k (d: ∀t,(qc t k).natAbs<=M): ∀l:List TR,(yq l p k).natAbs<=ln l*M
 |[]=>by simp[yq]
 |t::l=>by have e:=Qf p k d l;have h:=d t;rw[yq,aS,my];split<;>omega
def S3 {n m a} (h:a<=1000000) (e:m=20+n):a*2^n<2^m:=by subst e;have d:(2:Nat)^20=1048576:=dc;have f:0<(2:Nat)^n:=AW dc;rw[Nat.pow_add,d];exact ry om f
def mU p k {l} (hl:ln l<=1000000):Sm 3510 (yq l p k):=by
 have h:=S3 (n:=3490) (m:=3510) hl dc;have d: ∀t,(qc t k).natAbs<=2^3490:=λt=>by have h:=a5k t k;unfold Sm at h;exact bw h
 unfold Sm;exact em (Qf p k d l) h
def Qe (l:List TR) (p:PT) (hl:ln l<=1000000):List C:=[.wid 3510 (yq l p 0) (mU p 0 hl),.wid 3510 (yq l p 1) (mU p 1 hl),.wid 3510 (yq l p 2) (mU p 2 hl),.wid 3510 (yq l p 3) (mU p 3 hl),.wid 3510 (yq l p 4) (mU p 4 hl),.wid 3510 (yq l p 5) (mU p 5 hl),.wid 3510 (yq l p 6) (mU p 6 hl),.wid 3510 (yq l p 7) (mU p 7 hl),.wid 3510 (yq l p 8) (mU p 8 hl),.wid 3510 (yq l p 9) (mU p 9 hl)]
def uE:Dr
 |[.c (.sli _ b off len _ _),.agg [.int x hx,.int y hy,.int z hz]],hf=>(match hf b,off with
  |some blk,0=>(match vm blk.cs with
   |some l=>if h:ln l=len/\ln l<=1000000 then some (none,.agg (Qe l ⟨x,y,z,hx,hy,hz⟩ h.2)) else none
   |none=>none)
  |_,_=>none)
 |[.c (.val (.slice none 0 0)),.agg [.int _ _,.int _ _,.int _ _]],_=>some (none,.agg [zw,zw,zw,zw,zw,zw,zw,zw,zw,zw])
 |_,_=>none
def YH {l:List TR} (h1:ln l<=1000000) k:(l.take k).length<=1000000:=by rw[aO];omega
def Xx {nl k n cap} (h:bZ nl n cap) (hk:k<=n):IR k:=by have:=h.ir;unfold IR at*;omega
section
variable {r:List C}
def Ku {l m i n o k} (h1:dk l i n=some m) (h2:dk m o k=some r):dk l (i+o) k=some r:=by
 obtain⟨a,b,rfl,d,_⟩:=gr h1;obtain⟨x,y,rfl,g,f⟩:=gr h2;have e:a++(x++(r++y)++b)=(a++x)++(r++(y++b)):=by simp[aJ]
 rw[e,<-d,<-g,<-f,<-cw];exact eY _ _ _
def wu l {k} (hk:k<ln l) o (h:dk (qd l[k]) o 3=some r):dk (fy l) (0+k*9+o) 3=some r:=by rw[aN];exact Ku (ng l hk) h
def KC (l:List TR) (p:PT) (ty:TypeId) (nl:Bool) (cap:Nat) (h1:ln l<=1000000) (hl:bZ nl (ln l) cap): A5 (vA 0 Qj) (inl (vA 0 Qj) Mh 0) f146 [.c (.sli nl 0 0 (ln l) cap hl),.agg (mK p)] [⟨ty,true,fy l,0⟩] λu _=> ∀ρ,u.den ρ=(SV.agg (Qe l p h1)).den ρ:=by
 conv=>whnf
 refine fC (G:={k:Nat//k<=ln l}×(Nat->Value)) (λg=>.c (.sli nl 0 0 (ln l) cap hl):: .c (.val (g.2 1)):: .c (.val (g.2 2)):: .c (.ptr 1 0):: .c (.ptr 2 0):: .c (.ptr 3 0):: .c (.int (g.1.1:Int) (Xx hl g.1.2))::tn g.2 7 39 []) (λg=>[⟨ty,true,fy l,0⟩,⟨33,false,mK p,0⟩,⟨216,false,[zw,zw,zw,zw,zw,zw,zw,zw,zw,zw],0⟩,⟨216,false,Qe (l.take (g.1.1)) p (YH h1 (g.1.1)),0⟩]) (λg=>ln l-g.1.1) ?_ ?_
 ·refine⟨[0,1,2,3],[0,3,4,5,6],[0],λf=> ?_⟩
  conv=>whnf
  refine⟨eb l,_,_,?_,?_,(⟨0,ah _⟩,f),rfl,rfl⟩
  ·exact⟨fr,fr,fr,fr,fr,fr,fr,fr,fr,fr,fr,fr,fr,fr,fr,fr,fr,fr,fr,fr,fr,fr,fr,fr,fr,fr,fr,fr,fr,fr,fr,fr,fr,fr,fr,fr,fr,fr,fr,fr,fr,fr,fr,fr,fr,fr,trivial⟩
  ·exact⟨⟨rfl,rfl,rfl,fr⟩,⟨rfl,rfl,rfl,fr⟩,⟨rfl,rfl,rfl,fr⟩,⟨rfl,rfl,rfl,fr⟩,trivial⟩
 ·rintro⟨⟨k,q⟩,f⟩
  conv=>whnf
  refine eB (λd=> ?_) (λi=> ?_)
  ·have d:k<ln l:=by simpa using d
   conv=>whnf
   rw[be (ho:= ?hox9) (hT:= ?hTx9) (hx:= ?hxx9) (hk:= ?hkx9) (hlt:= ?hltx9)]
   case hox9=>rfl
   case hTx9=>rfl
   case hxx9=>rfl
   case hkx9=>rfl
   case hltx9=>exact d
   conv=>whnf
   rw[ap (ho:= ?hox10) (hT:= ?hTx10) (hx:= ?hxx10) (hb:= ?hbx10) (hm:= ?hmx10) (hv:= ?hvx10)]
   case hox10=>rfl
   case hTx10=>rfl
   case hxx10=>rfl
   case hbx10=>rfl
   case hmx10=>exact wu l d _ (r:=mK l[k].a) rfl
   case hvx10=>rfl
   conv=>whnf
   refine eB (λj=> ?_) (λj=> ?_)
   ·have h:rq l[k] p=true:=by unfold rq;rw[show qa l[k].a p=true from j];rfl
    conv=>whnf
    rw[be (ho:= ?hox11) (hT:= ?hTx11) (hx:= ?hxx11) (hk:= ?hkx11) (hlt:= ?hltx11)]
    case hox11=>rfl
    case hTx11=>rfl
    case hxx11=>rfl
    case hkx11=>rfl
    case hltx11=>exact d
    conv=>whnf
    rw[ap (ho:= ?hox12) (hT:= ?hTx12) (hx:= ?hxx12) (hb:= ?hbx12) (hm:= ?hmx12) (hv:= ?hvx12)]
    case hox12=>rfl
    case hTx12=>rfl
    case hxx12=>rfl
    case hbx12=>rfl
    case hmx12=>exact(by rw[aN];exact ng l d:dk (fy l) (0+k*9) 9=some (qd l[k]))
    case hvx12=>rfl
    conv=>whnf
    refine⟨[0,1,2,3],[0,3,4,5,6],[0],λf=>⟨eb l,_,_,?_,?_,(⟨k+1,d⟩,f),by show (ln l)-(k+1)<ln l-k;omega,rfl,rfl⟩⟩
    ·exact⟨fr,fr,fr,fr,fr,fr,iY (dr d hl.ir) _ _,fr,fr,fr,fr,fr,fr,fr,fr,fr,fr,fr,fr,fr,fr,fr,fr,fr,fr,fr,fr,fr,fr,fr,fr,fr,fr,fr,fr,fr,fr,fr,fr,fr,fr,fr,fr,fr,fr,fr,trivial⟩
    refine⟨⟨rfl,rfl,rfl,fr⟩,⟨rfl,rfl,rfl,fr⟩,⟨rfl,rfl,rfl,fr⟩,⟨rfl,rfl,rfl,λρ=> ?_⟩,trivial⟩
    refine(aW (cW ?_ ρ) (aW (cW ?_ ρ) (aW (cW ?_ ρ) (aW (cW ?_ ρ) (aW (cW ?_ ρ) (aW (cW ?_ ρ) (aW (cW ?_ ρ) (aW (cW ?_ ρ) (aW (cW ?_ ρ) (aW (cW ?_ ρ) rfl))))))))))
    all_goals (rw[uk l p _ k d,h];rfl)
   ·conv=>whnf
    rw[be (ho:= ?hox5) (hT:= ?hTx5) (hx:= ?hxx5) (hk:= ?hkx5) (hlt:= ?hltx5)]
    case hox5=>rfl
    case hTx5=>rfl
    case hxx5=>rfl
    case hkx5=>rfl
    case hltx5=>exact d
    conv=>whnf
    rw[ap (ho:= ?hox6) (hT:= ?hTx6) (hx:= ?hxx6) (hb:= ?hbx6) (hm:= ?hmx6) (hv:= ?hvx6)]
    case hox6=>rfl
    case hTx6=>rfl
    case hxx6=>rfl
    case hbx6=>rfl
    case hmx6=>exact wu l d _ (r:=mK l[k].b) rfl
    case hvx6=>rfl
    conv=>whnf
    refine eB (λm=> ?_) (λm=> ?_)
    ·have h:rq l[k] p=true:=by unfold rq;rw[show qa l[k].a p=false from j,show qa l[k].b p=true from m];rfl
     conv=>whnf
     rw[be (ho:= ?hox7) (hT:= ?hTx7) (hx:= ?hxx7) (hk:= ?hkx7) (hlt:= ?hltx7)]
     case hox7=>rfl
     case hTx7=>rfl
     case hxx7=>rfl
     case hkx7=>rfl
     case hltx7=>exact d
     conv=>whnf
     rw[ap (ho:= ?hox8) (hT:= ?hTx8) (hx:= ?hxx8) (hb:= ?hbx8) (hm:= ?hmx8) (hv:= ?hvx8)]
     case hox8=>rfl
     case hTx8=>rfl
     case hxx8=>rfl
     case hbx8=>rfl
     case hmx8=>exact(by rw[aN];exact ng l d:dk (fy l) (0+k*9) 9=some (qd l[k]))
     case hvx8=>rfl
     conv=>whnf
     refine⟨[0,1,2,3],[0,3,4,5,6],[0],λf=>⟨eb l,_,_,?_,?_,(⟨k+1,d⟩,f),by show (ln l)-(k+1)<ln l-k;omega,rfl,rfl⟩⟩
     ·exact⟨fr,fr,fr,fr,fr,fr,iY (dr d hl.ir) _ _,fr,fr,fr,fr,fr,fr,fr,fr,fr,fr,fr,fr,fr,fr,fr,fr,fr,fr,fr,fr,fr,fr,fr,fr,fr,fr,fr,fr,fr,fr,fr,fr,fr,fr,fr,fr,fr,fr,fr,trivial⟩
     refine⟨⟨rfl,rfl,rfl,fr⟩,⟨rfl,rfl,rfl,fr⟩,⟨rfl,rfl,rfl,fr⟩,⟨rfl,rfl,rfl,λρ=> ?_⟩,trivial⟩
     refine(aW (cW ?_ ρ) (aW (cW ?_ ρ) (aW (cW ?_ ρ) (aW (cW ?_ ρ) (aW (cW ?_ ρ) (aW (cW ?_ ρ) (aW (cW ?_ ρ) (aW (cW ?_ ρ) (aW (cW ?_ ρ) (aW (cW ?_ ρ) rfl))))))))))
     all_goals (rw[uk l p _ k d,h];rfl)
    ·conv=>whnf
     rw[be (ho:= ?hox1) (hT:= ?hTx1) (hx:= ?hxx1) (hk:= ?hkx1) (hlt:= ?hltx1)]
     case hox1=>rfl
     case hTx1=>rfl
     case hxx1=>rfl
     case hkx1=>rfl
     case hltx1=>exact d
     conv=>whnf
     rw[ap (ho:= ?hox2) (hT:= ?hTx2) (hx:= ?hxx2) (hb:= ?hbx2) (hm:= ?hmx2) (hv:= ?hvx2)]
     case hox2=>rfl
     case hTx2=>rfl
     case hxx2=>rfl
     case hbx2=>rfl
     case hmx2=>exact wu l d _ (r:=mK l[k].c) rfl
     case hvx2=>rfl
     conv=>whnf
     refine eB (λo=> ?_) (λo=> ?_)
     ·have h:rq l[k] p=true:=by unfold rq;rw[show qa l[k].a p=false from j,show qa l[k].b p=false from m,show qa l[k].c p=true from o];rfl
      conv=>whnf
      rw[be (ho:= ?hox3) (hT:= ?hTx3) (hx:= ?hxx3) (hk:= ?hkx3) (hlt:= ?hltx3)]
      case hox3=>rfl
      case hTx3=>rfl
      case hxx3=>rfl
      case hkx3=>rfl
      case hltx3=>exact d
      conv=>whnf
      rw[ap (ho:= ?hox4) (hT:= ?hTx4) (hx:= ?hxx4) (hb:= ?hbx4) (hm:= ?hmx4) (hv:= ?hvx4)]
      case hox4=>rfl
      case hTx4=>rfl
      case hxx4=>rfl
      case hbx4=>rfl
      case hmx4=>exact(by rw[aN];exact ng l d:dk (fy l) (0+k*9) 9=some (qd l[k]))
      case hvx4=>rfl
      conv=>whnf
      refine⟨[0,1,2,3],[0,3,4,5,6],[0],λf=>⟨eb l,_,_,?_,?_,(⟨k+1,d⟩,f),by show (ln l)-(k+1)<ln l-k;omega,rfl,rfl⟩⟩
      ·exact⟨fr,fr,fr,fr,fr,fr,iY (dr d hl.ir) _ _,fr,fr,fr,fr,fr,fr,fr,fr,fr,fr,fr,fr,fr,fr,fr,fr,fr,fr,fr,fr,fr,fr,fr,fr,fr,fr,fr,fr,fr,fr,fr,fr,fr,fr,fr,fr,fr,fr,fr,trivial⟩
      refine⟨⟨rfl,rfl,rfl,fr⟩,⟨rfl,rfl,rfl,fr⟩,⟨rfl,rfl,rfl,fr⟩,⟨rfl,rfl,rfl,λρ=> ?_⟩,trivial⟩
      refine(aW (cW ?_ ρ) (aW (cW ?_ ρ) (aW (cW ?_ ρ) (aW (cW ?_ ρ) (aW (cW ?_ ρ) (aW (cW ?_ ρ) (aW (cW ?_ ρ) (aW (cW ?_ ρ) (aW (cW ?_ ρ) (aW (cW ?_ ρ) rfl))))))))))
      all_goals (rw[uk l p _ k d,h];rfl)
     ·have h:rq l[k] p=false:=by unfold rq;rw[show qa l[k].a p=false from j,show qa l[k].b p=false from m,show qa l[k].c p=false from o];rfl
      conv=>whnf
      refine⟨[0,1,2,3],[0,3,4,5,6],[0],λf=>⟨eb l,_,_,?_,?_,(⟨k+1,d⟩,f),by show (ln l)-(k+1)<ln l-k;omega,rfl,rfl⟩⟩
      ·exact⟨fr,fr,fr,fr,fr,fr,iY (dr d hl.ir) _ _,fr,fr,fr,fr,fr,fr,fr,fr,fr,fr,fr,fr,fr,fr,fr,fr,fr,fr,fr,fr,fr,fr,fr,fr,fr,fr,fr,fr,fr,fr,fr,fr,fr,fr,fr,fr,fr,fr,fr,trivial⟩
      refine⟨⟨rfl,rfl,rfl,fr⟩,⟨rfl,rfl,rfl,fr⟩,⟨rfl,rfl,rfl,fr⟩,⟨rfl,rfl,rfl,λρ=> ?_⟩,trivial⟩
      refine(aW (cW ?_ ρ) (aW (cW ?_ ρ) (aW (cW ?_ ρ) (aW (cW ?_ ρ) (aW (cW ?_ ρ) (aW (cW ?_ ρ) (aW (cW ?_ ρ) (aW (cW ?_ ρ) (aW (cW ?_ ρ) (aW (cW ?_ ρ) rfl))))))))))
      all_goals (rw[uk l p _ k d,h];exact(Int.add_zero _).symm)
  ·have i:k=ln l:=by
       have: ¬k<ln l:=by simpa using i
       omega
   conv=>whnf
   subst i
   intro ρ
   have e:l.take (ln l)=l:=bP
   refine rD (aW (cW ?_ ρ) (aW (cW ?_ ρ) (aW (cW ?_ ρ) (aW (cW ?_ ρ) (aW (cW ?_ ρ) (aW (cW ?_ ρ) (aW (cW ?_ ρ) (aW (cW ?_ ρ) (aW (cW ?_ ρ) (aW (cW ?_ ρ) rfl))))))))))
   all_goals rw[e]
def Km:CY prog 146 uE:=by
 refine⟨(⟨func146,kr,kr⟩:iM prog 146 f146).callable,λs M p v d=> ?_⟩;unfold uE at d;split at d;rename_i L b F len k B x u y o z A;split at d;rename_i blk J;split at d;rename_i l j;split at d;rename_i g;cases d;obtain⟨rfl,E⟩:=g;have m:=UG j;refine⟨ff,λ_ f w G=> ?_⟩;have q:=(G b blk J).1;rw[m] at q;have D:=KC l ⟨x,y,z,u,o,A⟩ blk.ty L k E B;refine yd (P:= prog) (cm FJ 0) bj bg ⟨func146,kr,kr⟩ ff (λi c e=> ?_) (λ_=>f b) (λI h=> ?_) D w (λi c e=> ?_)
 cases i with
 |zero=>simp[an] at e;subst e;exact⟨rfl,lC l⟩
 |succ i=>simp[an] at e
 have:=h 0 rfl;simp only[aI,dj,SV.den,C.den,C.cells,this];rfl
 cases i with
 |zero=>simp[an] at e;subst e;rw[lC l (λ_=>f b) f];exact q
 |succ i=>simp[an] at e
 cases d;cases d;cases d;rename_i x u y o z A H;cases d;refine⟨ff,λ_ f w _=> ?_⟩;refine EB (P:= prog) (cm FJ 20) bj bg ⟨func146,kr,kr⟩ (n:=0) ff ff ?_ f w;conv=>whnf
 exact λ_=>rfl;cases d
end
section
variable {k:Nat} {p:PT}
def Rv:jv prog 125 a0S:=cV (cm fW 0) bj (dX VV (ck (cm fW 0) bj bg 0)) ⟨func125,kr,kr⟩ λg j K f=>by obtain⟨q,_,i,o,m,l,rfl,rfl,rfl,d,f⟩:=f;refine⟨zD,?_⟩;exact⟨⟨eb l,trivial⟩,⟨_,_,_,_,_,l,true,rfl,rfl,rfl,d,λe h=> zO [0] [0] (f e h)⟩⟩
structure CN where
 p:PT
 q:Fin 10->Int
 h: ∀i,Sm 200000 (q i)
def cnC (c:CN):List C:=[.int c.p.x c.p.hx,.int c.p.y c.p.hy,.int c.p.z c.p.hz,.wid 200000 (c.q 0) (c.h 0),.wid 200000 (c.q 1) (c.h 1),.wid 200000 (c.q 2) (c.h 2),.wid 200000 (c.q 3) (c.h 3),.wid 200000 (c.q 4) (c.h 4),.wid 200000 (c.q 5) (c.h 5),.wid 200000 (c.q 6) (c.h 6),.wid 200000 (c.q 7) (c.h 7),.wid 200000 (c.q 8) (c.h 8),.wid 200000 (c.q 9) (c.h 9)]
def mD:RW CN:=⟨cnC,23,fr,λ_ _ _=>rfl,fr⟩
def uB:PP mD:=λa b h=>by
 obtain⟨⟨x,y,z,I,H,J⟩,q,N⟩:=a;obtain⟨⟨M,L,G,E,m,A⟩,r,e⟩:=b;have h:cnC _=cnC _:=h;simp only[cnC,AV.injEq,C.int.injEq,C.wid.injEq,and_true,true_and] at h;obtain⟨rfl,rfl,rfl,F,f,j,u,o,B,D,s,d,g⟩:=h
 have:q=r:=by
  funext i
  match i with
  |0=>exact F
  |1=>exact f
  |2=>exact j
  |3=>exact u
  |4=>exact o
  |5=>exact B
  |6=>exact D
  |7=>exact s
  |8=>exact d
  |9=>exact g
 subst this;rfl
def mj.part {d:Type} {R:RW d} {cs:List C} {off:Nat} {l:List d} (h:mj R cs off l) (hk:k<ln l) (o n:Nat) {r:List C} (e:dk (R.c l[k]) o n=some r):dk cs (off+k*R.n+o) n=some r:=MZ (h.get hk) e
def ZF (A:List CN) (p:PT):Nat:=A.findIdx λc=>eN c.p p
def kh (A:List CN) (p:PT):{z:Int//IR z}:=if h:ZF A p<ln A/\IR (ZF A p:Int) then⟨ZF A p,h.2⟩ else⟨-1,dc⟩
def So {A} (hk:k<ln A) (hi:IR (k:Int)) (e:eN A[k].p p=true) (h: ∀j (hj:j<ln A),j<k->eN A[j].p p=false):(k:Int)=(kh A p).1:=by have:ZF A p=k:=(List.findIdx_eq hk).2 ⟨e,λj hj=>h j om hj⟩;unfold kh;rw[dif_pos (by rw[this];exact⟨hk,hi⟩)];show(k:Int)=(ZF A p:Int);rw[this]
def OK {A:List CN} (hk:k<ln A) (g: ∀j (hj:j<ln A),j<k->eN A[j].p p=false) (e:eN A[k].p p=false): ∀j (hj:j<ln A),j<k+1->eN A[j].p p=false:=λj hj f=>by rcases cj j k with d|d;exact g j hj d;obtain rfl:j=k:=om;exact e
def Om {A} (h: ∀j (hj:j<ln A),j<ln A->eN A[j].p p=false):(-1:Int)=(kh A p).1:=by
 have:ZF A p=ln A:=List.findIdx_eq_length.2 λx d=>by obtain⟨j,hj,rfl⟩:=List.mem_iff_getElem.1 d;exact h j hj hj
 unfold kh;rw[dif_neg (by rw[this];omega)]
def xV {A} (hl:IR (ln A:Int)) (h: ∃c∈A,c.p=p): ∃k,∃_:k<ln A,(kh A p).1=(k:Int)/\A[k].p=p:=by have d:ZF A p<ln A:=List.findIdx_lt_length.2 (by obtain⟨c,e,rfl⟩:=h;exact⟨c,e,(jV _ _).2 rfl⟩);refine⟨ZF A p,d,?_,?_⟩;unfold kh;rw[dif_pos ⟨d,by unfold IR at*;omega⟩];exact(jV _ _).1 (List.findIdx_getElem (w:=d))
def a3W:cP:=λd e K=> ∃f oA A cA hA tA csA p,d=[.c (.sli f 0 oA (ln A) cA hA),.agg (pC p)]/\e=[⟨.t tA,true,csA,0⟩]/\(cC csA/\mj mD csA oA A)/\K (.c (.int (kh A p).1 (kh A p).2)) []
def a1h:jv prog 151 a3W:=cV (dK 0) bj (ck (dK 0) bj bg 0) ⟨func151,kr,kr⟩ λz B K r=>by
 obtain⟨I,F,A,L,o,J,D,p,rfl,rfl,⟨f,H⟩,r⟩:=r;refine⟨zD,?_⟩;conv=>whnf
 refine zK [0,1] [0,3,5] [0] (G:={k:Nat//k<=ln A/\ ∀j (E:j<ln A),j<k->eN A[j].p p=false}) (λg=>[(5,.c (.int (g.1:Nat) (aR o g.2.1)))]) (λ_=>[]) (λg=>ln A-g.1) ⟨0,ah _,λj _ h=>absurd h (gh _)⟩ trivial ?_;rintro ⟨k,q,m⟩ vs2;have q:k<=ln A:=q;have m: ∀j (E:j<ln A),j<k->eN A[j].p p=false:=m;dsimp only;refine zB ?_ ?_<;>intro i;have d:k<ln A:=dL i;have u:IR (k:Int):=aR o q;refine eS ?_;refine zB ?_ ?_<;>intro e;have e:eN A[k].p p=true:=e;exact⟨[0],[0],λx=>⟨f,_,[],rfl,gz _,trivial,.c (.int (kh A p).1 (kh A p).2),λy=>kM (So d u e m) y,r⟩⟩;have e:eN A[k].p p=false:=e;exact dD [0,1] ⟨k+1,d,OK d m e⟩;have s:ln A<=k:=gi i;obtain rfl:k=ln A:=bo q s;exact⟨[0],[0],λx=>⟨f,_,[],rfl,gz _,trivial,.c (.int (kh A p).1 (kh A p).2),λy=>kM (Om m) y,r⟩⟩
noncomputable def Lw:Dr
 |[.c (.sli _ bA oA nA _ _),.agg [.int px hpx,.int py hpy,.int pz hpz]],hf=>(match hf bA with|some ⟨.t _,_,csA,_⟩=>some (some ((cC csA/\ ∃A:List CN,ln A=nA/\mj mD csA oA A)),.c (.int (kh (eU mD csA oA nA) (⟨px,py,pz,hpx,hpy,hpz⟩:PT)).1 (kh (eU mD csA oA nA) (⟨px,py,pz,hpx,hpy,hpz⟩:PT)).2))|_=>none)
 |_,_=>none
def Ul:CY prog 151 Lw:=pS a1h λB N p v h=>by
 unfold Lw at h;split at h;rename_i E J y M G z s e r d u f;split at h;rename_i D O m H x;cases h;refine⟨ff,λI=> ?_⟩;obtain⟨g,A,rfl,j⟩:=I _ rfl;refine⟨[.c (.sli E 0 y (ln A) G z),.agg (pC (⟨s,r,u,e,d,f⟩:PT))],[⟨.t D,true,m,0⟩],[J],⟨E,y,A,G,z,D,m,(⟨s,r,u,e,d,f⟩:PT),rfl,rfl,⟨g,j⟩,λF=>(congrArg (λq=>SV.den F (.c (.int (kh q (⟨s,r,u,e,d,f⟩:PT)).1 (kh q (⟨s,r,u,e,d,f⟩:PT)).2))) (lQ uB j).symm)⟩,⟨⟨rfl,rfl⟩,trivial⟩,⟨g,trivial⟩,λF=>rfl,λi L o=> ?_⟩
 match i,o with
 |0,o=>cases o;exact⟨_,x,rfl,g⟩
 |i+1,o=>cases o
 cases h;cases h
def To (cap:Nat) (g:NA->NA->SV):Dn
 |[.agg [.wid k z h],.agg [.wid j y h1]]=>if k<=cap/\j<=cap then some (none,g ⟨k,z,h⟩ ⟨j,y,h1⟩) else none
 |_=>none
def a5S {f cap g} (h:dW prog f (zW cap g)):dW prog f (To cap g):=⟨h.1,λe p v d=>by unfold To at d;split at d;rename_i k z i j y m;split at d;rename_i r;cases d;have:=h.2 _ _ _ (show zW cap g [.agg [.wid k z i],.agg [.wid j y m]]=some (some (k<=cap/\j<=cap),g ⟨k,z,i⟩ ⟨j,y,m⟩) from rfl);exact⟨this.1,λ_=>this.2 (λq o=>by cases o;exact r)⟩;cases d;cases d⟩
def Zw:Dn:=To 80000000 λX Y=> .c (.int (X.z-Y.z).sign (fX _))
def a20:dW prog 61 Zw:=a5S MQ
def s9:List (FuncId×Dn):=(61,Zw)::(103,Lz)::Dd
def eR:dU s9:= .cons a20<| .cons Uq<|k6
def ID (u v:PT) (c:Int) (e f:PT) (d:Int):Bool:=bif !decide ((c-d).sign=0) then decide ((c-d).sign<0) else bif !eN u e then eh u e else eh v f
def a1w:Dn
 |[.agg [.int ux hux,.int uy huy,.int uz huz,.int vx hvx,.int vy hvy,.int vz hvz,.wid jc c _],.agg [.int sx hsx,.int sy hsy,.int sz hsz,.int tx htx,.int ty hty,.int tz htz,.wid jd d _]]=>
  if jc<=4001300/\jd<=4001300 then some (none,.c (.val (.bool (ID (⟨ux,uy,uz,hux,huy,huz⟩:PT) (⟨vx,vy,vz,hvx,hvy,hvz⟩:PT) c (⟨sx,sy,sz,hsx,hsy,hsz⟩:PT) (⟨tx,ty,tz,htx,hty,htz⟩:PT) d)))) else none
 |_=>none
def a5L:dW prog 176 a1w:=dC (un:=20) (n:=0) ⟨func176,kr,kr⟩ eR bg λP p v x=>by
 unfold a1w at x;split at x;rename_i z j B f D i I u H o M q T c Q F g A e sz h L m J s N r R d x;split at x;rename_i y;cases x;refine⟨[.agg [.int z j,.int B f,.int D i,.int I u,.int H o,.int M q,.wid 4001300 c (Q.mono y.1)],.agg [.int F g,.int A e,.int sz h,.int L m,.int J s,.int N r,.wid 4001300 d (x.mono y.2)]],fr,ff,ff,λ_=> ?_⟩;refine zB ?_ ?_<;>intro E;have E:(!decide ((c-d).sign=0))=true:=E;conv=>whnf
 exact λO=>ss (show decide ((c-d).sign<0)=ID (⟨z,B,D,j,f,i⟩:PT) (⟨I,H,M,u,o,q⟩:PT) c (⟨F,A,sz,g,e,h⟩:PT) (⟨L,J,N,m,s,r⟩:PT) d by unfold ID;rw[E];rfl) O;have E:(!decide ((c-d).sign=0))=false:=E;refine zB ?_ ?_<;>intro G;have G:(!eN (⟨z,B,D,j,f,i⟩:PT) (⟨F,A,sz,g,e,h⟩:PT))=true:=G;conv=>whnf
 exact λO=>ss (show eh (⟨z,B,D,j,f,i⟩:PT) (⟨F,A,sz,g,e,h⟩:PT)=ID (⟨z,B,D,j,f,i⟩:PT) (⟨I,H,M,u,o,q⟩:PT) c (⟨F,A,sz,g,e,h⟩:PT) (⟨L,J,N,m,s,r⟩:PT) d by unfold ID;rw[E,G];rfl) O;have G:(!eN (⟨z,B,D,j,f,i⟩:PT) (⟨F,A,sz,g,e,h⟩:PT))=false:=G;conv=>whnf
 exact λO=>ss (show eh (⟨I,H,M,u,o,q⟩:PT) (⟨L,J,N,m,s,r⟩:PT)=ID (⟨z,B,D,j,f,i⟩:PT) (⟨I,H,M,u,o,q⟩:PT) c (⟨F,A,sz,g,e,h⟩:PT) (⟨L,J,N,m,s,r⟩:PT) d by unfold ID;rw[E,G];rfl) O;cases x;cases x
end
section
variable {k j:Nat}
def De:List (FuncId×Dn):=(176,a1w)::(152,DG)::(175,Lv)::s9
def mN:dU De:= .cons a5L<| .cons MS<| .cons Uh<|eR
def Gr (un:Nat):ic:={vA un De with O:=lR qo}
def uJ un:iU prog (Gr un):=⟨(cm mN un).T,(cm mN un).D,gy eD,(cm mN un).R,λ_ _ _ _ h=>(show False from h).elim⟩
noncomputable def a5p:List (FuncId×Dr):=[(173,yL),(151,Lw),(146,uE)]
def X4:nN a5p:= .cons E0<| .cons Ul<| .cons Km .nil
noncomputable def a4m (un:Nat):ic:=p7 (Gr un) a5p
def Gt un:iU prog (a4m un):=jM (uJ un) X4
structure CA where
 u:PT
 v:PT
 z:Int
 h:Sm 4001300 z
def caC (a:CA):List C:=[.int a.u.x a.u.hx,.int a.u.y a.u.hy,.int a.u.z a.u.hz,.int a.v.x a.v.hx,.int a.v.y a.v.hy,.int a.v.z a.v.hz,.wid 4001300 a.z a.h]
def IM:RW CA:=⟨caC,8,fr,λ_ _ _=>rfl,fr⟩
def qC (c:CN):List C:=[.wid 200000 (c.q 0) (c.h 0),.wid 200000 (c.q 1) (c.h 1),.wid 200000 (c.q 2) (c.h 2),.wid 200000 (c.q 3) (c.h 3),.wid 200000 (c.q 4) (c.h 4),.wid 200000 (c.q 5) (c.h 5),.wid 200000 (c.q 6) (c.h 6),.wid 200000 (c.q 7) (c.h 7),.wid 200000 (c.q 8) (c.h 8),.wid 200000 (c.q 9) (c.h 9)]
def a60:List (FuncId×cP):=[(145,uu),(174,Dj)]
def VR:iL prog a60:= .cons vR<| .cons Dt .nil
def Zg:cP:=λd e K=> ∃f A cA hA0 nB B cB hB0 nF F cF hF0 tA tB tF,d=[.c (.sli f 0 0 (ln A) cA hA0),.c (.sli nB 1 0 (ln B) cB hB0),.c (.sli nF 2 0 (ln F) cF hF0)]/\e=[⟨.t tA,true,bG bU A,0⟩,⟨.t tB,true,bG mD B,0⟩,⟨.t tF,true,bG fp F,0⟩]/\ln A<=100000/\(∀p,p∈cor A-> ∃c∈B,c.p=p)/\
 ∀o:OL CA,ln o.l<=90000000000->K (o.sl 3) [o.blk IM 223]
def Mx: ∀l:List PT,fm l=bG fp l
 |[]=>rfl
 |t::l=>by rw[fm,Mx l];rfl
def zS {A p q} (h:Il A p q):p∈cor A/\q∈cor A:=by
 obtain⟨-,s,i,g,e⟩:=h;have f: ∀{x},Bf x s=true->x∈cor A:=λ{x} d=>by unfold Bf at d;simp only[dY,jV] at d;refine gU.2 ⟨s,i,?_⟩;unfold pk;simp only[br,cd,or_false];exact d
 exact⟨f g,f e⟩
def C3:Nat:=300000
def YZ:C3=300000:=rfl
def Pv (h:k<=300000):k*C3<=90000000000:=aC (gV C3 h) (by rw[YZ];decide)
def Bd (k n:Nat):Prop:=n<=k*C3
def Be (k j n:Nat):Prop:=n<=k*C3+j
def Bd.zero:Bd 0 0:=ah _
def Bd.skip {n} (h:Bd k n):Bd (k+1) n:=by unfold Bd at*;rw[my];omega
def Bd.to {n} (h:Bd k n):Be k 0 n:=by unfold Be;rw[fM];exact h
def Be.push {n} (h:Be k j n):Be k (j+1) (n+1):=by unfold Be at*;omega
def Be.done {n} (h:Be k j n) (hj:j<=300000):Bd (k+1) n:=by have e:=YZ;unfold Be at h;unfold Bd;rw[my];omega
def Be.lim {n} (h:Be k j n) (hk:k<=300000) (hj:j<=300000):n<=90000300000:=by have e:=Pv hk;unfold Be at h;omega
def Bd.lim {n} (h:Bd k n) (hk:k<=300000):n<=90000000000:=aC h (Pv hk)
def Be.same {n m} (h:Be k j n) (e:m=n):Be k j m:=e▸h
def OL.nlf {d:Type} (o:OL d) (h:0<ln o.l):o.nl=false:=by
 cases hn:o.nl with
 |false=>rfl
 |true=>have e:=o.ok.1;have f:=o.ok.2.2 hn;omega
def sj {i:Nat} (h:IR ((i+1:Nat):Int)):IntKind.i64.wrap (((i+1:Nat):Int)-1)=(i:Int):=by rw[cN (by unfold IR at*;omega)];omega
def Ug (b c:CN) (p:PT):Sm 4001300 (Z6 (b.q 0+c.q 0) (b.q 1+c.q 1) (b.q 2+c.q 2) (b.q 3+c.q 3) (b.q 4+c.q 4) (b.q 5+c.q 5) (b.q 6+c.q 6) (b.q 7+c.q 7) (b.q 8+c.q 8) (b.q 9+c.q 9) p.x p.y p.z):=by have s: ∀i,Sm 200001 (b.q i+c.q i):=λi=>(b.h i).add (c.h i);have h:=(cp (cp (cp (cp (cp (cp (cp (cp (cp (cp sm0 (Sm.mul (s 0) (Sm.mul (cG p.hx) (cG p.hx)))) (Sm.mul (s 1) (Sm.mul (cG p.hx) (cG p.hy)))) (Sm.mul (s 2) (Sm.mul (cG p.hx) (cG p.hz)))) (Sm.mul (s 3) (Sm.mul (cG p.hx) (cG (n:=1) dc)))) (Sm.mul (s 4) (Sm.mul (cG p.hy) (cG p.hy)))) (Sm.mul (s 5) (Sm.mul (cG p.hy) (cG p.hz)))) (Sm.mul (s 6) (Sm.mul (cG p.hy) (cG (n:=1) dc)))) (Sm.mul (s 7) (Sm.mul (cG p.hz) (cG p.hz)))) (Sm.mul (s 8) (Sm.mul (cG p.hz) (cG (n:=1) dc)))) (Sm.mul (s 9) (Sm.mul (cG (n:=1) dc) (cG (n:=1) dc))));have e:Z6 (b.q 0+c.q 0) (b.q 1+c.q 1) (b.q 2+c.q 2) (b.q 3+c.q 3) (b.q 4+c.q 4) (b.q 5+c.q 5) (b.q 6+c.q 6) (b.q 7+c.q 7) (b.q 8+c.q 8) (b.q 9+c.q 9) p.x p.y p.z=0+(b.q 0+c.q 0)*(p.x*p.x)+(b.q 1+c.q 1)*(p.x*p.y)+(b.q 2+c.q 2)*(p.x*p.z)+(b.q 3+c.q 3)*(p.x*1)+(b.q 4+c.q 4)*(p.y*p.y)+(b.q 5+c.q 5)*(p.y*p.z)+(b.q 6+c.q 6)*(p.y*1)+(b.q 7+c.q 7)*(p.z*p.z)+(b.q 8+c.q 8)*(p.z*1)+(b.q 9+c.q 9)*(1*1):=(by unfold Z6;grind);rw[e];exact h.mono dc
def a1c:jv prog 148 Zg:=cV (Gt 0) bj (dX VR (ck (Gt 0) bj bg 0)) ⟨func148,kr,kr⟩ λargs ros K hc=>by
 obtain⟨nA,A,cA,hA0,nB,B,cB,hB0,nF,F,cF,hF0,tA,tB,tF,rfl,rfl,hbig,hcov,hc⟩:=hc;have hpA:cC (bG bU A):=ab bU A;have hpB:cC (bG mD B):=ab mD B;have hpF:cC (bG fp F):=ab fp F;refine⟨zD,?_⟩;refine⟨⟨hpA,trivial⟩,nA,A.length,cA,hA0,_,A,rfl,(congrArg (λx=>[(⟨.t tA,true,x,0⟩:aY)]) (lH A).symm),rfl,om,λoc sc mc lc=> ?_⟩;conv=>whnf
 have hocl:oc.l.length<=300000:=om;refine zK [0,1,2,3,1000+ 223] [0,1,2,7,8,9] [0,1,2,3,4] (G:={q:Nat×OL CA//q.1<=oc.l.length/\Bd q.1 q.2.l.length}) (λg=>[(7,g.1.2.sl 4),(9,.c (.int (g.1.1:Nat) (aR oc.ok g.2.1)))]) (λg=>[(4,g.1.2.blk IM 223)]) (λg=>oc.l.length-g.1.1) ⟨(0,OL.none),ah _,Bd.zero⟩ trivial ?_;rintro ⟨⟨k,o⟩,hk,hn⟩ vs2;have hk:k<=oc.l.length:=hk;have hn:Bd k o.l.length:=hn;dsimp only;refine zB ?_ ?_<;>intro hlt;have hkA:k<oc.l.length:=dL hlt;have hki:IR (k:Int):=aR oc.ok hk;refine p6 ?_;conv=>arg 2;tactic'=>exact ap rfl rfl rfl rfl (by exact(by rw[aN];exact ib oc.l hkA:dk (fm oc.l) (0+k*3) 3=some (mK oc.l[k]))) rfl
 refine⟨⟨hpF,F,rfl,mj.self fp F⟩,?_⟩;refine zB ?_ ?_<;>intro ham;exact dD [0,1,2,3,4] ⟨(k+1,o),hkA,hn.skip⟩;refine p6 ?_;conv=>arg 2;tactic'=>exact ap rfl rfl rfl rfl (by exact(by rw[aN];exact ib oc.l hkA:dk (fm oc.l) (0+k*3) 3=some (mK oc.l[k]))) rfl
 refine⟨λ_ _=>rfl,⟨hpA,trivial⟩,nA,0,A,cA,hA0,_,_,oc.l[k],rfl,rfl,⟨hpA,mj.self bU A⟩,hbig,λon ln mn=> ?_⟩;refine p6 ?_;conv=>arg 2;tactic'=>exact ap rfl rfl rfl rfl (by exact(by rw[aN];exact ib oc.l hkA:dk (fm oc.l) (0+k*3) 3=some (mK oc.l[k]))) rfl
 refine⟨⟨hpB,B,rfl,mj.self mD B⟩,?_⟩;obtain⟨kk,hkkB,ekk,-⟩:=xV (A:=B) (p:=oc.l[k]) (aR hB0 (ai _)) (hcov _ ((mc _).1 (ak hkA)));have hkkI:IR (kk:Int):=aR hB0 (bw hkkB);have fkk:(kh (eU mD (bG mD B) 0 B.length) oc.l[k]).1=(kk:Int):=by rw[m7 uB B];exact ekk
 refine p6 ?_;conv=>arg 2;tactic'=>exact ap rfl rfl rfl rfl ((mj.self mD B).part hkkB 3 20 (r:=qC B[kk]) rfl) rfl
 conv=>whnf
 refine zK [0,1,2,3,4,5,6] [0,1,2,7,8,9,10,11,12] [0,1,2,3,4,5] (G:={q:Nat×OL CA//q.1<=on.l.length/\Be k q.1 q.2.l.length}) (λg=>[(7,g.1.2.sl 4),(12,.c (.int (g.1.1:Nat) (aR on.ok g.2.1)))]) (λg=>[(4,g.1.2.blk IM 223)]) (λg=>on.l.length-g.1.1) ⟨(0,o),ah _,hn.to⟩ trivial ?_;rintro ⟨⟨j,o2⟩,hj,hn2⟩ vs5;have hj:j<=on.l.length:=hj;have hn2:Be k j o2.l.length:=hn2;have hl2m:o2.l.length<=90000300000:=hn2.lim om om;dsimp only;refine zB ?_ ?_<;>intro hl2;have hjA:j<on.l.length:=dL hl2;have hji:IR (j:Int):=aR on.ok hj;refine eS ?_;refine⟨⟨hpB,B,rfl,mj.self mD B⟩,?_⟩;obtain⟨k2,hk2B,ek2,-⟩:=xV (A:=B) (p:=on.l[j]) (aR hB0 (ai _)) (hcov _ (zS (mn _ (ak hjA))).2);have hk2I:IR (k2:Int):=aR hB0 (bw hk2B);have fk2:(kh (eU mD (bG mD B) 0 B.length) on.l[j]).1=(k2:Int):=by rw[m7 uB B];exact ek2
 refine p6 ?_;conv=>arg 2;tactic'=>exact ap rfl rfl rfl rfl ((mj.self mD B).part hk2B 3 20 (r:=qC B[k2]) rfl) rfl
 refine p6 ?_;conv=>arg 2;tactic'=>exact ap rfl rfl rfl rfl (by exact(by rw[aN];exact ib oc.l hkA:dk (fm oc.l) (0+k*3) 3=some (mK oc.l[k]))) rfl
 refine wM ?_;refine .inl ⟨rfl,o2.app IM 223 (m:=1) (by show(o2.l.length+1)*8<=5000000000000;omega),λc9 k9=> ?_⟩;conv=>whnf
 refine zK [0,1,2,3,9,5,6] [0,1,2,7,8,9,10,11,12,14] [0,1,2,3,4,5] (G:={q:Nat×OL CA//q.1<q.2.l.length/\Be k (j+1) q.2.l.length}) (λg=>[(7,g.1.2.sl 4),(14,.c (.int (g.1.1:Nat) (aR g.1.2.ok (bw g.2.1))))]) (λg=>[(4,g.1.2.blk IM 223)]) (λg=>g.1.1) ⟨(o2.l.length,o2.push [⟨oc.l[k],on.l[j],Z6 (B[kk].q 0+B[k2].q 0) (B[kk].q 1+B[k2].q 1) (B[kk].q 2+B[k2].q 2) (B[kk].q 3+B[k2].q 3) (B[kk].q 4+B[k2].q 4) (B[kk].q 5+B[k2].q 5) (B[kk].q 6+B[k2].q 6) (B[kk].q 7+B[k2].q 7) (B[kk].q 8+B[k2].q 8) (B[kk].q 9+B[k2].q 9) on.l[j].x on.l[j].y on.l[j].z,Ug B[kk] B[k2] on.l[j]⟩] rfl c9 k9),(by show o2.l.length<(o2.l++_).length;rw[aa];exact Nat.lt_succ_self _),hn2.push.same (by show(o2.l++_).length=_;rw[aa];rfl)⟩ (pc (sj k9.ir)) ?_;rintro ⟨⟨i,o3⟩,hi,hn3⟩ vs7;have hi:i<o3.l.length:=hi;have hn3:Be k (j+1) o3.l.length:=hn3;have hii:IR (i:Int):=aR o3.ok (bw hi);dsimp only;refine zB ?_ ?_<;>intro hp0;obtain⟨i,rfl⟩: ∃i2,i=i2+1:=⟨i-1,by have:(0:Int)<(i:Nat):=of_decide_eq_true hp0;omega⟩;have hm:i<o3.l.length:=om;have hmI:IR (i:Int):=by unfold IR at*;omega
 refine eS ?_;conv=>arg 2;tactic'=>exact be (k:=i) (hi:=hmI) rfl rfl rfl (eA (sj hii)) hm
 refine p6 ?_;refine zB ?_ ?_<;>intro hb;exact dD [0,1,2,3,4,5,6] ⟨(j+1,o3),hjA,hn3⟩;refine eS ?_;conv=>arg 2;tactic'=>exact be (k:=i) (hi:=hmI) rfl rfl rfl (eA (sj hii)) hm
 refine eS ?_;conv=>arg 2;tactic'=>exact bM (l:=caC o3.l[i]) (cs:=bG IM (o3.l.set (i+1) o3.l[i])) rfl rfl rfl rfl (⟨rfl,rfl⟩) rfl (o3.nlf (em (ah _) hi)) (iH IM o3.l hi o3.l[i])
 conv=>whnf
 rw[bV];conv=>whnf
 conv=>arg 2;tactic'=>exact be (k:=i) (hi:=hmI) rfl rfl rfl (eA (sj hii)) hm
 conv=>whnf
 conv=>arg 2;tactic'=>exact bM (l:=caC o3.l[i+1]) (cs:=bG IM ((o3.l.set (i+1) o3.l[i]).set i o3.l[i+1])) rfl rfl rfl rfl (⟨rfl,rfl⟩) rfl (o3.nlf (em (ah _) hi)) (by exact iH IM (o3.l.set (i+1) o3.l[i]) (by rw[aZ];exact hm) o3.l[i+1])
 conv=>whnf
 rw[bV];exact dD [0,1,2,3,4,5,6] ⟨(i,((o3.put (i+1) o3.l[i]).put i o3.l[i+1])),(by show i<((o3.l.set (i+1) o3.l[i]).set i _).length;rw[aZ,aZ];exact hm),hn3.same (by show((o3.l.set (i+1) o3.l[i]).set i _).length=_;rw[aZ,aZ])⟩ (h:=λvs9=>⟨hpA,hpB,hpF,oc.new.1,ab IM _,ab fp _,(by(iterate 7 refine⟨λ_=>rfl,?_⟩);refine⟨λρ=>(o3.put_sl (i+1) o3.l[i] 4 ρ).trans ((o3.put (i+1) o3.l[i]).put_sl i o3.l[i+1] 4 ρ),?_⟩;(iterate 6 refine⟨λ_=>rfl,?_⟩);refine⟨λρ=>kM (sj hii) ρ,?_⟩;exact gm _),(by(iterate 4 refine⟨⟨rfl,rfl,rfl,λ_=>rfl⟩,?_⟩);refine⟨⟨rfl,rfl,(o3.put_tl (i+1) o3.l[i] IM 223).trans ((o3.put (i+1) o3.l[i]).put_tl i o3.l[i+1] IM 223),λ_=>rfl⟩,?_⟩;(iterate 2 refine⟨⟨rfl,rfl,rfl,λ_=>rfl⟩,?_⟩);exact trivial)⟩);exact dD [0,1,2,3,4,5,6] ⟨(j+1,o3),hjA,hn3⟩;have hge2:on.l.length<=j:=gi hl2;exact dD [0,1,2,3,4] ⟨(k+1,o2),hkA,(hn2.done om)⟩;exact zO [0,1,2,4] [0,1,2,3] (hc o (hn.lim om))
end
noncomputable def a4s:ic:={ZD 0 with ord:=λid=>Nat.beq id 2}
def Gz:iU prog a4s:=⟨(lN 0).T,(lN 0).D,(lN 0).O,(lN 0).R,λ_ _ _ _ h=>(show False from h).elim⟩
def a0Y:cP:=QP 100000
def QZ:cP:=QQ 100000
def poC:List (FuncId×cP):=[(147,K9),(174,Dj),(150,QT),(177,a0Y),(178,QZ),(179,Lf)]
def a2M:iL prog poC:= .cons IU<| .cons Dt<| .cons Rw<| .cons Wy<| .cons Wj<| .cons RC .nil
def Zo:cP:=λd e K=> ∃f A c h t u v,d=[.c (.sli f 0 0 (ln A) c h),.agg (pC u),.agg (pC v)]/\e=[⟨.t t,true,bG bU A,0⟩]/\ln A<=100000/\ ∀b:Bool,(b=true->Il A u v)->K (.c (.val (.bool b))) []
def KX {l p} (h:AY l p=true):p∈l:=by obtain⟨q,e,d⟩:=nP.1 h;rw[<-(jV _ _).1 d];exact e
def a1k:jv prog 149 Zo:=cV Gz bj (dX a2M (ck Gz bj bg 0)) ⟨func149,kr,kr⟩ λO V K p=>by
 obtain⟨r,A,c,h,t,u,v,rfl,rfl,d,p⟩:=p;have j:cC (bG bU A):=ab bU A;have D:mj bU (bG bU A) 0 A:=mj.self bU A;refine⟨zD,?_⟩;refine⟨ff,⟨j,trivial⟩,r,0,A,c,h,_,_,u,rfl,rfl,⟨j,D⟩,d,λf Z P=>⟨⟨⟨⟨ab fp _,f.l,rfl,mj.self fp f.l⟩,?_⟩,trivial⟩,trivial⟩⟩;rw[show amB (bG fp f.l) 0 (ln f.l) v=AY f.l v from P9 (mj.self fp f.l) v];refine⟨?_,?_,trivial⟩;refine zB ?_ ?_<;>intro o;have o:(!AY f.l v)=true:=o;refine⟨⟨⟨?_,trivial⟩,trivial⟩,?_,trivial⟩;conv=>whnf
 exact zO [0] [0] (v3:=.c (.val (.bool (false)))) (p _ (λe=>by cases e));refine⟨⟨?_,trivial⟩,trivial⟩;conv=>whnf
 exact zO [0] [0] (v3:=.c (.val (.bool (false)))) (p _ (λe=>by cases e));have o:(!AY f.l v)=false:=o;have o:AY f.l v=true:=by simpa using o
 refine⟨⟨⟨j,trivial⟩,r,A,c,h,_,rfl,rfl,d,λx N=>⟨⟨⟨⟨ab fp _,x.l,rfl,mj.self fp x.l⟩,?_⟩,trivial⟩,trivial⟩⟩,?_,trivial⟩
 iterate 2
  try refine⟨⟨⟨j,trivial⟩,r,A,c,h,_,rfl,rfl,d,λx N=>⟨⟨⟨ab fp _,x.l,rfl,mj.self fp x.l⟩,?_⟩,trivial⟩⟩,trivial⟩
  refine zB ?_ ?_<;>intro U
  exact zO [0] [0] (v3:=.c (.val (.bool (false)))) (p _ (λe=>by cases e))
  refine⟨ff,⟨j,trivial⟩,r,0,A,c,h,_,_,v,rfl,rfl,⟨j,D⟩,d,λF X Q=> ?_⟩
  conv=>whnf
  refine zK [0,1,2,3,5] [0,4,5,7,8,9,10] [0,3,4] (G:={q:Nat×Nat//q.1<=ln f.l/\q.2<=q.1}) (λg=>[(9,.c (.int (g.1.2:Nat) (aR f.ok (aC g.2.2 g.2.1)))),(10,.c (.int (g.1.1:Nat) (aR f.ok g.2.1)))]) (λ_=>[]) (λg=>ln f.l-g.1.1) ⟨(0,0),ah _,ai _⟩ trivial ?_
  rintro ⟨⟨k,m⟩,y,E⟩ vs2
  have y:k<=ln f.l:=y
  have E:m<=k:=E
  dsimp only
  refine zB ?_ ?_<;>intro z
  have s:k<ln f.l:=dL z
  have J:IR (k:Int):=aR f.ok y
  refine eS ?_
  refine⟨⟨ab fp _,F.l,rfl,mj.self fp F.l⟩,?_⟩
  refine zB ?_ ?_<;>intro M
  exact dD [0,1,2,3,4] ⟨(k+1,m+1),s,(by show m+1<=k+1;omega)⟩
  exact dD [0,1,2,3,4] ⟨(k+1,m),s,(by show m<=k+1;omega)⟩
  refine zB ?_ ?_<;>intro L
  exact zO [0] [0] (v3:=.c (.val (.bool (false)))) (p _ (λe=>by cases e))
  refine⟨ff,ff,⟨j,trivial⟩,r,0,A,c,h,_,_,u,v,rfl,rfl,⟨j,D⟩,d,λi H Y=> ?_⟩
  conv=>whnf
  have B:ln i.l<=100000:=by rw[H];exact aC Dp d
  refine⟨⟨ab bU _,trivial⟩,i.nl,i.l,i.cap,i.ok,_,rfl,rfl,B,λb1=>⟨ff,ff,⟨j,trivial⟩,r,A,c,h,_,u,v,rfl,rfl,d,λT=> ?_⟩⟩
  refine zB ?_ ?_<;>intro R
  exact zO [0] [0] (v3:=.c (.val (.bool (false)))) (p _ (λe=>by cases e))
  refine zB ?_ ?_<;>intro W
  exact zO [0] [0] (v3:=.c (.val (.bool (false)))) (p _ (λe=>by cases e))
  exact⟨ff,ff,⟨j,⟨ab bU _,trivial⟩⟩,r,A,c,h,i.nl,i.l,i.cap,i.ok,_,_,u,v,rfl,rfl,λI=> zO [0] [0] (v3:=.c (.val (.bool (I)))) (p _ (λ_=>P _ (KX o)))⟩
 refine zB ?_ ?_<;>intro o;have o:(!AY f.l v)=true:=o;refine⟨⟨⟨?_,trivial⟩,trivial⟩,trivial⟩;conv=>whnf
 exact zO [0] [0] (v3:=.c (.val (.bool (false)))) (p _ (λe=>by cases e));have o:(!AY f.l v)=false:=o;have o:AY f.l v=true:=by simpa using o
 refine⟨⟨⟨⟨j,trivial⟩,r,A,c,h,_,rfl,rfl,d,λx N=>⟨⟨⟨ab fp _,x.l,rfl,mj.self fp x.l⟩,?_⟩,trivial⟩⟩,trivial⟩,trivial⟩;refine zB ?_ ?_<;>intro U;exact zO [0] [0] (v3:=.c (.val (.bool (false)))) (p _ (λe=>by cases e));refine⟨ff,⟨j,trivial⟩,r,0,A,c,h,_,_,v,rfl,rfl,⟨j,D⟩,d,λF X Q=> ?_⟩;conv=>whnf
 refine zK [0,1,2,3,5] [0,4,5,7,8,9,10] [0,3,4] (G:={q:Nat×Nat//q.1<=ln f.l/\q.2<=q.1}) (λg=>[(9,.c (.int (g.1.2:Nat) (aR f.ok (aC g.2.2 g.2.1)))),(10,.c (.int (g.1.1:Nat) (aR f.ok g.2.1)))]) (λ_=>[]) (λg=>ln f.l-g.1.1) ⟨(0,0),ah _,ai _⟩ trivial ?_;rintro ⟨⟨k,m⟩,y,E⟩ vs2;have y:k<=ln f.l:=y;have E:m<=k:=E;dsimp only;refine zB ?_ ?_<;>intro z;have s:k<ln f.l:=dL z;have J:IR (k:Int):=aR f.ok y;refine eS ?_;refine⟨⟨ab fp _,F.l,rfl,mj.self fp F.l⟩,?_⟩;refine zB ?_ ?_<;>intro M;exact dD [0,1,2,3,4] ⟨(k+1,m+1),s,(by show m+1<=k+1;omega)⟩;exact dD [0,1,2,3,4] ⟨(k+1,m),s,(by show m<=k+1;omega)⟩;refine zB ?_ ?_<;>intro L;exact zO [0] [0] (v3:=.c (.val (.bool (false)))) (p _ (λe=>by cases e));refine⟨ff,ff,⟨j,trivial⟩,r,0,A,c,h,_,_,u,v,rfl,rfl,⟨j,D⟩,d,λi H Y=> ?_⟩;conv=>whnf
 have B:ln i.l<=100000:=by rw[H];exact aC Dp d
 refine⟨⟨ab bU _,trivial⟩,i.nl,i.l,i.cap,i.ok,_,rfl,rfl,B,λb1=>⟨ff,ff,⟨j,trivial⟩,r,A,c,h,_,u,v,rfl,rfl,d,λT=> ?_⟩⟩;refine zB ?_ ?_<;>intro R;exact zO [0] [0] (v3:=.c (.val (.bool (false)))) (p _ (λe=>by cases e));refine zB ?_ ?_<;>intro W;exact zO [0] [0] (v3:=.c (.val (.bool (false)))) (p _ (λe=>by cases e));exact⟨ff,ff,⟨j,⟨ab bU _,trivial⟩⟩,r,A,c,h,i.nl,i.l,i.cap,i.ok,_,_,u,v,rfl,rfl,λI=> zO [0] [0] (v3:=.c (.val (.bool (I)))) (p _ (λ_=>P _ (KX o)))⟩
end Go.Proofs.YtlgcobafjbajdaaGreatDoor
