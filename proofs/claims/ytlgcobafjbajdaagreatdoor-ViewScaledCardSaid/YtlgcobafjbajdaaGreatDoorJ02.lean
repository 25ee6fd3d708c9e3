/- w -/
import Derived.Test.YtlgcobafjbajdaaGreatDoorJ01
import Derived.Laws.StructEq
import Derived.RangeFuncWrites
import Derived.RangeFuncLeaves
import Derived.Laws.MakeOwn
import Derived.Lib.SliceRun
import Derived.Deep.RegionHeld3
import Derived.StillTail
namespace Go.Proofs.YtlgcobafjbajdaaGreatDoor
open Go.RowKit
open Bool renaming not_eq_true'→dE
open List renaming append_assoc→aJ,cons→AV,length→ln,map→cg,replicate→au
open Nat renaming add_assoc→qn,ne_of_lt→ua
open Option renaming map→a0v,map_none→ma,some→bL
open _root_.Array renaming all_eq_true_iff_forall_mem→CK,getElem?_push→gw,getElem_setIfInBounds→rx,toList_inj→dz
set_option linter.all false
section
section lists
variable {α:Type}
def mL(b:aY):b.ty=b.ty/\b.ro=b.ro/\b.tl=b.tl/\ ∀ρ,af ρ b.cs=af ρ b.cs:=⟨rfl,rfl,rfl,fr⟩
def gz: ∀l:List aY,gx l l
 |[]=>trivial
 |b::l=>⟨mL b,gz l⟩
def tn(f:Nat->Value):Nat->Nat->List SV->List SV
 |_,0,l=>l
 |i,n+1,l=>.c (.val (f i))::tn f (i+1) n l
def iE (d:α): ∀(l:List α) n,ij d l n=(l[n]?).getD d
 |[],_=>by simp[ij]
 |_::_,0=>by simp[ij]
 |_::l,n+1=>by simp[ij,iE d l n]
def cD: ∀(l:List α) n,an l n=l[n]?
 |[],_=>by simp[an]
 |_::_,0=>by simp[an]
 |_::l,n+1=>by simp[an,cD l n]
def dR: ∀(l:List α) n (v:α) (K:List α->Prop),fU l n v K=K (l.set n v)
 |[],_,_,_=>by simp[fU]
 |_::_,0,_,_=>by simp[fU]
 |_::l,n+1,v,K=>by simp[fU,dR l n v]
def eW: ∀(l:List α) (v:α) (K:List α->Prop),jQ l v K=K (l++[v])
 |[],_,_=>rfl
 |_::l,v,K=>by simp[jQ,eW l v]
end lists
def gq {d:Type}: ∀(l:List d) (K:Nat->Prop),pE l K=K (ln l)
 |[],_=>rfl
 |_::l,K=>by simp[pE,gq l]
def C.force_eq (x:C) K:x.force K=K x:=by cases x<;>rfl
def bV: ∀l K,kE l K=K l
 |[],_=>rfl
 |x::l,K=>by simp only[kE,C.force_eq,bV l]
def T1.force_eq (x:T1) K:x.force K=K x:=by cases x<;>simp only[T1.force,C.force_eq,bV]
def B7: ∀l K,DV l K=K l
 |[],_=>rfl
 |x::l,K=>by simp only[DV,T1.force_eq,B7 l]
def SV.force_eq (x:SV) K:x.force K=K x:=by cases x<;>simp only[SV.force,C.force_eq,bV,B7]
def Mu: ∀n K,XW n K=K (au n uv)
 |0,_=>rfl
 |n+1,K=>by simp only[XW,Mu n,List.replicate_succ]
def KY: ∀l m K,Vy l m K=K (l++m)
 |[],_,_=>rfl
 |_::l,m,K=>by simp only[Vy,KY l m,cK]
def dp d v e K:fI d v e K=K (match d with|some t=>e.set t v|none=>e):=by cases d<;>simp[fI,dR]
def jL {b} {X Y:Prop} (h:mX b X Y):(b=true->X)/\(b=false->Y):=by cases b;exact⟨(λh=>nomatch h),(λ_=>h)⟩;exact⟨(λ_=>h),(λh=>nomatch h)⟩
def eB {b} {X Y:Prop} (hx:b=true->X) (hy:b=false->Y):mX b X Y:=by cases b;exact hy rfl;exact hx rfl
section cells
variable (ρ:fF)
def C.cells_length (x:C):(x.cells ρ).length=x.n:=by cases x<;>rfl
def cU: ∀l:List C,bu l=(af ρ l).length
 |[]=>rfl
 |x::l=>by simp[bu,af,C.cells_length ρ x,cU l]
def cO x l:af ρ (x::l)=x.cells ρ++af ρ l:=rfl
def bp a b:af ρ (a++b)=af ρ a++af ρ b:=by simp[af]
def cw a b:bu (a++b)=bu a+bu b:=by rw[cU (λ_=>(0,0)),cU (λ_=>(0,0)),cU (λ_=>(0,0)),bp,aa]
def vP {x:C} (h:x.n=1):x.cells ρ=[x.den ρ]:=by cases x<;>simp_all [C.n,C.cells,C.den]
def Tw {x:C} (h:x.one=true): ∀v∈x.cells ρ,v.oneCell'=true:=by cases x<;>intro v d<;>simp[C.cells,lF] at d<;>(try (rcases d with rfl|rfl))<;>(try subst d)<;>first|rfl|exact h
def oa: ∀{l},gJ l=true-> ∀v∈af ρ l,v.oneCell'=true
 |[],_,v,d=>by simp[af] at d
 |x::l,h,v,d=>by simp only[gJ,aG] at h;rw[cO,aT] at d;rcases d with d|d;exact Tw ρ h.1 v d;exact oa h.2 v d
end cells
def nh: ∀n l a b,rp n l=some (a,b)->l=a++b/\bu a=n
 |0,l,a,b,h=>by cases l<;>(simp[rp] at h;obtain⟨rfl,rfl⟩:=h;exact⟨rfl,rfl⟩)
 |n+1,[],a,b,h=>by simp[rp] at h
 |n+1,x::l,a,b,h=>by unfold rp at h;split at h;rename_i i;split at h;rename_i f g e;cases h;obtain⟨rfl,d⟩:=nh _ l _ _ e;exact⟨rfl,by simp[bu,d];omega⟩;cases h;cases h
def gr {cs off n m} (h:dk cs off n=some m): ∃a b,cs=a++(m++b)/\bu a=off/\bu m=n:=by unfold dk at h;split at h;rename_i a r g;split at h;rename_i i b d;cases h;obtain⟨rfl,e⟩:=nh _ _ _ _ g;obtain⟨rfl,f⟩:=nh _ _ _ _ d;exact⟨_,_,rfl,e,f⟩;cases h;cases h
def vj {cs off new d} (h:ga cs off new=some d): ∃a m b,cs=a++(m++b)/\d=a++(new++b)/\bu a=off/\bu m=bu new:=by unfold ga at h;split at h;rename_i a r i;split at h;rename_i m b e;cases h;obtain⟨rfl,f⟩:=nh _ _ _ _ i;obtain⟨rfl,g⟩:=nh _ _ _ _ e;exact⟨_,_,_,rfl,rfl,f,g⟩;cases h;cases h
def AP {a m v} (h:CI a m=some v):(a=true/\v= .agg m)\/(a=false/\ ∃x,m=[x]/\x.n=1/\v= .c x):=by unfold CI at h;split at h;cases h;exact .inl ⟨rfl,rfl⟩;split at h;rename_i d;cases h;exact .inr ⟨rfl,_,rfl,d,rfl⟩;cases h;cases h
def DU: ∀(new m a b:List Value) off,ln a=off->ln m=ln new-> (new.toArray.zipIdx.foldl (λcs (c,j)=>cs.setIfInBounds (off+j) c) (a++(m++b)).toArray)=(a++(new++b)).toArray:=by
 have key: ∀(new m a b:List Value) off k,ln a=off+k->ln m=ln new->
   ((new.zipIdx k).foldl (λ(cs:Array Value) (p:Value×Nat)=>cs.setIfInBounds (off+p.2) p.1) (a++(m++b)).toArray)=(a++(new++b)).toArray:=by
  intro new
  induction new with
  |nil=>intro m a b off k f d;have:m=[]:=aU d;subst this;rfl
  |cons x new ih=>
   intro m a b off k f d
   cases m with
   |nil=>simp at d
   |cons y m=>(have e:(a++(y::m++b)).toArray.setIfInBounds (off+k) x=((a++[x])++(m++b)).toArray:=by rw[List.setIfInBounds_toArray,<-f];simp);rw[List.zipIdx_cons,PE];show List.foldl _ ((a++(y::m++b)).toArray.setIfInBounds (off+k) x) _=_;rw[e,ih m (a++[x]) b off (k+1) su (by simpa using d)];simp
 intro new m a b off f d;have:=key new m a b off 0 om d;rw[<-Array.foldl_toList];simpa using this
def z9 (ρ:fF) (p:Nat×SV):Nat×Value:=(p.1,p.2.den ρ)
def yG {v:SV} {l:List C} (h:v.ch=some l) (ρ:fF):(v.den ρ).cells=(af ρ l).toArray:=by
 cases v with
 |c x=>simp only[SV.ch] at h;split at h;rename_i f d;cases h;have e:=vP ρ f;have o:=Tw ρ d (x.den ρ) (by rw[e];simp);simp only[SV.den,af,aL,bF,e,bk];cases hx:x.den ρ<;>simp_all [Value.cells,Value.oneCell'];cases h
 |agg l'=>cases h;rfl
 |tup _=>cases h
def pv (d:Nat->Option (Nat×Nat)) (ρ:fF): ∀(parts:List (Nat×SV)) (cs cs':List C),qH d cs parts=some cs'->
  Instr.fill d (af ρ cs).toArray (parts.map (z9 ρ))=some (af ρ cs').toArray
 |[],cs,cs',h=>by simp[qH] at h;subst h;rfl
 |(i,v)::rest,cs,cs',h=>by unfold qH at h;split at h;rename_i e n l s o;split at h;rename_i f;split at h;rename_i p q;obtain⟨a,m,b,rfl,rfl,g,j⟩:=vj q;have k:=pv d ρ rest _ _ h;have u:=yG o ρ;(have r:(af ρ l).length=n:=by rw[<-cU];exact f);simp only[aI,z9,Instr.fill,s,u];rw[if_neg];rw[bp,bp] at k⊢;rw[DU _ _ _ _ e (by rw[<-cU];exact g) (by rw[<-cU,<-cU];exact j)];exact k;rw[bp,bp];simp only[gC,aa,r];(have x:(af ρ a).length=e:=by rw[<-cU];exact g);(have y:(af ρ m).length=n:=by rw[<-cU,j];exact f);simp;omega;cases h;cases h;cases h
def y8:List C->Nat
 |[.val (.int .u8 _)]=>1
 |[.int _ _,.int _ _,.int _ _]=>8
 |_=>24
def LH z:y8 z<=24:=by unfold y8;split<;>decide
def Vr (P:Program) (t:TypeId):Sh->Prop
 | .other=>True
 | .struct g=> ∃d,P.underlying t=some (.struct d)/\d.toList.map (λf=>(f.offset,P.cellsOf f.type,n5 P f.type))=g.map (λx=>(x.1,x.2.1,some x.2.2))/\ ∀x∈g,x.2.2=false->x.2.1=1
 | .array n esz a=> ∃e,P.underlying t=some (.array n e)/\P.cellsOf e=esz/\n5 P e=some a/\(a=false->esz=1)
 | .slice e esz ez=>P.underlying t=some (.slice e)/\P.cellsOf e=esz/\(P.info? e).isSome=true/\0<esz/\((P.info? e).map λi=>decide (i.bytes<=y8 ez*esz))=some true/\ ∀h,((P.info? e).bind (·.zero)).map (·.cells)=some (af h ez).toArray/\(af h ez).length=esz
 | .int k=>P.underlying t=some (.int k)
 | .bool=>P.underlying t=some .bool
 | .string=>P.underlying t=some .string
structure Vs (P:Program) (t:TypeId) (ti:TI):Prop where
 size:P.cellsOf t=ti.size
 row:n5 P t=some ti.agg
 zero: ∀ρ,((P.info? t).bind (·.zero)).map (·.cells)=some (af ρ ti.zero).toArray
 sh:Vr P t ti.sh
 eq: ∀ks,ti.eq=some ks->lG P 9 t=some ks/\P.eqGuardType P.depth t=false/\ti.agg=true
def Fw (P:Program) (T:TypeId->Option TI):Prop:= ∀t d,T t=some d->Vs P t d
def fq (ρ:fF) (blk:aY) (i:Nat) (w:World):Prop:=w.rangeAt (ρ i).1 (ρ i).2 (af ρ blk.cs)/\(blk.ro=false->(ρ i).2=0/\ ∃t:List Value,ln t=blk.tl/\w.heap[(ρ i).1]? =some (.cells (af ρ blk.cs++t).toArray blk.ty (0,0)))
def oQ {w:World} {g o:Nat} {a m b:List Value} (h:w.rangeAt g o (a++(m++b))):w.rangeAt g (o+ln a) m:=λj v d=>by have e:=(aw.1 d).1;have:=h (ln a+j) v (by rw[fe om,a8W,dN e];exact d);rw[<-qn] at this;exact this
section
variable {P:Program}
def pP w t cs:(newRow t cs).run P w= .ok ⟨w.heap.size,0,none⟩ (w.alloc (.cells cs t)):=rfl
def J9 {t:TypeId} {v:SV} {l:List C} (hl:v.ch=some l) (ρ:fF) (w:World): (Instr.box t (v.den ρ)).run P w= .ok (.pointer (some ⟨w.heap.size,0,none⟩)) (w.alloc (.cells (af ρ l).toArray t)):=by simp only[Instr.box,newVar,yG hl,pP,aX,aB,bc]
def kO {W:World} {g:Nat} {t:TypeId}: ∀(vs:List Value) (o:Nat) (pre mid rest:List Value),ln pre=o->ln mid=ln vs-> W.heap[g]? =some (.cells (pre++(mid++rest)).toArray t (0,0))->(W.setCells g o vs).heap[g]? =some (.cells (pre++(vs++rest)).toArray t (0,0)):=by
 intro vs
 induction vs generalizing W with
 |nil=>intro o pre mid rest _ d h;have:mid=[]:=aU d;subst this;exact h
 |cons v vs ih=>
  intro o pre mid rest e d h
  cases mid with
  |nil=>simp at d
  |cons r mid=>have f:=heap_setCell_same W g o _ t v h;(have i:(pre++(r::mid++rest)).toArray.setIfInBounds o v=(pre++[v]++(mid++rest)).toArray:=by subst e;simp);rw[i] at f;have:=ih (W:=W.setCell ⟨g,o,none⟩ v) (o+1) (pre++[v]) mid rest (by simp[e]) (by simpa using d) f;rw[World.setCells];simpa using this
def nL {g k} (hk:k≠g): ∀vs o (W:World),(W.setCells g o vs).heap[k]? =W.heap[k]?
 |[],_,_=>rfl
 |v::vs,o,W=>by rw[World.setCells,nL hk vs,heap_setCell_other _ _ _ _ hk]
def oY {g}: ∀vs o (W:World),(W.setCells g o vs).heap.size=W.heap.size
 |[],_,_=>rfl
 |v::vs,o,W=>by rw[World.setCells,oY vs];simp[World.setCell]
def nJ {B g w} (d:B<=g): ∀vs o {W},Below B w W->Below B w (W.setCells g o vs)
 |[],_,_,h=>h
 |v::vs,o,_,h=>by rw[World.setCells];exact nJ d vs (o+1) (h.setCell (p:=⟨g,o,none⟩) d v)
def mC ρ: ∀l:List C,af ρ (pT l)=af ρ l
 |[]=>rfl
 |x::l=>by have d:=mC ρ l;cases x<;>simp[pT,af,C.cells] at d⊢<;>exact d
def z8 ρ {a cs off n v} (h:jP a cs off n=some v): ∃cs' m,af ρ cs'=af ρ cs/\dk cs' off n=some m/\CI a m=some v:=by unfold jP at h;split at h;rename_i m d;exact⟨cs,m,rfl,d,h⟩;split at h;rename_i m d;exact⟨pT cs,m,mC ρ cs,d,h⟩;cases h
def xw {e a} (o:n5 P e=some a) (h1:a=false->P.cellsOf e=1) {ρ cs off} {v:SV} (hv:jP a cs off (P.cellsOf e)=some v) w: (part e (af ρ cs).toArray off).run P w= .ok (v.den ρ) w:=by
 obtain⟨d,m,g,p,hv⟩:=z8 ρ hv;rw[<-g];obtain⟨x,r,i,h,q⟩:=gr p;have j:(af ρ x).length=off:=by rw[<-cU];exact h
 have k:(af ρ m).length=P.cellsOf e:=by rw[<-cU];exact q
 have f:af ρ d=af ρ x++(af ρ m++af ρ r):=by rw[i,bp,bp]
 rw[oV o w (af ρ d) off (by rw[f];simp;omega) h1];have:List.take (P.cellsOf e) (List.drop off (af ρ d))=af ρ m:=by rw[f,<-j,List.drop_left,<-k,List.take_left]
 rw[this];rcases AP hv with⟨rfl,rfl⟩|⟨rfl,y,rfl,s,rfl⟩;rfl;simp[mkV,af,vP ρ s,SV.den]
end
section
variable {P:Program} {T:TypeId->Option TI} (hT:Fw P T)
include hT
def D8 {t d} (h:T t=some d): ∃i,P.info? t=some i:=fw (hT t d h).row
def H4 {t e} (h:T t=some e): ∃d,P.underlying t=some d/\d.isRow=e.agg:=by
 have:=(hT t e h).row;unfold n5 at this
 cases hu:P.underlying t with
 |none=>simp[hu] at this
 |some d=>exact⟨d,rfl,by simpa[hu] using this⟩
def MM {t d} (h:T t=some d):(P.info? t).map (·.size)=some d.size:=by obtain⟨i,e⟩:=D8 hT h;have:=(hT t d h).size;unfold Program.cellsOf at this;rw[e] at this⊢;simpa using this
def xv {t:TypeId} {j:TI} (h:T t=some j) {ρ:fF} {b off:Nat} {blk:aY} {w:World} (hb:fq ρ blk b w) {v:SV} (hv:jP j.agg blk.cs off j.size=some v): (Instr.loadAt t (lF ρ b off)).run P w= .ok (v.den ρ) w:=by obtain⟨s,m,k,y,hv⟩:=z8 ρ hv;obtain⟨a,r,e,z,q⟩:=gr y;have g:=hb.1;rw[<-k,e,bp,bp] at g;have g:=oQ g;rw[<-cU,z] at g;obtain⟨d,u,f⟩:=H4 hT h;rcases AP hv with⟨o,rfl⟩|⟨o,x,rfl,A,rfl⟩;rw[o] at f;exact run_loadAt_mid w _ _ t (af ρ m) d g u f (by rw[MM hT h,<-q,cU ρ]);have p:=g 0 (x.den ρ) (by simp[af,vP ρ A]);have i:(isAgg t).run P w= .ok false w:=Al (by rw[<-o];exact(hT t j h).row) w;simp only[fM] at p;simp[Instr.loadAt,lF,Instr.sureAddr,loadVar,i,p,SV.den]
def EH {t d} (h:T t=some d) ρ w u: (Instr.alloc t true u).run P w= .ok (.pointer (some ⟨w.heap.size,0,none⟩)) (w.alloc (.cells (af ρ d.zero).toArray t)):=by
 have e:=(hT t d h).zero ρ;obtain⟨i,f⟩:=D8 hT h
 cases hz0:i.zero with
 |none=>simp[f,hz0] at e
 |some z=>simp only[f,gW,hz0,dA,bL.injEq] at e;simp only[Instr.alloc,aX,zeroValue,run_typeInfo w f,aB,hz0,bc];simp only[newVar,e,pP,aB]
def sL {t:TypeId} {y:TI} (h:T t=some y) {ρ:fF} {b off:Nat} {blk:aY} {w:World} (hb:fq ρ blk b w) (hro:blk.ro=false) {v:SV} {l f:List C} (hl:v.ch=some l) (hs:bu l=y.size) (h1:gJ l=true) (J:ga blk.cs off l=some f): (Instr.storeAt t (lF ρ b off) (v.den ρ)).run P w= .ok () (w.setCells (ρ b).1 off (af ρ l))/\ ∃t:List Value,ln t=blk.tl/\(w.setCells (ρ b).1 off (af ρ l)).heap[(ρ b).1]? =some (.cells (af ρ f++t).toArray blk.ty (0,0)):=by
 obtain⟨a,m,r,A,B,F,E⟩:=vj J;obtain⟨D,x,u,q⟩:=hb.2 hro;rw[A,bp,bp,aJ,aJ] at q;have H:(af ρ a).length=off:=by rw[<-cU];exact F
 have I:(af ρ m).length=(af ρ l).length:=by rw[<-cU,<-cU];exact E
 have g:=kO (af ρ l) off _ _ _ H I q;refine⟨?_,x,u,by rw[B,bp,bp,aJ,aJ];exact g⟩;have d:=yG hl ρ;have o:=oa ρ h1;have e: ∀j,j<(af ρ l).length->(w.cell? ⟨(ρ b).1,off+j,none⟩).isSome=true/\w.frozen? ⟨(ρ b).1,off+j,none⟩=false:=λj s=>by refine⟨?_,frozen_of_row _ _ _ _ _ q⟩;rw[cell_of_row _ _ _ _ _ _ q];(have:off+j<(af ρ a++(af ρ m++(af ρ r++x))).toArray.size:=by simp;omega);rw[aM this];rfl
 have k:=run_storeCells_cells (P:=P) (ρ b).1 off (af ρ l) 0 w (λj s=>by simpa using(e j s).1) (λj s=>by simpa using(e j s).2) o;obtain⟨i,z⟩:=D8 hT h;have p:=MM hT h;simp only[z,dA,bL.injEq] at p;simp only[fM] at k;have L:(v.den ρ).cells.size=i.size:=by rw[d,p,<-hs,cU ρ];simp
 have G:(v.den ρ).cells.toList=af ρ l:=by rw[d]
 simp only[Instr.storeAt,lF,D,aN,Instr.sureAddr,aX,bc,aB,storeVar,sizeOf,run_typeInfo w z];rw[if_neg (by rw[L];simp),G];exact k
def vd {t:TypeId} {i:TI} (h:T t=some i) {ρ:fF} {b off:Nat} {blk:aY} {w:World} (hb:fq ρ blk b w) (hro:blk.ro=false) {v:SV} {l d:List C} (hl:v.ch=some l) (hs:bu l=i.size) (h1:gJ l=true) (e:TL blk.cs off l=some d): (Instr.storeAt t (lF ρ b off) (v.den ρ)).run P w= .ok () (w.setCells (ρ b).1 off (af ρ l))/\ ∃t:List Value,ln t=blk.tl/\(w.setCells (ρ b).1 off (af ρ l)).heap[(ρ b).1]? =some (.cells (af ρ d++t).toArray blk.ty (0,0)):=by
 unfold TL at e;split at e;rename_i f;cases e;exact sL hT h hb hro hl hs h1 f;have g:fq ρ {blk with cs:=pT blk.cs} b w:=by unfold fq at hb⊢;simpa only[mC] using hb
 exact sL hT h g hro hl hs h1 e
end
def wV ρ l: ∀n i,i<n*(af ρ l).length->(af ρ (EF n l))[i]? =(af ρ l)[i % (af ρ l).length]?
 |0,i,h=>by omega
 |n+1,i,h=>by rw[EF,bp];by_cases hi:i<(af ρ l).length;rw[dN hi,ji hi];rw[fe om,wV ρ l n _ (by rw[my] at h;omega),Nat.mod_eq_sub_mod (by omega:i≥_)]
def mY ρ l: ∀n,(af ρ (EF n l)).length=n*(af ρ l).length
 |0=>by simp[EF,af]
 |n+1=>by rw[EF,bp,aa,mY ρ l n,my];omega
def vc {P t e d p} (h:Vr P t (.slice e d p)) {len g ps cs ρ} (hp:g.toList=ps.map (z9 ρ)) (F:qH (λi=>some (i*d,d)) (EF len p) ps=some cs) (hl:len*d<=16777216) w: (Instr.buildSlice t len g).run P w= .ok (.slice (some ⟨w.heap.size,0,none⟩) len len) (w.alloc (.cells (af ρ cs).toArray e)):=by
 obtain⟨A,D,o,y,-,m⟩:=h;obtain⟨i,o⟩:=aK.1 o;have B:=run_sizeOf w o;obtain⟨m,k⟩:=m ρ
 cases hz0:i.zero with
 |none=>simp[o,hz0] at m
 |some z=>simp only[o,gW,hz0,dA,bL.injEq] at m;(have s:(zeroValue e).run P w= .ok z w:=by simp[zeroValue,run_typeInfo w o,hz0]);have f:=pv _ ρ _ _ _ F;rw[<-hp] at f;(have q:(af ρ (EF len p)).toArray=(Array.range (len*d)).map (λx=>z.cells[x % z.cells.size]!):=by apply Array.ext_getElem?;intro j;rw[cf,Array.getElem?_map,Array.getElem?_range];(have r:z.cells.size=d:=by rw[m];simpa using k);by_cases hj:j<len*d;rw[if_pos hj,wV ρ p len j (by rw[k];exact hj),k];(have H:j % d<(af ρ p).length:=by rw[k];exact fg _ y);rw[ae H];simp only[dA,r];(have:j % d<z.cells.size:=by rw[r];exact fg _ y);rw[getElem!_pos z.cells (j % d) this];simp only[m,List.getElem_toArray];rw[if_neg hj,bi (by rw[mY,k];omega)];rfl);have u: ¬len*d>2^24:=om;unfold Instr.buildSlice;simp only[aX,run_underlying A w,aB,B,D];rw[if_neg u];rw[q] at f;by_cases h00:len*d=0;(have:len=0:=by rcases Nat.mul_eq_zero.1 h00 with h|h;exact h;omega);subst this;simp only[jw,if_true,aX,bc,aB] at f⊢;have E:(Array.range 0).map (λx=>(#[]:Array Value)[x % (#[]:Array Value).size]!)=(Array.range 0).map (λx=>z.cells[x % z.cells.size]!):=sp;rw[E,f];simp only[aX,pP,aB,bc];rw[if_neg h00];simp only[aX,s,aB,bc,f,pP]
end
section
def Bw ρ {j k y z} hy d:(C.wid j y hy).cells ρ=(C.wid k z d).cells ρ↔y=z:=by simp only[C.cells,AV.injEq,and_true,Value.bool.injEq,Value.string.injEq];have:=Can.inj (b:=decide (y<0)) (s:=⟨(kv y.natAbs).toArray⟩) (b':=decide (z<0)) (s':=⟨(kv z.natAbs).toArray⟩) (z:=y) (z':=z) ⟨rfl,rfl⟩ ⟨rfl,rfl⟩;exact this
def Ny {a l r b} (h:A9 a l r=some b):(∃c,r=some c/\l≠[]/\b=(a&&c))\/(l=[]/\(∃c,r=some c)/\b=a):=by unfold A9 at h;split at h;cases h;exact .inr ⟨rfl,⟨_,rfl⟩,rfl⟩;rename_i g f d;cases h;exact .inl ⟨_,rfl,λe=>d e,rfl⟩;cases h
def pu {a l m f kx x y r} ρ (o:a=true↔x=y) (hx:Fits kx x) (hy:Fits kx y) (p: ∀r,AZ f l m=some r->Fits f (af ρ l)/\Fits f (af ρ m)/\(r=true↔af ρ l=af ρ m)) (h:A9 a l (AZ f l m)=some r): Fits (kx++f) (x++af ρ l)/\Fits (kx++f) (y++af ρ m)/\(r=true↔x++af ρ l=y++af ρ m):=by
 have g:x.length=y.length:=by rw[hx.length,hy.length]
 rcases Ny h with⟨c,k,-,rfl⟩|⟨rfl,⟨c,k⟩,rfl⟩;obtain⟨i,j,d⟩:=p c k;refine⟨hx.append i,hy.append j,?_⟩;rw[aG,o,d];constructor;rintro⟨q,s⟩;rw[q,s];intro e;exact List.append_inj e g;obtain⟨i,j,d⟩:=p c k;refine⟨hx.append i,hy.append j,?_⟩;have u:af ρ m=[]:=by have:=i.length;rw[<-j.length] at this;exact aU this.symm
 rw[o,u];simp[af]
def Sn ρ: ∀ks l m r,AZ ks l m=some r->Fits ks (af ρ l)/\Fits ks (af ρ m)/\(r=true↔af ρ l=af ρ m):=by
 intro ks l m
 induction ks,l,m using AZ.induct with
 |case1=>intro r h;simp[AZ] at h;subst h;exact⟨trivial,trivial,sp⟩
 |case2 ks j y hy l k z hz m ih=>intro r h;rw[AZ] at h;exact pu (kx:=[.b,.s]) (x:=(C.wid j y hy).cells ρ) (y:=(C.wid k z hz).cells ρ) ρ (by rw[Bw];simp) ⟨trivial,trivial,trivial⟩ ⟨trivial,trivial,trivial⟩ ih h
 |case3 ks j y hy l b s m ih=>intro r h;rw[AZ] at h;exact pu (kx:=[.b,.s]) (x:=(C.wid j y hy).cells ρ) (y:=[.bool b,.string s]) ρ (by simp[C.cells]) ⟨trivial,trivial,trivial⟩ ⟨trivial,trivial,trivial⟩ ih h
 |case4 ks b s l k z hz m ih=>intro r h;rw[AZ] at h;exact pu (kx:=[.b,.s]) (x:=[.bool b,.string s]) (y:=(C.wid k z hz).cells ρ) ρ (by simp[C.cells]) ⟨trivial,trivial,trivial⟩ ⟨trivial,trivial,trivial⟩ ih h
 |case5 ks a ha l b hb m ih=>intro r h;rw[AZ] at h;exact pu (kx:=[.i .i64]) (x:=[.int .i64 a]) (y:=[.int .i64 b]) ρ sp ⟨rfl,trivial⟩ ⟨rfl,trivial⟩ ih h
 |case6 ks k i a l j b m hc ih=>intro r h;rw[AZ,if_pos hc] at h;obtain⟨rfl,rfl⟩:=hc;exact pu (kx:=[.i _]) (x:=[.int _ a]) (y:=[.int _ b]) ρ sp ⟨rfl,trivial⟩ ⟨rfl,trivial⟩ ih h
 |case7 ks k i a l j b m hc=>intro r h;rw[AZ,if_neg hc] at h;cases h
 |case8 ks a l b m ih=>
  intro r h
  rw[AZ] at h
  ·exact pu (kx:=[.b]) (x:=[.bool a]) (y:=[.bool b]) ρ sp ⟨trivial,trivial⟩ ⟨trivial,trivial⟩ ih h
  all_goals assumption
 |case9 ks a l b m ih=>intro r h;rw[AZ] at h;exact pu (kx:=[.s]) (x:=[.string a]) (y:=[.string b]) ρ sp ⟨trivial,trivial⟩ ⟨trivial,trivial⟩ ih h
 |case10 ks l m h1 h2 h3 h4 h5 h6 h7 h8=>
  intro r h
  rw[AZ] at h
  ·cases h
  all_goals assumption
def gI (ev:Operand->SV) (ρ:fF):Operand->Value:=λx=>(ev x).den ρ
section
variable {P:Program} {T:TypeId->Option TI} (hT:Fw P T)
include hT
def ia {t d} (h:T t=some d):Vr P t d.sh:=(hT t d h).sh
omit hT in
def pn ρ l:(SV.agg l).den ρ= .agg (af ρ l).toArray:=rfl
def Ak {t i} (h:T t=some i) {g} (hk:i.eq=some g) {ρ l m r} (q:AZ g l m=some r) w: (Op.equal t (.agg (af ρ l).toArray) (.agg (af ρ m).toArray)).run P w= .ok r w:=by
 obtain⟨u,x,p⟩:=(hT t i h).eq g hk;obtain⟨o,s,f⟩:=Sn ρ g l m r q;have d:=(hT t i h).row;rw[p] at d;obtain⟨k,j,e⟩:=eqK (P:=P) 9 t g u 9991 w _ _ true d o s;have:k=r:=by rw[<-f] at e;cases r<;>cases k<;>simp_all
 subst this;exact j
def VK {p t x y v} (h:IF T p t x y=some (.val v)) ρ w r s: (do eqGuard p t r s (x.den ρ) (y.den ρ);binOp p t (x.den ρ) (y.den ρ):Sem Value).run P w= .ok (v.den ρ) w:=by
 unfold IF at h
 split at h
 ·rename_i a q b i
  have e:(SV.c (C.int a q)).den ρ= .int .i64 a:=rfl
  have f:(SV.c (C.int b i)).den ρ= .int .i64 b:=rfl
  rw[e,f,eqGuard_at_int]
  split at h
  all_goals first|(simp only[iv,bv,bL.injEq,Y0.val.injEq] at h;subst h)|skip
  ·simp[binOp,Op.intArith,SV.den,C.den,C.cells]
  ·simp[binOp,Op.intArith,SV.den,C.den,C.cells]
  ·simp[binOp,Op.intArith,SV.den,C.den,C.cells]
  ·simp[binOp,Op.intCmp,SV.den,C.den,C.cells];rfl
  ·simp[binOp,Op.intCmp,SV.den,C.den,C.cells];rfl
  ·simp[binOp,Op.intCmp,SV.den,C.den,C.cells]
  ·simp[binOp,Op.intCmp,SV.den,C.den,C.cells]
  ·simp[binOp,Op.intCmp,SV.den,C.den,C.cells]
  ·simp[binOp,Op.intCmp,SV.den,C.den,C.cells]
  ·split at h
   ·cases h
   ·rename_i d
    simp only[iv,bL.injEq,Y0.val.injEq] at h;subst h
    simp[binOp,Op.intDiv,d,SV.den,C.den,C.cells]
  ·split at h
   ·cases h
   ·rename_i d
    simp only[bL.injEq,Y0.val.injEq] at h;subst h
    simp[binOp,Op.intDiv,d,SV.den,C.den,C.cells]
  ·rfl
  ·rfl
  ·rfl
  ·rfl
  ·split at h
   ·cases h
   ·rename_i d
    simp only[iv,bL.injEq,Y0.val.injEq] at h;subst h
    simp[binOp,Op.shift,d,SV.den,C.den,C.cells,IntKind.bits]
  ·split at h
   ·cases h
   ·rename_i d
    simp only[bL.injEq,Y0.val.injEq] at h;subst h
    simp[binOp,Op.shift,d,SV.den,C.den,C.cells,IntKind.bits]
 ·rename_i l m
  split at h
  ·rename_i G sz F z H E g
   have B:=(hT _ _ g).eq E rfl
   rw[pn,pn,aX,run_eqGuard_agg w p t r s _ _ B.2.1]
   split at h
   ·rename_i b i
    simp only[bv,bL.injEq,Y0.val.injEq] at h;subst h
    have:=Ak hT g rfl i (ρ:=ρ) w
    simp[binOp,this,SV.den,C.den,C.cells]
   ·rename_i b i
    simp only[bv,bL.injEq,Y0.val.injEq] at h;subst h
    have:=Ak hT g rfl i (ρ:=ρ) w
    simp[binOp,this,SV.den,C.den,C.cells]
   ·cases h
  ·cases h
 ·rename_i a b
  have e:(SV.c (C.val (.bool a))).den ρ= .bool a:=rfl
  have f:(SV.c (C.val (.bool b))).den ρ= .bool b:=rfl
  rw[e,f,eqGuard_at_bool]
  split at h
  ·rename_i g
   have D:P.underlying t=some .bool:=ia hT g
   have u:(Op.equal t (.bool a) (.bool b)).run P w= .ok (a==b) w:=run_equalIn_bool w 9999 t a b D
   split at h
   ·simp only[bv,bL.injEq,Y0.val.injEq] at h;subst h
    simp[binOp,u,SV.den,C.den,C.cells]
   ·simp only[bv,bL.injEq,Y0.val.injEq] at h;subst h
    simp[binOp,u,SV.den,C.den,C.cells]
   ·cases h
  ·cases h
 ·rename_i a b
  have e:(SV.c (C.val (.string a))).den ρ= .string a:=rfl
  have f:(SV.c (C.val (.string b))).den ρ= .string b:=rfl
  rw[e,f,eqGuard_at_string]
  unfold sK at h
  split at h
  ·rename_i A o
   simp only[bL.injEq,Y0.val.injEq] at h;subst h
   rw[aX,bc,aB,o]
   rfl
  ·cases h
 ·rename_i k a j b
  have e:(SV.c (C.val (.int k a))).den ρ= .int k a:=rfl
  have f:(SV.c (C.val (.int j b))).den ρ= .int j b:=rfl
  rw[e,f,eqGuard_at_int]
  unfold sK at h
  split at h
  ·rename_i A o
   simp only[bL.injEq,Y0.val.injEq] at h;subst h
   rw[aX,bc,aB,o]
   rfl
  ·cases h
 ·rename_i a q k b
  have e:(SV.c (C.int a q)).den ρ= .int .i64 a:=rfl
  have f:(SV.c (C.val (.int k b))).den ρ= .int k b:=rfl
  rw[e,f,eqGuard_at_int]
  split at h
  ·split at h
   ·cases h
   ·rename_i d
    simp only[iv,bL.injEq,Y0.val.injEq] at h;subst h
    simp[binOp,Op.shift,d,SV.den,C.den,C.cells,IntKind.bits]
  ·split at h
   ·cases h
   ·rename_i d
    simp only[bL.injEq,Y0.val.injEq] at h;subst h
    simp[binOp,Op.shift,d,SV.den,C.den,C.cells,IntKind.bits]
  ·cases h
 ·rename_i k a b i
  have e:(SV.c (C.val (.int k a))).den ρ= .int k a:=rfl
  have f:(SV.c (C.int b i)).den ρ= .int .i64 b:=rfl
  rw[e,f,eqGuard_at_int]
  unfold sK at h
  split at h
  ·rename_i A o
   simp only[bL.injEq,Y0.val.injEq] at h;subst h
   rw[aX,bc,aB,o]
   rfl
  ·cases h
 ·cases h
omit hT in
def kH {v i} (h:oH v=some i) ρ:v.den ρ= .int .i64 i:=by unfold oH at h;split at h;cases h;rfl;cases h
omit hT in
def EA ρ: ∀{l ps},J6 l=some ps->l.map (SV.den ρ)=ps.map λp=>lF ρ p.1 p.2
 |[],ps,h=>by simp[J6] at h;subst h;rfl
 |v::l,ps,h=>by
  cases v with
  |agg _=>simp[J6] at h
  |tup _=>simp[J6] at h
  |c x=>
   cases x<;>simp only[J6] at h<;>try (cases h;done)
   case ptr b o=>
    split at h
    ·rename_i m d
     cases h
     simp only[aI,EA ρ d]
     rfl
    ·cases h
omit hT in
def tp {e:Array Field} {j:List (Nat×Nat×Bool)} (h:e.toList.map (λf=>(f.offset,P.cellsOf f.type,n5 P f.type))=j.map (λx=>(x.1,x.2.1,some x.2.2))) {f o n a} (i:an j f=some (o,n,a)): ∃g,e[f]? =some g/\g.offset=o/\P.cellsOf g.type=n/\n5 P g.type=some a:=by have:=congrArg (·[f]?) h;rw[cD] at i;simp only[gA,i,dA,a6o] at this;obtain⟨g,k,d⟩:=this;simp only[Prod.mk.injEq] at d;exact⟨g,by simpa using k,d.1,d.2.1,d.2.2⟩
omit hT in
def FO {t e n f z a} ρ (k:P.underlying t=some (.array n e)) (p:P.cellsOf e=f) (q:n5 P e=some a) (g:((P.info? t).bind (·.zero)).map (·.cells)=some (af ρ z).toArray) {d cs} (r:qH (λi=>some (i*f,f)) z d=some cs): P.built t (d.map (z9 ρ))=some (af ρ cs).toArray:=by
 obtain⟨i,o⟩:=info_of_underlying k;obtain⟨j,m⟩:=fw q;unfold Program.built;simp only[o,gW] at g
 cases hz0:i.zero with
 |none=>simp[hz0] at g
 |some z0=>simp only[hz0,dA,bL.injEq] at g;(have h:j.size=f:=by simpa[Program.cellsOf,m] using p);simp only[o,k,hz0,m,g,h];exact pv _ ρ _ _ _ r
omit hT in
def OR {e:List Field} {d:List (Nat×Nat×Bool)} (h:e.map (λf=>(f.offset,P.cellsOf f.type,n5 P f.type))=d.map (λx=>(x.1,x.2.1,some x.2.2))): e.mapM (λf=>(P.info? f.type).map λi=>(f.offset,i.size))=some (d.map λx=>(x.1,x.2.1)):=by
 induction e generalizing d with
 |nil=>cases d with
  |nil=>rfl
  |cons x d=>simp at h
 |cons f e ih=>
  cases d with
  |nil=>simp at h
  |cons x d=>simp only[aI,AV.injEq,Prod.mk.injEq] at h;obtain⟨⟨p,j,o⟩,k⟩:=h;obtain⟨i,g⟩:=fw o;(have m:i.size=x.2.1:=by simpa[Program.cellsOf,g] using j);simp[List.mapM_cons,g,ih k,p,m]
omit hT in
def ut {t} {p:Array Field} {g:List (Nat×Nat×Bool)} {z} ρ (m:P.underlying t=some (.struct p))
  (h:p.toList.map (λf=>(f.offset,P.cellsOf f.type,n5 P f.type))=g.map (λx=>(x.1,x.2.1,some x.2.2)))
  (k:((P.info? t).bind (·.zero)).map (·.cells)=some (af ρ z).toArray) {d:List (Nat×SV)} {cs} (r:qH (λi=>match an g i with|some (o,n,_)=>some (o,n)|none=>none) z d=some cs):
  P.built t (d.map (z9 ρ))=some (af ρ cs).toArray:=by
 obtain⟨i,q⟩:=info_of_underlying m
 unfold Program.built
 simp only[q,gW] at k
 cases hz0:i.zero with
 |none=>simp[hz0] at k
 |some z0=>simp only[hz0,dA,bL.injEq] at k;simp only[q,m,hz0,k,OR h];(have e:(λi=>match an g i with|some (o,n,_)=>some (o,n)|none=>none)=(λx=>(g.map λx=>(x.1,x.2.1)).toArray[x]?):=by funext j;rw[cD];simp only[cf,gA];cases g[j]? <;>rfl);rw[<-e];exact pv _ ρ _ _ _ r
omit hT in
def rZ ev ρ (ps:Array (Nat×Operand)):(ps.map λ(i,x)=>(i,gI ev ρ x)).toList=(ps.toList.map λp=>(p.1,ev p.2)).map (z9 ρ):=by simp[z9,gI,Function.comp_def]
omit hT in
def Ub off d l m:gP off d l m=if m=l\/l=0 then off else off+l*d:=by
 cases l with
 |zero=>simp[gP]
 |succ l=>simp[gP]
omit hT in
def EI {v n} (h:oH v=some n) ρ w {y} (hy:n<=y) d:(Instr.sliceBound (v.den ρ) y d).run P w= .ok n w:=by have e:(0:Int)<=(n:Int)/\(n:Int)<=(y:Int):=⟨om,om⟩;simp only[kH h ρ,Instr.sliceBound,asIntOf,aX,bc,aB];rw[if_pos e];simp
omit hT in
def n6 {ev} ρ w (len cap:Nat) (f hi g:Option Operand) {l k m:Nat} (hl:lW (f.map ev) 0=some l) (hk:lW (hi.map ev) len=some k) (hm:lW (g.map ev) cap=some m) (d:l<=k/\k<=m/\m<=cap) (i: ∀b:Operand,hi=none->g=some b->False) j: (Instr.sliceBounds j len cap (f.map (gI ev ρ)) (hi.map (gI ev ρ)) (g.map (gI ev ρ))).run P w= .ok (l,k,m) w:=by
 unfold Instr.sliceBounds;have e: ∀{v:SV} {n y:Nat} {code:BoundsCode},oH v=some n->n<=y->(Instr.sliceBound (v.den ρ) y code).run P w= .ok n w:=λh o=>EI h ρ w o _
 cases g with
 |none=>
  simp only[lW,ma,bL.injEq] at hm;subst hm
  cases hi with
  |none=>
   simp only[lW,ma,bL.injEq] at hk;subst hk
   cases f with
   |none=>simp only[lW,ma,bL.injEq] at hl;subst hl;simp
   |some a=>simp only[lW,dA] at hl;simp[gI,e hl d.1]
  |some b=>
   simp only[lW,dA] at hk
   cases f with
   |none=>simp only[lW,ma,bL.injEq] at hl;subst hl;simp[gI,e hk d.2.1]
   |some a=>simp only[lW,dA] at hl;simp[gI,e hl d.1,e hk d.2.1]
 |some c=>
  simp only[lW,dA] at hm
  cases hi with
  |none=>exact(i c rfl rfl).elim
  |some b=>
   simp only[lW,dA] at hk
   cases f with
   |none=>simp only[lW,ma,bL.injEq] at hl;subst hl;simp[gI,e hm d.2.2,e hk d.2.1]
   |some a=>simp only[lW,dA] at hl;simp[gI,e hl d.1,e hk d.2.1,e hm d.2.2]
def pr {o:Oper} {ev:Operand->SV} {hp:Nat->Option aY} {v:SV} (h:mf T o.op ev hp=some (.val v)) (ρ:fF) (w:World) (hh: ∀b blk,hp b=some blk->fq ρ blk b w): (execOp (gI ev ρ) o).run P w= .ok (.value (v.den ρ)) w:=by
 obtain⟨b3,op,ty,pos,a4,a9⟩:=o
 simp only at h
 cases op<;>simp only[mf] at h<;>try (cases h;done)
 case move x=>cases h;rfl
 case assign x=>cases h;rfl
 case pick c a b=>
  split at h
  ·rename_i t J
   split at h
   ·rename_i x y V H
    simp only[bv,bL.injEq,Y0.val.injEq] at h;subst h
    simp only[execOp,gI,J,V,H]
    cases t<;>simp[SV.den,C.den,C.cells,asBool]
   ·simp only[bL.injEq,Y0.val.injEq] at h;subst h
    have e:(SV.c (C.val (.bool t))).den ρ= .bool t:=rfl
    simp only[execOp,gI,J,e]
    cases t<;>simp[a5B,asBool]
  ·cases h
 case alloc t=>split at h<;>cases h
 case box t x=>
  split at h
  ·split at h<;>cases h
  ·cases h
 case buildSlice t len parts=>
  split at h
  ·split at h
   ·split at h<;>cases h
   ·cases h
  ·cases h
 case load t x=>
  split at h
  ·rename_i b r ti q u
   split at h
   ·rename_i blk H
    split at h
    · rename_i v' hv
      cases h
      have:=xv hT u (hh b blk H) hv
      have e:(SV.c (C.ptr b r)).den ρ=lF ρ b r:=rfl
      simp only[execOp,gI,q,e,aX,this,aB,bc]
    · cases h
   ·cases h
  ·cases h
 case store t x y=>
  split at h
  ·split at h
   ·split at h
    · split at h
      ·cases h
      ·split at h<;>cases h
    · cases h
   ·cases h
  ·cases h
 case build t parts=>
  split at h
  ·rename_i size O z fs M u
   obtain⟨fd,B,hm,-⟩:=ia hT u
   split at h
   ·rename_i cs I
    cases h
    have H:=ut ρ B hm ((hT _ _ u).zero ρ) I
    rw[<-rZ] at H
    simp only[execOp,aX,run_build w t _ _ H,aB,bc]
    rfl
   ·split at h
    · rename_i cs I
      cases h
      have H:=ut ρ B hm (by rw[mC];exact(hT _ _ u).zero ρ) I
      rw[<-rZ] at H
      simp only[execOp,aX,run_build w t _ _ H,aB,bc]
      rfl
    · cases h
  ·rename_i size O z n D a M u
   obtain⟨e,B,he,hr,-⟩:=ia hT u
   split at h
   ·rename_i cs I
    cases h
    have H:=FO ρ B he hr ((hT _ _ u).zero ρ) I
    rw[<-rZ] at H
    simp only[execOp,aX,run_build w t _ _ H,aB,bc]
    rfl
   ·cases h
  ·cases h
 case binOp op t x y yt=>
  have:=VK hT h ρ w x y
  simp only[execOp,gI]
  rw[aX,this]
  rfl
 case unOp op t x=>
  split at h
  ·rename_i b q
   simp only[bv,bL.injEq,Y0.val.injEq] at h;subst h
   simp only[execOp,gI,q];rfl
  ·rename_i a V q
   simp only[iv,bL.injEq,Y0.val.injEq] at h;subst h
   simp only[execOp,gI,q];rfl
  ·rename_i op k a q
   unfold sK at h
   split at h
   ·rename_i v' hv
    cases h
    have e:(SV.c (C.val (.int k a))).den ρ= .int k a:=rfl
    simp only[execOp,gI,q,e,hv];rfl
   ·cases h
  ·cases h
 case convert s d x=>
  split at h
  all_goals first
   |(cases h;done)
   |(rename_i L u q
     have B:=ia hT u
     obtain⟨ds,b2,-⟩:=H4 hT L
     simp only[iv,bL.injEq,Y0.val.injEq] at h
     subst h
     simp only[execOp,gI,q]
     simp only[Vr] at B
     simp[convert,run_underlying b2 w,run_underlying B w,SV.den,C.den,C.cells,Conv.intToInt])
 case fieldAddr t x f=>
  split at h
  ·rename_i sz O z fs M b r u q
   obtain⟨fd,B,hm,-⟩:=ia hT u
   split at h
   ·rename_i o n a I
    split at h
    · cases h
    · rename_i hn
      cases h
      obtain⟨g,hg,rfl,rfl,hr⟩:=tp hm I
      obtain⟨i,N⟩:=fw hr
      have e:(SV.c (C.ptr b r)).den ρ=lF ρ b r:=rfl
      have L:=run_sizeOf w N
      simp only[execOp,gI,q,e,Instr.fieldAt,aX,run_underlying B w,aB,hg,lF,Instr.sureAddr,bc,fieldPlace,L]
      rw[if_neg hn]
      simp only[bc,aB,Addr.add_mid]
      simp[SV.den,C.den,C.cells,lF,qn]
   ·cases h
  ·cases h
 case field t x f=>
  split at h
  ·rename_i sz O z fs M l u q
   obtain⟨fd,B,hm,W⟩:=ia hT u
   split at h
   ·rename_i o n a I
    split at h
    · rename_i v' hv
      cases h
      have a2:(o,n,a)∈fs:=by rw[cD] at I;exact dV I
      obtain⟨g,hg,rfl,rfl,hr⟩:=tp hm I
      have hp:=xw hr (λe=>W _ a2 e) hv w (ρ:=ρ)
      simp only[execOp,gI,q,pn,Instr.field,aX,run_underlying B w,aB,hg,asAgg,bc,hp]
    · cases h
   ·cases h
  ·cases h
 case indexAddr t x i=>
  split at h
  ·rename_i sz O z n D a M b r j u q N
   obtain⟨e,B,he,hr,-⟩:=ia hT u
   split at h
   ·rename_i U
    cases h
    obtain⟨ie,A⟩:=fw hr
    have L:=run_sizeOf w A
    have Y:(SV.c (C.ptr b r)).den ρ=lF ρ b r:=rfl
    have hj:(0:Int)<=(j:Int)/\(j:Int)<(n:Int):=⟨om,om⟩
    simp only[execOp,gI,q,kH N ρ,Y,Instr.indexAt,asIntOf,aX,bc,aB,run_underlying B w,lF,Instr.sureAddr]
    rw[if_pos hj]
    simp only[aX,L,aB,bc,Addr.add_mid,bW,he]
    simp[SV.den,C.den,C.cells,lF,qn]
   ·cases h
  ·rename_i sz O z e D ez M nl b r len F hl j u q N
   obtain⟨B,he,A,-⟩:=ia hT u
   split at h
   ·rename_i U
    cases h
    obtain⟨ie,A⟩:=aK.1 A
    have L:=run_sizeOf w A
    have a6:=hl.pos U
    subst a6
    have Y:(SV.c (C.sli false b r len F hl)).den ρ= .slice (some ⟨(ρ b).1,(ρ b).2+r,none⟩) len F:=rfl
    have hj:(0:Int)<=(j:Int)/\(j:Int)<(len:Int):=⟨om,om⟩
    simp only[execOp,gI,q,kH N ρ,Y,Instr.indexAt,asIntOf,aX,bc,aB,run_underlying B w]
    rw[if_pos hj]
    simp only[aX,L,aB,bc,Addr.add_mid,bW,he]
    simp[SV.den,C.den,C.cells,lF,qn]
   ·cases h
  ·cases h
 case index t x i=>
  split at h
  ·rename_i sz O z n D a M l j u q N
   obtain⟨e,B,he,hr,W⟩:=ia hT u
   split at h
   ·rename_i U
    split at h
    · rename_i v' hv
      cases h
      obtain⟨ie,A⟩:=fw hr
      have L:=run_sizeOf w A
      subst he
      have hp:=xw hr W hv w (ρ:=ρ)
      have hj:(0:Int)<=(j:Int)/\(j:Int)<(n:Int):=⟨om,om⟩
      simp only[execOp,gI,q,kH N ρ,pn,Instr.index,asIntOf,aX,bc,aB,run_underlying B w]
      rw[if_pos hj]
      simp only[aX,L,aB,bW,hp]
    · cases h
   ·cases h
  ·rename_i sz O z M s j u q N
   have B:P.underlying t=some .string:=ia hT u
   split at h
   ·rename_i U
    cases h
    have e1:(SV.c (C.val (.string s))).den ρ= .string s:=rfl
    have h0:(0:Int)<=(j:Int):=om
    have H:s[j]? =some (s.data[j]?.getD 0):=by have hd:j<s.data.size:=U;rw[getElem?_pos s j U,aM hd];rfl
    simp only[execOp,gI,q,kH N ρ,e1,Instr.index,asIntOf,aX,bc,aB,run_underlying B w]
    simp only[if_pos h0,bW,H]
    rfl
   ·cases h
  ·cases h
 case slice t x lo N mx=>
  split at h
  ·rename_i sz O z e D ez M nl b r len F hl u q
   obtain⟨B,he,A,-⟩:=ia hT u
   obtain⟨ie,A⟩:=aK.1 A
   have L:=run_sizeOf w A
   have Y:(SV.c (C.sli nl b r len F hl)).den ρ= .slice (jK nl ⟨(ρ b).1,(ρ b).2+r,none⟩) len F:=rfl
   split at h
   ·rename_i l k m X a0 a8
    split at h
    · rename_i J
      cases h
      have Q:=n6 (P:=P) (ev:=ev) ρ w len F lo N mx X a0 a8 J.1 (λb e1 e2=>by subst e1;subst e2;simp at J) true
      simp only[execOp,gI,q,Y,Instr.sliceAt,Instr.slice,aX,run_underlying B w,aB]
      rw[Q]
      simp only[aB,L,bc,SV.den,C.den,C.cells,List.headD_cons,he]
      have R:(if m=l then jK nl ⟨(ρ b).1,(ρ b).2+r,none⟩ else a0v (λx=>x.add (l*D)) (jK nl ⟨(ρ b).1,(ρ b).2+r,none⟩))=jK nl ⟨(ρ b).1,(ρ b).2+gP r D l m,none⟩:=by
       rw[Ub]
       cases nl
       ·simp only[jK,dA,Addr.add_mid]
        by_cases W:m=l
        ·simp[W]
        ·by_cases h2:l=0
         ·subst h2;simp[W]
         ·simp[W,h2,qn]
       ·simp[jK]
      rw[R]
    · cases h
   ·cases h
  ·rename_i sz O z e D ez M a n c u q
   obtain⟨B,he,A,-⟩:=ia hT u
   obtain⟨ie,A⟩:=aK.1 A
   have L:=run_sizeOf w A
   split at h
   ·rename_i k X a0
    split at h
    · rename_i a7
      cases h
      have Q:=n6 (P:=P) (ev:=ev) ρ w n c lo N none X a0 rfl ⟨ah _,a7,ai _⟩ (λb e1 e2=>by cases e2) true
      have e1:(SV.c (C.val (.slice a n c))).den ρ= .slice a n c:=rfl
      simp only[execOp,gI,q,e1,Instr.sliceAt,Instr.slice,aX,run_underlying B w,aB]
      rw[Q]
      simp only[aB,L,bc]
      have R:(if c=0 then a else a0v (λx=>x.add (0*P.cellsOf e)) a)=a:=by cases a<;>simp[Addr.add]
      rw[R]
      rfl
    · cases h
   ·cases h
  ·rename_i sz O z M s u q
   have B:P.underlying t=some .string:=ia hT u
   split at h
   ·rename_i l k X a0
    split at h
    · rename_i J
      cases h
      have Q:=n6 (P:=P) (ev:=ev) ρ w s.size s.size lo N none X a0 rfl ⟨J.1,J.2,ai _⟩ (λb e1 e2=>by cases e2) false
      have e1:(SV.c (C.val (.string s))).den ρ= .string s:=rfl
      simp only[execOp,gI,q,e1,Instr.sliceAt,Instr.slice,aX,run_underlying B w,aB]
      simp only[ma] at Q
      simp[Q]
      rfl
    · cases h
   ·cases h
  ·cases h
 case nilCheck x=>
  split at h
  ·rename_i b r q
   cases h
   have e:(SV.c (C.ptr b r)).den ρ=lF ρ b r:=rfl
   simp only[execOp,gI,q,e,lF];rfl
  ·rename_i f bd a1 q
   cases h
   have e:(SV.c (C.fn f bd a1)).den ρ= .func (.func f) (IG bd) (a1.map λp=>lF ρ p.1 p.2).toArray:=rfl
   simp only[execOp,gI,q,e];rfl
  ·cases h
 case extract x i=>
  split at h
  ·rename_i l q
   split at h
   ·rename_i t u
    cases h
    rw[cD] at u
    have e:(SV.tup l).den ρ= .tuple (l.map (T1.den ρ)).toArray:=rfl
    have:(l.map (T1.den ρ)).toArray[i]? =some (t.den ρ):=by simp[u]
    simp only[execOp,gI,q,e,Instr.extract,this,aX,bc,aB]
    cases t<;>rfl
   ·cases h
  ·cases h
 case makeFunc fn first captured=>
  split at h
  ·rename_i f ps I hp
   cases h
   have J:=EA ρ hp
   have E:first= #[]:=Array.toList_eq_nil_iff.1 I
   subst E
   have:captured.map (gI ev ρ)=(ps.map λp=>lF ρ p.1 p.2).toArray:=by apply dz.1;rw[<-J];simp[gI,Function.comp_def]
   simp only[execOp,this,Instr.makeFunc,aX,bc,aB,Array.map_empty]
   rfl
  ·rename_i f x I hp
   have J:=EA ρ hp
   have E:first= #[x]:=dz.1 (by rw[I])
   subst E
   have hn:captured.toList=[]:=by have J:cg (SV.den ρ) (cg ev captured.toList)=[]:=J;simpa using J
   have:captured.map (gI ev ρ)= #[]:=by apply dz.1;rw[a8E,hn];rfl
   split at h
   ·rename_i l q
    split at h
    · rename_i b bs H
      cases h
      have e:(SV.agg l).den ρ= .agg (af ρ l).toArray:=rfl
      have e3:(#[x]:Array Operand).map (gI ev ρ)=IG (b::bs):=by apply dz.1;rw[a8E];show [(ev x).den ρ]=_;rw[q,e,yx ρ H];rfl
      simp only[execOp,this,e3,Instr.makeFunc,aX,bc,aB]
      rfl
    · cases h
   ·cases h
  ·cases h
 case call c=>
  obtain⟨ce,G,ts⟩:=c
  simp only at h
  have two: ∀{x y:Operand},G.toList=[x,y]->G= #[x,y]:=λh=>dz.1 (by rw[h])
  have Z: ∀{x y z:Operand},G.toList=[x,y,z]->G= #[x,y,z]:=λh=>dz.1 (by rw[h])
  split at h
  ·rename_i x t V a5
   have R:G= #[x]:=dz.1 (by rw[V])
   have et:ts= #[t]:=dz.1 (by rw[a5])
   subst R;subst et
   split at h
   ·rename_i sz O z e D ez M nl b r len F hl u q
    cases h
    obtain⟨B,-⟩:=ia hT u
    simp only[execOp,resolve,invoke,builtin,Builtin.len_]
    simp[gI,q,run_underlying B w,goInt,SV.den,C.den,C.cells]
   ·rename_i sz O z e D ez M av len F u q
    split at h
    · cases h
      obtain⟨B,-⟩:=ia hT u
      simp only[execOp,resolve,invoke,builtin,Builtin.len_]
      simp[gI,q,run_underlying B w,goInt,SV.den,C.den,C.cells]
    · cases h
   ·rename_i sz O z M s u q
    split at h
    · cases h
      have B:P.underlying t=some .string:=ia hT u
      simp only[execOp,resolve,invoke,builtin,Builtin.len_]
      simp[gI,q,run_underlying B w,goInt,SV.den,C.den,C.cells]
    · cases h
   ·cases h
  ·rename_i x y V
   have R:=two V
   subst R
   split at h
   ·rename_i a W b h2 q hy
    cases h
    simp only[execOp,resolve,invoke,builtin,Builtin.min_]
    simp[gI,q,hy,SV.den,C.den,C.cells,Builtin.min2,minI]
   ·cases h
  ·rename_i x y V
   have R:=two V
   subst R
   split at h
   ·rename_i a W b h2 q hy
    cases h
    simp only[execOp,resolve,invoke,builtin,Builtin.max_]
    simp[gI,q,hy,SV.den,C.den,C.cells,Builtin.max2,maxI]
   ·cases h
  ·rename_i x y z V
   have R:=Z V
   subst R
   split at h
   ·rename_i a W b h2 c h3 q hy hz
    cases h
    simp only[execOp,resolve,invoke,builtin,Builtin.min_]
    simp[gI,q,hy,hz,SV.den,C.den,C.cells,Builtin.min2,minI]
    rfl
   ·cases h
  ·rename_i x y z V
   have R:=Z V
   subst R
   split at h
   ·rename_i a W b h2 c h3 q hy hz
    cases h
    simp only[execOp,resolve,invoke,builtin,Builtin.max_]
    simp[gI,q,hy,hz,SV.den,C.den,C.cells,Builtin.max2,maxI]
    rfl
   ·cases h
  ·cases h
end
end
section
def Y0.isVal:Option Y0->Prop
 |some (.val _)=>True
 |none=>True
 |_=>False
def wi s:Y0.isVal (sK s):=by unfold sK;split<;>trivial
def FM T d t x y:Y0.isVal (IF T d t x y):=by unfold IF;(repeat' split)<;>first|trivial|exact wi _
section
variable {P:Program} {T:TypeId->Option TI} (hT:Fw P T)
include hT
def DM {o ev hp b f} (h:mf T o.op ev hp=some (.new b f)) ρ w: ∃val,(execOp (gI ev ρ) o).run P w= .ok (.value val) (w.alloc (.cells (af ρ b.cs).toArray b.ty))/\(b.ro=false/\b.tl=0)/\ ∀ρ' n,ρ' n=(w.heap.size,0)->(f n).den ρ'=val:=by
 obtain⟨p,q,B,pos,j,k⟩:=o
 simp only at h
 cases q<;>simp only[mf] at h<;>try (cases h;done)
 case alloc t=>
  split at h
  ·rename_i E g
   cases h
   refine⟨.pointer (some ⟨w.heap.size,0,none⟩),?_,⟨rfl,rfl⟩,λρ' n d=>by simp[SV.den,C.den,C.cells,lF,d]⟩
   simp only[execOp,aX,EH hT g ρ,aB,bc]
  ·cases h
 case box t x=>
  split at h
  ·rename_i l i
   split at h
   ·cases h
    refine⟨.pointer (some ⟨w.heap.size,0,none⟩),?_,⟨rfl,rfl⟩,λρ' n d=>by simp[SV.den,C.den,C.cells,lF,d]⟩
    simp only[execOp,gI,aX,J9 i ρ,aB,bc]
   ·cases h
  ·cases h
 case buildSlice t len parts=>
  split at h
  ·rename_i sz u z e r A D g
   split at h
   ·rename_i F s
    split at h
    ·rename_i i
     cases h
     refine⟨.slice (some ⟨w.heap.size,0,none⟩) len len,?_,⟨rfl,rfl⟩,λρ' n d=>by simp[SV.den,C.den,C.cells,jK,d]⟩
     have hp:=rZ ev ρ parts
     simp only[execOp,aX,vc (ia hT g) hp s i.2 w,aB,bc]
    ·cases h
   ·cases h
  ·cases h
 case store t x y=>(repeat' split at h)<;>cases h
 all_goals
  exfalso
  have m:Y0.isVal (some (.new b f)):=by rw[<-h];((repeat' split)<;>first|trivial|exact wi _|exact FM _ _ _ _ _)
  exact m
def xU {o ev hp b cs} (h:mf T o.op ev hp=some (.put b cs)): ∃blk off l,hp b=some blk/\blk.ro=false/\gO o.op=true/\ ∀ρ w,fq ρ blk b w->(execOp (gI ev ρ) o).run P w= .ok .skip (w.setCells (ρ b).1 off (af ρ l))/\ ∃t:List Value,ln t=blk.tl/\(w.setCells (ρ b).1 off (af ρ l)).heap[(ρ b).1]? =some (.cells (af ρ cs++t).toArray blk.ty (0,0)):=by
 obtain⟨s,u,F,pos,f,g⟩:=o
 simp only at h
 cases u<;>simp only[mf] at h<;>try (cases h;done)
 case store t x y=>
  split at h
  ·rename_i E off l G z q j
   split at h
   ·rename_i i
    split at h
    ·rename_i blk D
     split at h
     ·cases h
     ·rename_i d
      have d:blk.ro=false:=by simpa using d
      split at h
      ·rename_i m B
       cases h
       refine⟨blk,off,l,D,d,rfl,λρ w A=> ?_⟩
       obtain⟨r,k⟩:=vd hT j A d q i.1 i.2 B
       have e:(SV.c (C.ptr b off)).den ρ=lF ρ b off:=rfl
       refine⟨?_,k⟩
       simp only[execOp,gI,z,e,aX,r,aB,bc]
      ·cases h
    ·cases h
   ·cases h
  ·cases h
 case alloc t=>(repeat' split at h)<;>cases h
 case buildSlice t len parts=>(repeat' split at h)<;>cases h
 case box t x=>(repeat' split at h)<;>cases h
 all_goals
  exfalso
  have p:Y0.isVal (some (.put b cs)):=by rw[<-h];((repeat' split)<;>first|trivial|exact wi _|exact FM _ _ _ _ _)
  exact p
omit hT in
def eK (P:Program) (f:FuncId):Prop:= ∃fn,P.funcs[f]? =some fn/\fn.body.isNone=false/\(fn.name== "runtime.NumGoroutine")=false
omit hT in
def lT {o c} (ho:o.op= .call c) {ev f args} (i:callee ev c=some (f,args)) (z:eK P f) ρ w: (execOp (gI ev ρ) o).run P w= .ok (.enter f (args.map (SV.den ρ)).toArray) w:=by
 obtain⟨fn,s,m,y⟩:=z;obtain⟨B,k,A⟩:=c;unfold callee at i;split at i;rename_i q j;split at i;rename_i g h d u;cases i;simp only at j;subst j;have e:(SV.c (C.fn f h d)).den ρ= .func (.func f) (IG h) (d.map λp=>lF ρ p.1 p.2).toArray:=rfl;have x:IG h++k.map (gI ev ρ)++(d.map λp=>lF ρ p.1 p.2).toArray=((a0H h++(k.toList.map ev++d.map λp=>SV.c (.ptr p.1 p.2))).map (SV.den ρ)).toArray:=by rw[<-QM ρ h];apply dz.1;simp[gI,Function.comp_def,SV.den,C.den,C.cells]
 simp only[execOp,ho,resolve];have r:gI ev ρ q= .func (.func f) (IG h) (d.map λp=>lF ρ p.1 p.2).toArray:=by simp only[gI,u,e]
 rw[r];simp only[Deferred.ofValue,aX,bc,aB,invoke,x,callFunc,run_program,s,m,y];simp;cases i;cases i
end
def gt (d:Nat->Option aY) (ρ ρ0:fF):Prop:= ∀i,(d i).isSome=true->ρ i=ρ0 i
def df (d:Nat->Option aY) (n:Nat) (b:aY):Nat->Option aY:=λi=>if i=n then some b else d i
def ig (ρ:fF) (n:Nat) (p:Nat×Nat):fF:=λi=>if i=n then p else ρ i
structure ip where
 w:World
 B:Nat->Prop
 ρ:fF
 lo:Nat
def Aw:Obj->Bool
 | .cells _ _ _=>true
 | .map _ _=>true
 |_=>false
def jR {o} (h:o.isCells=true):Aw o=true:=by cases o<;>first|rfl|cases h
structure jT (W W':World):Prop where
 size:W.heap.size<=W'.heap.size
 same: ∀(k:Nat) o,W.heap[k]? =some o->Aw o=false->W'.heap[k]? =some o
def jT.of {W d} (h:KeepsOthers W d):jT W d:=⟨h.size,λk o f e=>h.same k o f (by cases hc:o.isCells;rfl;rw[jR hc] at e;cases e)⟩
def jT.refl W:jT W W:=⟨ai _,λ_ _ h _=>h⟩
def jT.trans {A B C} (h:jT A B) (k:jT B C):jT A C:=⟨aC h.size k.size,λi o e d=>k.same i o (h.same i o e d) d⟩
structure sR (N:Nat) (A B:World):Prop where
 below:Below N A B
 oth:jT A B
def sR.refl (N:Nat) A:sR N A A:=⟨Below.refl _ _,jT.refl _⟩
def sR.trans {N:Nat} {A B C:World} (h:sR N A B) (k:sR N B C):sR N A C:=⟨h.below.trans k.below,h.oth.trans k.oth⟩
def zm {A B} (h:Below A.heap.size A B):KeepsOthers A B:=⟨h.size,λk _ d _=>(h.block k (aE.1 d).1).trans d⟩
def sR.of {N:Nat} {A B:World} (h:Below A.heap.size A B) (d:N<=A.heap.size):sR N A B:=⟨h.mono d,.of (zm h)⟩
def sR.alloc {N:Nat} {A B:World} (h:sR N A B) (d:N<=B.heap.size) o:sR N A (B.alloc o):=⟨h.below.alloc d _,h.oth.trans (.of (KeepsOthers.alloc _ _))⟩
def sR.grown {N:Nat} {A B C:World} {g:Option Nat} (h:sR N A B) (d:B.grownBy C g) (i:N<=B.heap.size) (h1: ∀k,g=some k->N<=k) (h2: ∀k,g=some k-> ∃vs t p,B.heap[k]? =some (.cells vs t p)):sR N A C:=⟨h.below.grown d i h1,h.oth.trans (.of (KeepsOthers.of_grownBy d λj o m f=>by obtain⟨vs,t,p,e⟩:=h2 j m;rw[e] at f;cases f;rfl))⟩
def qb {g w}: ∀vs o {W},KeepsOthers w W->KeepsOthers w (W.setCells g o vs)
 |[],_,_,h=>h
 |v::vs,o,W,h=>by rw[World.setCells];exact qb vs (o+1) (h.trans (KeepsOthers.setCell W ⟨g,o,none⟩ v))
def sR.setCells {N g:Nat} {A B:World} (h:sR N A B) (e:N<=g) d (o:Nat):sR N A (B.setCells g o d):=⟨nJ e d o h.below,h.oth.trans (.of (qb d o (KeepsOthers.refl _)))⟩
structure iV (N:Nat) (w:World) (o:Bool) (e:mq):Prop where
 pure:cC e.cs
 row: ∃x:Obj,w.heap[e.a.1]? =some x/\x.isCells=true
 own:o=true->N<=e.a.1/\e.a.2=0/\ ∃t:List Value,ln t=e.tl/\w.heap[e.a.1]? =some (.cells (af (λ_=>(0,0)) e.cs++t).toArray e.ty (0,0))
 holds:w.rangeAt e.a.1 e.a.2 (af (λ_=>(0,0)) e.cs)
 old:o=false->e.a.1<N
def iV.lt {N w o e} (h:iV N w o e):e.a.1<w.heap.size:=let⟨_,h1,_⟩:=h.row;(aE.1 h1).1
def iV.keep {N w w' o e} (h:iV N w o e) (hk:w'.heap[e.a.1]? =w.heap[e.a.1]?):iV N w' o e:=⟨h.pure,by rw[hk];exact h.row,λd=>⟨(h.own d).1,(h.own d).2.1,by rw[hk];exact(h.own d).2.2⟩,λj v f=>(Nu (w:=w) (a:=⟨e.a.1,e.a.2+j,none⟩) hk).trans (h.holds j v f),h.old⟩
def Ij (N:Nat) (d:Nat->Option aY) (ρ:fF) (w:World):Prop:= ∀i b o l e,d i=some b->b.famOf=some (o,l)->e∈l->iV N w o e/\ ∀j c,d j=some c->c.ro=false->(ρ j).1≠e.a.1
def Ij.keep {N k ρ w w'} (h:Ij N k ρ w) (hk: ∀i b o l e,k i=some b->b.famOf=some (o,l)->e∈l->iV N w o e->(∀j c,k j=some c->c.ro=false->(ρ j).1≠e.a.1)->w'.heap[e.a.1]? =w.heap[e.a.1]?):Ij N k ρ w':=λi b o l e g f d=>⟨(h i b o l e g f d).1.keep (hk i b o l e g f d (h i b o l e g f d).1 (h i b o l e g f d).2),(h i b o l e g f d).2⟩
def Ij.up {N m d ρ f w} (h:Ij N m ρ w) (h1: ∀i b,d i=some b->b.famOf.isSome=true-> ∃i' b',m i'=some b'/\b'.famOf=b.famOf) (h2: ∀j c,d j=some c->c.ro=false->(∃j' c',m j'=some c'/\c'.ro=false/\(f j).1=(ρ j').1)\/ ∀i b o l e,m i=some b->b.famOf=some (o,l)->e∈l->iV N w o e->(f j).1≠e.a.1):Ij N d f w:=λi b o l e y r p=>by obtain⟨i',b',k,g⟩:=h1 i b y (by rw[r];rfl);rw[r] at g;obtain⟨q,s⟩:=h i' b' o l e k g p;refine⟨q,λj c x u=> ?_⟩;rcases h2 j c x u with⟨j',c',h3,h4,h5⟩|h3;rw[h5];exact s j' c' h3 h4;exact h3 i' b' o l e k g p q
def Ij.up2 {N g d ρ f w} (h:Ij N g ρ w) (h1: ∀i b,d i=some b->b.famOf.isSome=true->(∃i' b',g i'=some b'/\b'.famOf=b.famOf)\/b.famOf=some (true,[])) (h2: ∀j c,d j=some c->c.ro=false->(∃j' c',g j'=some c'/\c'.ro=false/\(f j).1=(ρ j').1)\/ ∀i b o l e,g i=some b->b.famOf=some (o,l)->e∈l->iV N w o e->(f j).1≠e.a.1):Ij N d f w:=λi b o l e u m k=>by rcases h1 i b u (by rw[m];rfl) with⟨i',b',hi',hb'⟩|h0;rw[m] at hb';obtain⟨p,q⟩:=h i' b' o l e hi' hb' k;refine⟨p,λj c s r=> ?_⟩;rcases h2 j c s r with⟨j',c',h3,h4,h5⟩|h3;rw[h5];exact q j' c' h3 h4;exact h3 i' b' o l e hi' hb' k p;rw[m] at h0;cases h0;cases k
def iB {b:aY} (h:b.tl=0):b.famOf=none:=by obtain⟨d,e,f,g⟩:=b;subst h;unfold aY.famOf GC;split;rename_i h;cases h;rename_i h;cases h;rfl
def y9 {b:aY} (h:b.ro=false):b.famOf=none:=by obtain⟨d,e,f,g⟩:=b;subst h;unfold aY.famOf GC;split;rename_i h _;cases h;rename_i h _;cases h;rfl
structure dv (N:Nat) (w0:ip) (hf:Nat->Option aY) (ρ0:fF) (w:World):Prop where
 old: ∀i b,hf i=some b->b.void=false->(ρ0 i).1<w.heap.size
 own: ∀i b,hf i=some b->b.ro=false->N<=(ρ0 i).1
 apart: ∀i j b c,hf i=some b->b.ro=false->hf j=some c->c.void=false->j≠i->(ρ0 j).1≠(ρ0 i).1
 holds: ∀ρ,gt hf ρ ρ0-> ∀i b,hf i=some b->fq ρ b i w
 bel:sR N w0.w w
 big:N<=w.heap.size
 ext: ∀i,w0.B i->(hf i).isSome=true/\ρ0 i=w0.ρ i
 maps: ∀i b e,hf i=some b->b.mapOf=some e->N<=(ρ0 i).1/\w.heap[(ρ0 i).1]? =some (.map (kW e.1) e.2)
 mapA: ∀i j b c,hf i=some b->hf j=some c->b.mapOf.isSome=true->c.mapOf.isSome=true->j≠i->(ρ0 j).1≠(ρ0 i).1
 fam:Ij N hf ρ0 w
def fq.keep {ρ b i w w'} (h:fq ρ b i w) (hk:w'.heap[(ρ i).1]? =w.heap[(ρ i).1]?):fq ρ b i w':=⟨λj v e=>(Nu (w:=w) (a:=⟨(ρ i).1,(ρ i).2+j,none⟩) hk).trans (h.1 j v e),λd=>⟨(h.2 d).1,let⟨t,h1,h2⟩:=(h.2 d).2;⟨t,h1,hk.trans h2⟩⟩⟩
def lE {b:aY} (h:b.void=true):b.ro=true/\b.cs=[]:=by unfold aY.void at h;split at h;rename_i e d;exact⟨e,d⟩;cases h
def qR {b:aY} {e:List (BV×BV)×Nat} (h:b.mapOf=some e): ∃n,b=⟨.m n e.1 e.2,true,[],1⟩:=by obtain⟨f,g,i,d⟩:=b;unfold aY.mapOf at h;simp only at h;unfold Ee at h;split at h;cases h;exact⟨_,rfl⟩;cases h
def l5 {b:aY} (h:b.ro=false):b.mapOf=none:=by
 cases hm:b.mapOf with
 |none=>rfl
 |some e=>obtain⟨n,rfl⟩:=qR hm;cases h
def hW {b:aY} (h:b.tl=0):b.mapOf=none:=by
 cases hm:b.mapOf with
 |none=>rfl
 |some e=>obtain⟨n,rfl⟩:=qR hm;cases h
def qT: ∀{l} (_:rV l=true) {i} {b:aY},an l i=some b->b.mapOf=none
 |[],_,i,b,h=>by simp[an] at h
 |x::l,hp,i,b,h=>by
  unfold rV at hp;split at hp;rename_i d
  cases i with
  |zero=>simp[an] at h;subst h;exact hW d
  |succ i=>exact qT hp (by simpa[an] using h)
  cases hp
def LK {b:aY} (h:b.mapOf.isSome=true):b.famOf=none:=by obtain⟨e,d⟩:=aK.1 h;obtain⟨n,rfl⟩:=qR d;rfl
def wX: ∀{l} (_:rV l=true) {i} {b:aY},an l i=some b->b.famOf=none
 |[],_,i,b,h=>by simp[an] at h
 |x::l,hp,i,b,h=>by
  unfold rV at hp;split at hp;rename_i d
  cases i with
  |zero=>simp[an] at h;subst h;exact iB d
  |succ i=>exact wX hp (by simpa[an] using h)
  cases hp
def fH {b:aY} (h:b.ro=false):b.void=false:=by unfold aY.void;rw[h]
def fq.void {b:aY} (h:b.void=true) ρ i w:fq ρ b i w:=by obtain⟨f,e⟩:=lE h;refine⟨λj v d=> ?_,λh=>by rw[f] at h;cases h⟩;rw[e] at d;simp[af] at d
def kR (b:aY):b.void=true\/b.void=false:=by cases b.void<;>simp
def gt.refl d ρ:gt d ρ ρ:=λ_ _=>rfl
def dv.below {N:Nat} {w0:ip} {d:Nat->Option aY} {ρ0:fF} {w w':World} (h:dv N w0 d ρ0 w) (hb:Below w.heap.size w w'):dv N w0 d ρ0 w' where
 old i b hi hv:=dh (h.old i b hi hv) hb.size
 own:=h.own
 apart:=h.apart
 holds ρ hρ i b hi:=(kR b).elim (λhv=>fq.void hv ρ i w') λhv=>(h.holds ρ hρ i b hi).keep (hb.block _ (by rw[hρ i (by rw[hi];rfl)];exact h.old i b hi hv))
 bel:=h.bel.trans (sR.of hb h.big)
 big:=aC h.big hb.size
 ext:=h.ext
 maps i b e hi he:=⟨(h.maps i b e hi he).1,(hb.block _ (aE.1 (h.maps i b e hi he).2).1).trans (h.maps i b e hi he).2⟩
 mapA:=h.mapA
 fam:=h.fam.keep λ_ _ _ _ _ _ _ _ f _=>hb.block _ f.lt
def dv.rebase {N:Nat} {w0 d:ip} {g:Nat->Option aY} {ρ:fF} {w:World} (h:dv N d g ρ w) (hb:sR N w0.w d.w) (e: ∀i,w0.B i->d.B i/\d.ρ i=w0.ρ i):dv N w0 g ρ w:=⟨h.old,h.own,h.apart,h.holds,hb.trans h.bel,h.big,λi f=>⟨(h.ext i (e i f).1).1,(h.ext i (e i f).1).2.trans (e i f).2⟩,h.maps,h.mapA,h.fam⟩
def fq.isCells {ρ b i w} (h:fq ρ b i w) (hv:b.void=false) {o} (ho:w.heap[(ρ i).1]? =some o):o.isCells=true:=by
 cases hro:b.ro with
 |false=>obtain⟨-,t,-,e⟩:=h.2 hro;rw[e] at ho;cases ho;rfl
 |true=>
  cases hc:b.cs with
  |nil=>unfold aY.void at hv;rw[hro,hc] at hv;cases hv
  |cons x l=>(have g:0<(af ρ b.cs).length:=by rw[<-cU,hc];cases x<;>simp[bu,C.n]<;>omega);obtain⟨j,d,f⟩:=cells_of_cell (h.1 0 _ (ae g));rw[ho] at d;cases d;exact f
def dv.grownBy {N:Nat} {w0:ip} {s:Nat->Option aY} {ρ0:fF} {w w':World} (h:dv N w0 s ρ0 w) {m:Option Nat} (d:w.grownBy w' m) (p: ∀r,m=some r->w0.w.heap.size<=r/\N<=r/\ ∃o:Obj,w.heap[r]? =some o/\Aw o=false):dv N w0 s ρ0 w' where
 old i b hi hv:=dh (h.old i b hi hv) d.size
 own:=h.own
 apart:=h.apart
 holds ρ hρ i b hi:=(kR b).elim (λhv=>fq.void hv ρ i w') λhv=>(h.holds ρ hρ i b hi).keep (d.block _ (by rw[hρ i (by rw[hi];rfl)];exact h.old i b hi hv) λe=>by
  obtain⟨-,-,o,f,j⟩:=p _ e.symm
  rw[jR ((h.holds ρ hρ i b hi).isCells hv f)] at j;cases j)
 bel:=⟨h.bel.below.grown d h.big λk g=>(p k g).2.1,⟨aC h.bel.oth.size d.size,λk o g f=>(d.block k (dh (aE.1 g).1 h.bel.oth.size) λe=>by
  have:=(p k e.symm).1
  have:=(aE.1 g).1
  omega).trans (h.bel.oth.same k o g f)⟩⟩
 big:=aC h.big d.size
 ext:=h.ext
 maps i b e hi he:=⟨(h.maps i b e hi he).1,(d.block _ (aE.1 (h.maps i b e hi he).2).1 λq=>by
  obtain⟨-,-,o,f,j⟩:=p _ q.symm
  rw[(h.maps i b e hi he).2] at f;cases f;cases j).trans (h.maps i b e hi he).2⟩
 mapA:=h.mapA
 fam:=h.fam.keep λ_ _ _ _ _ _ _ _ g _=>d.block _ g.lt λq=>by obtain⟨-,-,o,f,j⟩:=p _ q.symm;obtain⟨x,u,y⟩:=g.row;rw[f] at u;cases u;rw[jR y] at j;cases j
def dv.anew {N:Nat} {w0:ip} {m:Nat->Option aY} {ρ0:fF} {w w':World} (h:dv N w0 m ρ0 w) {j:Option Nat} (g:w.grownBy w' j) (p: ∀r,j=some r-> ∃o:Obj,w.heap[r]? =some o/\Aw o=false) (y:Nat):dv N ⟨w',λi=>(m i).isSome=true,ρ0,y⟩ m ρ0 w' where
 old i b hi hv:=dh (h.old i b hi hv) g.size
 own:=h.own
 apart:=h.apart
 holds ρ hρ i b hi:=(kR b).elim (λhv=>fq.void hv ρ i w') λhv=>(h.holds ρ hρ i b hi).keep (g.block _ (by rw[hρ i (by rw[hi];rfl)];exact h.old i b hi hv) λe=>by
  obtain⟨o,f,d⟩:=p _ e.symm
  rw[jR ((h.holds ρ hρ i b hi).isCells hv f)] at d;cases d)
 bel:=sR.refl _ _
 big:=aC h.big g.size
 ext i hi:=⟨hi,rfl⟩
 maps i b e hi he:=⟨(h.maps i b e hi he).1,(g.block _ (aE.1 (h.maps i b e hi he).2).1 λk=>by
  obtain⟨o,f,d⟩:=p _ k.symm
  rw[(h.maps i b e hi he).2] at f;cases f;cases d).trans (h.maps i b e hi he).2⟩
 mapA:=h.mapA
 fam:=h.fam.keep λ_ _ _ _ _ _ _ _ q _=>g.block _ q.lt λk=>by obtain⟨o,f,d⟩:=p _ k.symm;obtain⟨x,s,u⟩:=q.row;rw[f] at s;cases s;rw[jR u] at d;cases d
def Hh {w:World} {g:Nat} {cs:List Value} {t:TypeId} (h:w.heap[g]? =some (.cells cs.toArray t (0,0))):w.rangeAt g 0 cs:=λj v d=>by rw[aN,cell_of_row _ _ _ _ _ _ h];simpa using d
def dv.new {N:Nat} {w0:ip} {z:Nat->Option aY} {ρ0:fF} {w:World} (h:dv N w0 z ρ0 w) {n:Nat} (R:z n=none) {b:aY} (hro:b.ro=false/\b.tl=0) {L:List Value} (V: ∀ρ,gt z ρ ρ0->af ρ b.cs=L):dv N w0 (df z n b) (ig ρ0 n (w.heap.size,0)) (w.alloc (.cells L.toArray b.ty)):=by
 have G: ∀i c,z i=some c->i≠n:=λi c f e=>by rw[e,R] at f;cases f
 have g: ∀i c,df z n b i=some c->(i=n/\c=b)\/(i≠n/\z i=some c):=λi c f=>by unfold df at f;split at f;rename_i e;cases f;exact .inl ⟨e,rfl⟩;rename_i e;exact .inr ⟨e,f⟩
 have r: ∀i,i≠n->ig ρ0 n (w.heap.size,0) i=ρ0 i:=λi e=>if_neg e;have m:ig ρ0 n (w.heap.size,0) n=(w.heap.size,0):=if_pos rfl;refine⟨λi c f D=> ?_,λi c f u=> ?_,λi j c d f u H A y=> ?_,λρ B i c f=> ?_,h.bel.alloc h.big _,aC h.big sp,λi f=> ?_,λi c e f J=> ?_,λi j c d f H u A y=> ?_,(h.fam.up (λi c f Q=> ?_) (λj c H u=> ?_)).keep λ_ _ _ _ _ _ _ _ x _=>Below.heap_alloc _ _ _ x.lt⟩;rcases g i c f with⟨rfl,rfl⟩|⟨e,f⟩;rw[m];simp;rw[r i e];have:=h.old i c f D;simp;omega;rcases g i c f with⟨rfl,rfl⟩|⟨e,f⟩;rw[m];exact h.big;rw[r i e];exact h.own i c f u;rcases g i c f with⟨rfl,rfl⟩|⟨e,p⟩<;>rcases g j d H with⟨rfl,rfl⟩|⟨I,q⟩;exact absurd rfl y;rw[m,r j I];have:=h.old j d q A;simp;omega;rw[m,r i e];have:=h.old i c p (fH u);simp;omega;rw[r i e,r j I];exact h.apart i j c d p u q A y;have s:gt z ρ ρ0:=λk x=>by obtain⟨P,F⟩:=aK.1 x;have:=B k (by unfold df;rw[if_neg (G k P F)];exact x);rw[this,r k (G k P F)]
 rcases g i c f with⟨rfl,rfl⟩|⟨e,f⟩;have M:ρ i=(w.heap.size,0):=by rw[B i (by unfold df;rw[if_pos rfl];rfl),m]
 unfold fq;rw[M,V ρ s];have x:=heap_alloc_new w (.cells L.toArray c.ty);exact⟨Hh x,λ_=>⟨rfl,[],hro.2.symm,by rw[bk];exact x⟩⟩;refine(kR c).elim (λD=>fq.void D ρ i _) λD=>(h.holds ρ s i c f).keep (Below.heap_alloc _ _ _ ?_);rw[s i (by rw[f];rfl)];exact h.old i c f D;obtain⟨O,T⟩:=h.ext i f;have E:i≠n:=λe=>by rw[e,R] at O;cases O
 rw[r i E];refine⟨?_,T⟩;unfold df;rw[if_neg E];exact O;rcases g i c f with⟨rfl,rfl⟩|⟨U,f⟩;rw[l5 hro.1] at J;cases J;rw[r i U];have:=h.maps i c e f J;exact⟨this.1,(Below.heap_alloc _ _ _ (aE.1 this.2).1).trans this.2⟩;rcases g i c f with⟨rfl,rfl⟩|⟨e,p⟩;rw[l5 hro.1] at u;cases u;rcases g j d H with⟨rfl,rfl⟩|⟨I,q⟩;rw[l5 hro.1] at A;cases A;rw[r i e,r j I];exact h.mapA i j c d p q u A y;rcases g i c f with⟨rfl,rfl⟩|⟨e,p⟩;rw[y9 hro.1] at Q;cases Q;exact⟨i,c,p,rfl⟩;rcases g j c H with⟨rfl,rfl⟩|⟨e,q⟩;refine .inr λi b o l e _ _ _ x=> ?_;rw[m];have:=x.lt;show w.heap.size≠_;omega;exact .inl ⟨j,c,q,u,by rw[r j e]⟩
def Ad {w:World} {g:Nat} {cs t:List Value} {ty:TypeId} (h:w.heap[g]? =some (.cells (cs++t).toArray ty (0,0))):w.rangeAt g 0 cs:=λj v d=>by have e:=(aw.1 d).1;rw[aN,cell_of_row _ _ _ _ _ _ h];simp only[cf];rw[dN e];exact d
def dv.write {N:Nat} {w0:ip} {z:Nat->Option aY} {ρ0:fF} {w w':World} (h:dv N w0 z ρ0 w) {b:Nat} {blk c:aY} (hb:z b=some blk) (hro:blk.ro=false) (p:c.ro=false) (o: ∀k,k<w.heap.size->k≠(ρ0 b).1->w'.heap[k]? =w.heap[k]?) (D:sR N w0.w w') (y:w.heap.size<=w'.heap.size) (hk: ∀ρ,gt z ρ ρ0-> ∃t:List Value,ln t=c.tl/\w'.heap[(ρ0 b).1]? =some (.cells (af ρ c.cs++t).toArray c.ty (0,0))): dv N w0 (df z b c) ρ0 w':=by
 have g: ∀i d,df z b c i=some d->(i=b/\d=c)\/(i≠b/\z i=some d):=λi d f=>by unfold df at f;split at f;rename_i e;cases f;exact .inl ⟨e,rfl⟩;rename_i e;exact .inr ⟨e,f⟩
 have U:=h.own b blk hb hro;refine⟨λi d f B=> ?_,λi d f A=> ?_,λi j d e f A F u r=> ?_,λρ H i d f=> ?_,D,aC h.big y,λi f=> ?_,λi d e f u=> ?_,λi j d e f F E u r=> ?_,(h.fam.keep λ_ _ _ _ _ _ _ _ hk O=>o _ hk.lt λJ=>O b blk hb hro J.symm).up (λi d f x=> ?_) λj d F E=> ?_⟩;rcases g i d f with⟨rfl,rfl⟩|⟨e,f⟩;exact dh (h.old i blk hb (fH hro)) y;exact dh (h.old i d f B) y;rcases g i d f with⟨rfl,rfl⟩|⟨e,f⟩;exact U;exact h.own i d f A;rcases g i d f with⟨rfl,rfl⟩|⟨G,q⟩<;>rcases g j e F with⟨rfl,rfl⟩|⟨R,s⟩;exact absurd rfl r;exact h.apart i j blk e hb hro s u r;exact h.apart i j d blk q A hb (fH hro) r;exact h.apart i j d e q A s u r;have m:gt z ρ ρ0:=λk hk=>H k (by unfold df;split;rfl;exact hk);have I:ρ b=ρ0 b:=m b (by rw[hb];rfl);rcases g i d f with⟨rfl,rfl⟩|⟨e,f⟩;unfold fq;have L:=((h.holds ρ m i blk hb).2 hro).1;obtain⟨t,Q,hk⟩:=hk ρ m;rw[I] at L⊢;rw[L];exact⟨Ad hk,λ_=>⟨rfl,t,Q,hk⟩⟩;refine(kR d).elim (λB=>fq.void B ρ i _) λB=>(h.holds ρ m i d f).keep (o _ ?_ ?_);rw[m i (by rw[f];rfl)];exact h.old i d f B;rw[m i (by rw[f];rfl)];exact h.apart b i blk d hb hro f B e;obtain⟨P,M⟩:=h.ext i f;refine⟨?_,M⟩;unfold df;split;rfl;exact P;rcases g i d f with⟨rfl,rfl⟩|⟨J,f⟩;rw[l5 p] at u;cases u;have x:=h.maps i d e f u;refine⟨x.1,(o _ (aE.1 x.2).1 λT=> ?_).trans x.2⟩;obtain⟨-,t,-,A⟩:=(h.holds ρ0 (gt.refl _ _) b blk hb).2 hro;rw[T,A] at x;cases x.2;rcases g i d f with⟨rfl,rfl⟩|⟨G,q⟩;rw[l5 p] at E;cases E;rcases g j e F with⟨rfl,rfl⟩|⟨R,s⟩;rw[l5 p] at u;cases u;exact h.mapA i j d e q s E u r;rcases g i d f with⟨rfl,rfl⟩|⟨G,q⟩;rw[y9 p] at x;cases x;exact⟨i,d,q,rfl⟩;rcases g j d F with⟨rfl,rfl⟩|⟨G,s⟩;exact .inl ⟨j,blk,hb,hro,rfl⟩;exact .inl ⟨j,d,s,E,rfl⟩
def dv.put {N:Nat} {w0:ip} {hf:Nat->Option aY} {ρ0:fF} {w:World} (h:dv N w0 hf ρ0 w) {b off:Nat} {blk:aY} {M:List Value} {cs:List C} (hb:hf b=some blk) (hro:blk.ro=false)
  (hk: ∀ρ,gt hf ρ ρ0-> ∃t:List Value,ln t=blk.tl/\(w.setCells (ρ0 b).1 off M).heap[(ρ0 b).1]? =some (.cells (af ρ cs++t).toArray blk.ty (0,0))):
  dv N w0 (df hf b {ty:=blk.ty,ro:=blk.ro,cs:=cs,tl:=blk.tl}) ρ0 (w.setCells (ρ0 b).1 off M):=
 h.write hb hro hro (λ_ _ d=>nL d _ _ _) (h.bel.setCells (h.own b blk hb hro) _ _) (CS (oY _ _ _).symm) hk
def F9 v ρ:(Ep v).den ρ=v:=by
 unfold Ep;split;split<;>rfl;rename_i d
 have:af ρ (d.toList.map .val)=d.toList:=by
  induction d.toList with
  |nil=>rfl
  |cons x l ih=>rw[aI,cO,ih];rfl
 rw[pn,this];rfl
def a1D ρ:uv.den ρ=undef:=rfl
def Mj ρ d t:(ij uv d t).den ρ=((d.map (SV.den ρ))[t]?).getD undef:=by rw[iE];simp only[gA];cases d[t]? <;>rfl
def fP {a:Act} {d:List SV} {ρ:fF} (h:a.tmps.toList=d.map (SV.den ρ)):a.eval=gI (gv d) ρ:=by
 funext x
 cases x with
 |tmp t=>simp only[Act.eval,gI,gv,Mj,<-h];simp
 |const v=>simp only[Act.eval,gI,gv,F9]
 |global g=>rfl
 |func f=>rfl
def EC {a:Act} {e:List SV} {ρ:fF} (h:a.tmps.toList=e.map (SV.den ρ)) (d:Option Tmp) (v:SV) {u:Value} (f:u=v.den ρ): (a.put d u).tmps.toList=(match d with|some t=>e.set t v|none=>e).map (SV.den ρ):=by
 subst f
 cases d with
 |none=>exact h
 |some t=>simp[Act.put,h]
def pM (a:Act) d u:(a.put d u).defers=a.defers:=by cases d<;>rfl
end
section
def Ch (D:Nat):Deferred:={target:= .collected D,args:= #[]}
def KO (N:Nat) (w0:ip) (d:List Deferred):Prop:= ∃M:List Nat,d=M.map Ch/\M.Nodup/\w0.lo<=w0.w.heap.size/\ ∀D∈M,N<=D/\w0.lo<=D/\w0.w.heap[D]? =some (.deferred (some []))
def KO.nil N w0 (h:w0.lo<=w0.w.heap.size):KO N w0 []:=⟨[],rfl,sZ,h,λ_ h=>by cases h⟩
def IterOk (P:Program) (f:FuncId) (lb:Array Value) (d:Nat->Array Value) (n:Nat) (G:World->Prop):Prop:=
 ∀(l:Nat) (J:Nat->World->Prop) (Jx:World->Prop) (W:World),(∀k A B,J k A->A.grownBy B none->J k B)->(∀A B,Jx A->A.grownBy B none->Jx B)->(∀k A,J k A->G A)->
  (∀k A,J k A->k<n->YieldAt Fence.wide 0 P l (d k) A λe B=>(e= .returned (.bool true)/\J (k+1) B)\/(e= .returned (.bool false)/\Jx B))->J 0 W->
  CallsIn Fence.wide 0 P f (#[.func (.yield l) #[] #[]]++lb) W λe B=>(∃v,e= .returned v)/\(J n B\/Jx B)
def iN (N:Nat) (w0:ip) (f:List SV) (hp:List aY) (a:Act) (w:World):Prop:=∃d,dv N w0 (an hp) d w/\(∀e,gt (an hp) e d->a.tmps.toList=f.map (SV.den e))/\KO N w0 a.defers
def yl (P:Program) (O:Oper->List SV->List aY->(List SV->List aY->Prop)->Prop):Prop:=
 ∀o g i K,O o g i K-> ∀{N w0 a w next Q},iN N w0 g i a w->
  (∀d e f h,K d e->iN N w0 d e f h->next f h)->o.wp P a w next Q
def GR (f:Nat->Option aY) (ρ:fF) (g:List Nat) (w:World):Prop:= ∃d,gt f d ρ/\ ∀b∈g,∀blk,f b=some blk->fq d blk b w/\(blk.void=false->(d b).1<w.heap.size)/\ ∀o l,blk.famOf=some (o,l)-> ∀e∈l,iV w.heap.size w false e
def a6F (d:Nat->Option aY) (w:World):Prop:= ∀b blk o l e,d b=some blk->blk.famOf=some (o,l)->e∈l->iV w.heap.size w false e
structure iU (P:Program) (E:ic):Prop where
 T:Fw P E.T
 D: ∀f args hf p v,E.D f args hf=some (p,v)->eK P f/\(∀ρ ρ',args.map (SV.den ρ)=args.map (SV.den ρ')->v.den ρ=v.den ρ')/\((∀q,p=some q->q)-> ∀ρ w,(∀b blk,hf b=some blk->fq ρ blk b w)->
  Calls P f (args.map (SV.den ρ)).toArray w λe w'=>e= .returned (v.den ρ)/\Below w.heap.size w w')
 O:yl P E.O
 R: ∀f caps hf K,E.R f caps hf K-> ∃ds xs,K ds xs/\eK P f/\(∀x∈xs,∀y∈x,∀ρ ρ',y.den ρ=y.den ρ')/\ ∀ρ:fF,
  IterOk P f (caps.map λp=>lF ρ p.1 p.2).toArray (λk=>((ij [] xs k).map (SV.den ρ)).toArray) (ln xs) (GR hf ρ ds):=by exact λ_ _ _ _ h=>absurd (show False from h) id
 X: ∀f args hf v,E.X f args hf v->eK P f/\(∀ρ ρ',v.den ρ=v.den ρ')/\ ∀ρ w,(∀b blk,hf b=some blk->fq ρ blk b w)->a6F hf w->Calls P f (args.map (SV.den ρ)).toArray w λe w'=>e= .returned (v.den ρ)/\Below w.heap.size w w':=by exact λ_ _ _ _ h=>absurd (show False from h) id
def ko (P:Program) (H:FuncId->List SV->List aY->(SV->List aY->Prop)->Prop):Prop:=
 ∀f d m K,H f d m K->eK P f/\ ∀N o g w,dv N o (an m) g w->(∀k,gt (an m) k g->d.map (SV.den k)=d.map (SV.den g))->
  Calls P f (d.map (SV.den g)).toArray w λe p=> ∃v j h,K v j/\dv N o (an j) h p/\(∀i,(an m i).isSome=true->(an j i).isSome=true/\h i=g i)/\ ∀k,gt (an j) k h->e= .returned (v.den k)
def fY {d:Type} (l:List d):an l (ln l)=none:=by rw[cD];simp
def Cm {d:Type} (l:List d) (x:d) (i:Nat):an (l++[x]) i=if i=(ln l) then some x else an l i:=by rw[cD,cD];split;rename_i h;subst h;simp;rename_i h;by_cases hi:i<ln l;rw[dN hi];rw[bi su,bi om]
def fi (l:List aY) (x:aY):an (l++[x])=df (an l) (ln l) x:=by funext i;rw[Cm];rfl
def dt l n x y (h:an l n=some y):an (l.set n x)=df (an l) n x:=by funext i;rw[cD] at h⊢;unfold df;rw[cD];have d:=(aw.1 h).1;split;rename_i e;subst e;rw[pj d];rename_i e;rw[eF (λh=>e h.symm)]
def gt.sub {f e ρ ρ0 ρ1} (h:gt e ρ ρ1) (hs: ∀i,(f i).isSome=true->(e i).isSome=true/\ρ1 i=ρ0 i):gt f ρ ρ0:=λi d=>(h i (hs i d).1).trans (hs i d).2
def n7 {d ρ0 n b p} (g:d n=none): ∀i,(d i).isSome=true->(df d n b i).isSome=true/\ig ρ0 n p i=ρ0 i:=λi f=>by
 have:i≠n:=λe=>by rw[e,g] at f;cases f
 unfold df ig;rw[if_neg this,if_neg this];exact⟨f,rfl⟩
def iN.put {N:Nat} {w0:ip} {g:List SV} {hp e:List aY} {a:Act} {w':World} {ρ0 ρ1:fF} (j: ∀ρ,gt (an hp) ρ ρ0->a.tmps.toList=g.map (SV.den ρ)) (m:KO N w0 a.defers)
  (h:dv N w0 (an e) ρ1 w') (hs: ∀i,(an hp i).isSome=true->(an e i).isSome=true/\ρ1 i=ρ0 i) (d:Option Tmp) {v:SV} {u:Value} (k: ∀ρ,gt (an e) ρ ρ1->u=v.den ρ):
  iN N w0 (match d with|some t=>g.set t v|none=>g) e (a.put d u) w':=
 ⟨ρ1,h,λρ f=>EC (j ρ (f.sub hs)) d v (k ρ f),by rw[pM];exact m⟩
section
variable {P:Program} {E:ic} (hE:iU P E) {H:FuncId->List SV->List aY->(SV->List aY->Prop)->Prop} (hH:ko P H)
include hE hH
def kQ {N:Nat} {w0:ip} {o:Oper} {V:List SV} {hp:List aY} {K:List SV->List aY->Prop} (h:wJ E H o V hp K) {a:Act} {w:World} (hr:iN N w0 V hp a w) {next:Act->World->Prop} {Q:Exit->Act->World->Prop} (X: ∀tm' hp' a' w',K tm' hp'->iN N w0 tm' hp' a' w'->next a' w'):o.wp P a w next Q:=by
 obtain⟨d,B,G,U⟩:=hr;have u: ∀j,gt (an hp) j d->a.eval=gI (gv V) j:=λj g=>fP (G j g);unfold wJ at h;split at h;rename_i v Z;unfold Oper.wp;rw[SV.force_eq,dp] at h;have s: ∀j,gt (an hp) j d->(execOp a.eval o).run P w= .ok (.value (v.den j)) w:=λj g=>by rw[u j g];exact pr hE.T Z j w λb blk y=>B.holds j g b blk y
 have z:=s d (gt.refl _ _);rw[z];refine X _ _ _ _ h (iN.put G U B (λi L=>⟨L,rfl⟩) o.dst λj g=> ?_);have:=s j g;rw[z] at this;simpa using this;rename_i ty ro cs tl f Z;unfold Oper.wp;rw[bV,eW,gq,SV.force_eq,dp] at h;obtain⟨val,z,R,a0⟩:=DM hE.T Z d w;have hL: ∀j,gt (an hp) j d->af j cs=af d cs:=λj g=>by obtain⟨a5,x,-⟩:=DM hE.T Z j w;rw[<-u j g] at x;rw[<-u d (gt.refl _ _),x] at z;simp only[Result.ok.injEq] at z;have:=congrArg (λW=>W.heap[w.heap.size]?) z.2;simp only[heap_alloc_new] at this;simpa using this
 have hnew:=B.new (fY hp) R hL;rw[<-u d (gt.refl _ _)] at z;rw[z];refine X _ _ _ _ h (iN.put (ρ1:=ig d (ln hp) (w.heap.size,0)) G U ?_ (λi L=> ?_) o.dst λj g=> ?_);rw[fi];exact hnew;rw[fi];exact n7 (fY hp) i L;refine(a0 j _ ?_).symm;rw[g _ (by rw[Cm];simp)];unfold ig;rw[if_pos rfl];rename_i b cs Z;unfold Oper.wp;rw[bV] at h;obtain⟨blk,J,l,y,R,-,s⟩:=xU hE.T Z;rw[y] at h;simp only[dR,dp] at h;have key: ∀j,gt (an hp) j d->(execOp a.eval o).run P w= .ok .skip (w.setCells (d b).1 J (af j l))/\ ∃t:List Value,ln t=blk.tl/\(w.setCells (d b).1 J (af j l)).heap[(d b).1]? =some (.cells (af j cs++t).toArray blk.ty (0,0)):=λj g=>by have:=s j w (B.holds j g b blk y);rw[g b (by rw[y];rfl),<-u j g] at this;exact this
 obtain⟨z,-⟩:=key d (gt.refl _ _);have a2:=B.put (cs:=cs) (M:=af d l) (off:=J) y R (λj g=>by obtain⟨x,a4⟩:=key j g;rw[z] at x;simp only[Result.ok.injEq,true_and] at x;rw[x];exact a4);rw[z];refine X _ _ _ _ h (iN.put (ρ1:=d) G U ?_ (λi L=> ?_) o.dst λj g=>rfl);rw[dt _ _ _ blk y];exact a2;rw[dt _ _ _ blk y];unfold df;split;exact⟨rfl,rfl⟩;exact⟨L,rfl⟩;split at h;rename_i c hc;split at h;rename_i f m a1;unfold Oper.wp;have k: ∀(A:eK P f) j,gt (an hp) j d->(execOp a.eval o).run P w= .ok (.enter f (m.map (SV.den j)).toArray) w:=λA j g=>by rw[u j g];exact lT hc a1 A j w
 have F: ∀p v,E.D f m (an hp)=some (p,v)->(∀q,p=some q->q)->K (match o.dst with|some t=>V.set t v|none=>V) hp->o.upon P a next Q ((execOp a.eval o).run P w):=λp v hD hp' hK=>by
  obtain⟨A,Y,r⟩:=hE.D f m _ p v hD
  rw[k A d (gt.refl _ _)]
  refine(r hp' d w λb blk y=>B.holds d (gt.refl _ _) b blk y).mono ?_
  rintro e w' ⟨rfl,y⟩
  exact X _ _ _ _ hK (iN.put G U (B.below y) (λi L=>⟨L,rfl⟩) o.dst λj g=>Y _ _ (by
   have x:=k A j g
   rw[k A d (gt.refl _ _)] at x
   simpa using x))
 split at h;rename_i v hD;rw[SV.force_eq,dp] at h;exact F _ _ hD (λq hq=>by cases hq) h;rename_i p v hD;rw[SV.force_eq,dp] at h;exact F _ _ hD (λq hq=>by cases hq;exact h.1) h.2;obtain⟨A,r⟩:=hH f m hp _ h;have I: ∀j,gt (an hp) j d->m.map (SV.den j)=m.map (SV.den d):=λj g=>by have x:=k A j g;rw[k A d (gt.refl _ _)] at x;simpa using x.symm
 rw[k A d (gt.refl _ _)];refine(r N w0 d w B I).mono ?_;rintro e w' ⟨v,hp',ρ1,hK,hh',hs,he⟩;rw[SV.force_eq,dp] at hK;have e0:=he ρ1 (gt.refl _ _);subst e0;exact X _ _ _ _ hK (iN.put G U hh' hs o.dst λj g=>by have:=he j g;simpa using this);exact hE.O o V hp K h ⟨d,B,G,U⟩ X;exact hE.O o V hp K h ⟨d,B,G,U⟩ X
omit hE hH in
def gj {d t x} (h:ij uv d t=x) (hx:x≠uv):d.set t x=d:=by rw[iE] at h;by_cases ht:t<ln d;rw[ae ht] at h;simp only[ef] at h;subst h;exact List.set_getElem_self ht;rw[bi om] at h;exact absurd h.symm hx
omit hE hH in
def gN b:(SV.c (.val (.bool b)))≠uv:=by unfold uv undef;intro h;cases h
omit hE hH in
def p5 {all:Array Oper} {j:Nat} {t:Tmp} (d:lh all j=some t) {a:Act} {f:List SV} {ρ:fF} (h:a.tmps.toList=f.map (SV.den ρ)) {b:Bool} (hb:ij uv f t= .c (.val (.bool b))): yielded all a.tmps j=some b:=by
 unfold lh at d;rw[cD] at d;split at d;rename_i o g;have g:all[j]? =some o:=by simpa using g
 unfold yielded;simp only[g,gW,d]
 have:a.tmps[t]? =some (.bool b):=by
  have e:a.tmps[t]? =a.tmps.toList[t]? :=sp;rw[e,h,gA];rw[iE] at hb
  cases htm:f[t]?with
  |none=>rw[htm] at hb;exact absurd hb.symm (gN b)
  |some x=>rw[htm] at hb;simp only[ef] at hb;subst hb;rfl
 rw[this];cases d
omit hE hH in
def p4 {all:Array Oper} {j:Nat} {t:Tmp} (d:lh all j=some t) {a:Act} {f:List SV} {ρ:fF} (h:a.tmps.toList=f.map (SV.den ρ)) {l:Array Value} (hb:ij uv f t= .c (.val (.tuple l))): yielded all a.tmps j=none:=by
 unfold lh at d;rw[cD] at d;split at d;rename_i o g;have g:all[j]? =some o:=by simpa using g
 unfold yielded;simp only[g,gW,d];have e:a.tmps[t]? =a.tmps.toList[t]? :=sp;rw[e,h,gA];rw[iE] at hb
 cases htm:f[t]?with
 |none=>rfl
 |some x=>rw[htm] at hb;simp only[ef] at hb;subst hb;rfl
 cases d
def ru {N:Nat} {w0:ip} {all:Array Oper} {K:List SV->List aY->Prop} {Q:Exit->Act->World->Prop} (s: ∀tm' hp' a' w',K tm' hp'->iN N w0 tm' hp' a' w'->Q .normal a' w'):
  ∀(os:List Oper) (tm:List SV) (hp:List aY),lV E H all os tm hp K-> ∀a w,iN N w0 tm hp a w->wpList P all Q os a w
 |[],tm,hp,h,a,w,hr=>s _ _ _ _ h hr
 |o::os,tm,hp,h,a,w,hr=>by
  unfold lV at h;unfold wpList;split at h;rename_i x;rw[if_pos (by simp[Region.wanted,x])];exact .inl (kQ hE hH h hr λtm' hp' a' w' y k=>ru s os tm' hp' y a' w' k);rename_i j e x;split at h;rename_i t r;split at h;rename_i b p;(have A:yielded all a.tmps j=some b:=by obtain⟨d,-,f,-⟩:=hr;exact p5 r (f d (gt.refl _ _)) p);(have q:Region.wanted o (yielded all a.tmps)=(b==e):=by unfold Region.wanted;rw[x];simp only[A];cases b<;>cases e<;>rfl)
  have u:wJ E H o tm hp (λtm hp=>lV E H all os tm hp K)->o.wp P a w (wpList P all Q os) Q:=λh=>
   kQ hE hH h hr λtm' hp' a' w' y k=>ru s os tm' hp' y a' w' k
  (have skip:fI o.dst uv tm (λtm=>lV E H all os tm hp K)->wpList P all Q os (a.put o.dst undef) w:=λh=>by rw[dp] at h;obtain⟨d,B,f,z⟩:=hr;exact ru s os _ hp h _ _ (iN.put f z B (λi D=>⟨D,rfl⟩) o.dst λF _=>rfl));split at h;obtain⟨m,g⟩:=jL h;rw[dR] at m g
  cases b with
  |true=>rw[if_pos (by rw[q];rfl)];exact .inl (u (by rw[gj p (gN _)] at m;exact m rfl))
  |false=>rw[if_neg (by rw[q];simp)];exact skip (by rw[gj p (gN _)] at g;exact g rfl)
  obtain⟨m,g⟩:=jL h;rw[dR] at m g
  cases b with
  |true=>rw[if_neg (by rw[q];simp)];exact skip (by rw[gj p (gN _)] at m;exact m rfl)
  |false=>rw[if_pos (by rw[q];rfl)];exact .inl (u (by rw[gj p (gN _)] at g;exact g rfl))
  rename_i l p;(have A:yielded all a.tmps j=none:=by obtain⟨d,-,f,-⟩:=hr;exact p4 r (f d (gt.refl _ _)) p);(have q:Region.wanted o (yielded all a.tmps)=false:=by unfold Region.wanted;rw[x];simp only[A];cases e<;>rfl);rw[if_neg (by rw[q];simp)];rw[dp] at h;obtain⟨d,B,f,z⟩:=hr;exact ru s os _ hp h _ _ (iN.put f z B (λi D=>⟨D,rfl⟩) o.dst λF _=>rfl);cases h;cases h
end
end
section
variable {ops:Array Oper} {ms:List Nat} {i:Nat} {D:Nat->Prop} {al:List (Nat×Nat)} {E:ic} {hp0 hp:List aY} {tm:List SV}
def Ey (ops:Array Oper) (ms:List Nat) (i j:Nat) (a b:Oper):Bool:=
 let bf:=(ij 0 ms j).testBit i
 (match b.dst with|some t=>(!(a.looksAt ops).contains t||bf)&&a.dst !=some t|none=>true)&&
 (match a.dst with|some t=>(!(b.looksAt ops).contains t||bf)|none=>true)&&
 (!gO b.op||bf|| !gO a.op)&&(!gO a.op||(!(gY b.op||gO b.op)||bf&& !gY b.op))
def yc (ops:Array Oper) (ms:List Nat) (i:Nat) (a:Oper):Nat->List Oper->Bool
 |_,[]=>true
 |j,b::bs=>Ey ops ms i j a b&&yc ops ms i a (j+1) bs
def uh (ops:Array Oper) (ms:List Nat):Nat->List Oper->Bool
 |_,[]=>true
 |i,a::l=>yc ops ms i a (i+1) l&&uh ops ms (i+1) l
def rN:Nat->List Oper->Bool
 |_,[]=>true
 |i,o::os=>(o.after.toList.all λe=> !Region.binds .any e||decide (e.on<i))&&rN (i+1) os
def nW (ops:Array Oper):Bool:=rN 0 ops.toList&&uh ops (qU ops.toList []) 0 ops.toList
def u9 {ops ms i a}: ∀{l j},yc ops ms i a j l=true-> ∀k b,l[k]? =some b->Ey ops ms i (j+k) a b=true
 |[],_,_,k,b,hb=>by simp at hb
 |x::l,j,h,k,b,hb=>by
  simp only[yc,aG] at h
  cases k with
  |zero=>simp at hb;subst hb;exact h.1
  |succ k=>have:=u9 h.2 k b (by simpa using hb);rw[show j+1+k=j+(k+1) by omega] at this;exact this
def sE {ops ms}: ∀{l i},uh ops ms i l=true-> ∀k m a b,l[k]? =some a->l[m]? =some b->k<m->Ey ops ms (i+k) (i+m) a b=true
 |[],_,_,k,m,a,b,ha,_,_=>by simp at ha
 |x::l,i,h,k,m,a,b,ha,hb,hkm=>by
  simp only[uh,aG] at h
  cases m with
  |zero=>omega
  |succ m=>
   cases k with
   |zero=>simp at ha;subst ha;have:=u9 h.1 m b (by simpa using hb);rw[show i+1+m=i+(m+1) by omega] at this;exact this
   |succ k=>have:=sE h.2 k m a b (by simpa using ha) (by simpa using hb) om;rw[show i+1+k=i+(k+1) by omega,show i+1+m=i+(m+1) by omega] at this;exact this
def pq: ∀{l i},rN i l=true-> ∀k o,l[k]? =some o-> ∀e∈o.after,Region.binds .any e=true->e.on<i+k
 |[],_,_,k,o,ho,_,_,_=>by simp at ho
 |x::l,i,h,k,o,ho,e,he,hb=>by
  simp only[rN,aG,fE,dY,dE,decide_eq_true_eq] at h
  cases k with
  |zero=>simp at ho;subst ho;rcases h.1 e (by simpa using he) with d|d;rw[hb] at d;cases d;simpa using d
  |succ k=>have:=pq h.2 k o (by simpa using ho) e he hb;omega
def xj {D:Nat->Prop} {d:List Nat} (g: ∀k,D k-> ∀i,(ij 0 d k).testBit i=true->D i): ∀{es:List Edge},(∀e∈es,Region.binds .any e=true->D e.on)-> ∀i,(wa es d).testBit i=true->D i
 |[],_,i,h=>by simp[wa] at h
 |e::es,hes,i,h=>by simp only[wa,Nat.testBit_or,dY] at h;rcases h with h|h;split at h;rename_i m;have f:=hes e sp m;simp only[Nat.testBit_or,dY,Nat.testBit_two_pow,decide_eq_true_eq] at h;rcases h with h|h;exact h▸f;exact g _ f i h;simp at h;exact xj g (λe j=>hes e (by simp[j])) i h
def Tl {e:Type} (d:e) (l:List e) (x:e) (k:Nat):ij d (l++[x]) k=if k=(ln l) then x else ij d l k:=by rw[iE,iE];split;rename_i h;subst h;simp;rename_i h;by_cases hi:k<ln l;rw[dN hi];rw[bi su,bi om]
def xl {D:Nat->Prop}: ∀(l:List Oper) (acc:List Nat),(∀k,D k-> ∀i,(ij 0 acc k).testBit i=true->D i)->
  (∀k o,l[k]? =some o->D (ln acc+k)-> ∀e∈o.after,Region.binds .any e=true->D e.on)-> ∀k,D k-> ∀i,(ij 0 (qU l acc) k).testBit i=true->D i
 |[],_,ih,_,k,d,i,h=>ih k d i h
 |o::l,acc,ih,hc,k,d,i,h=>by refine xl l (acc++[wa o.after.toList acc]) (λk d i h=> ?_) (λk m p f=> ?_) k d i h;rw[Tl] at h;split at h;rename_i e;subst e;exact xj ih (λe g j=>hc 0 o rfl d e (by simpa using g) j) i h;exact ih k d i h;refine hc (k+1) m (by simpa using p) ?_;simp only[aa,qs] at f;rw[show (ln acc)+(k+1)=ln acc+1+k by omega];exact f
structure S where
 al:List (Nat×Nat)
 tm:List SV
 hp:List aY
inductive Ev where
 |skip
 |val (v:SV)
 |new (b:aY) (n:Nat) (v:SV)
 |put (b:Nat) (c:aY)
def Ev.v:Ev->SV
 | .skip=>uv
 | .val v=>v
 | .new _ _ v=>v
 | .put _ _=>uv
def mG (d:Option Tmp) (v:SV) (tm:List SV):List SV:=match d with|some t=>tm.set t v|none=>tm
def yn (all:Array Oper) (o:Oper) (tm:List SV):Prop:=∀j d,o.guard=some (j,d)-> ∃t,lh all j=some t/\ij uv tm t= .c (.val (.bool d))
def Fy (all:Array Oper) (o:Oper) (tm:List SV):Prop:=∃j d,o.guard=some (j,d)/\ ∃t,lh all j=some t/\(ij uv tm t= .c (.val (.bool (!d)))\/ ∃l,ij uv tm t= .c (.val (.tuple l)))
def ug (E:ic) (all:Array Oper) (hp0:List aY) (o:Oper) (i:Nat) (s:S) (e:Ev) (s':S):Prop:=
 s'.tm=mG o.dst e.v s.tm/\
 match e with
 | .skip=>Fy all o s.tm/\s'.hp=s.hp/\s'.al=s.al
 | .val v=>yn all o s.tm/\gO o.op=false/\s'.hp=s.hp/\s'.al=s.al/\(mf E.T o.op (gv s.tm) (Ve (ln hp0) o s.al s.hp)=some (.val v)\/
  (∃c f d p,o.op= .call c/\callee (gv s.tm) c=some (f,d)/\E.D f d (Ve (ln hp0) o s.al s.hp)=some (p,v)/\ ∀q,p=some q->q)\/U8 E.T hp0 o.op (gv s.tm) v\/ ∃c f d,o.op= .call c/\callee (gv s.tm) c=some (f,d)/\E.X f d (Ve (ln hp0) o s.al s.hp) v)
 | .new b n v=>yn all o s.tm/\gO o.op=false/\n=ln s.hp/\s'.hp=s.hp++[b]/\s'.al=(n,i)::s.al/\ ∃f,(mf E.T o.op (gv s.tm) (Ve (ln hp0) o s.al s.hp)=some (.new b f)\/mkE E.T o.op (gv s.tm)=some (.new b f))/\v=f n
 | .put b c=>yn all o s.tm/\gO o.op=true/\s'.hp=s.hp.set b c/\s'.al=s.al/\ ∃blk g,an s.hp b=some blk/\c={ty:=blk.ty,ro:=blk.ro,cs:=g,tl:=blk.tl}/\
  mf E.T o.op (gv s.tm) (an s.hp)=some (.put b g)/\(b<ln hp0\/ ∃j,OF s.al b=some j/\vu o j=true)/\
  ∀j a,all[j]? =some a->j<i->gY a.op=true->(ij 0 (qU all.toList []) i).testBit j=true\/(ln hp0<=b/\ ∃k,OF s.al b=some k/\vu a k=false)
def zn {ms al b n0 i}: ∀{l j},L8 ms al b n0 i j l=true-> ∀m a,l[m]? =some a->j+m<i->gY a.op=true->(ij 0 ms i).testBit (j+m)=true\/(n0<=b/\ ∃k,OF al b=some k/\vu a k=false)
 |[],_,_,m,a,ha,_,_=>by simp at ha
 |x::l,j,h,m,a,ha,hm,hr=>by
  simp only[L8,aG] at h
  cases m with
  |zero=>simp at ha;subst ha;have h:=h.1;simp only[hr,a6B,dY,decide_eq_true_eq,aG] at h;rcases h with((h|h)|h)|⟨e,h2⟩;omega;cases h;exact .inl h;split at h2;rename_i k d;exact .inr ⟨e,k,d,by simpa using h2⟩;cases h2
  |succ m=>have:=zn h.2 m a (by simpa using ha) om hr;rw[show j+1+m=j+(m+1) by omega] at this;exact this
def AL {all o K} (h:CF E all hp0 o i al tm hp K) (z:yn all o tm): ∃e s',ug E all hp0 o i ⟨al,tm,hp⟩ e s'/\K s'.al s'.tm s'.hp:=by
 unfold CF at h
 split at h
 ·rename_i r
  split at h
  ·rename_i b y g
   split at h
   ·rename_i d
    rw[bV] at h
    split at h
    ·rename_i s u F x I
     rw[dR,dp] at h
     refine⟨.put b ⟨s,u,y,x⟩,⟨al,mG o.dst uv tm,hp.set b ⟨s,u,y,x⟩⟩,⟨rfl,z,r,rfl,rfl,⟨s,u,F,x⟩,y,I,rfl,g,?_,λj a H G J=> ?_⟩,h⟩
     rotate_left
     ·have:=zn (aG _ _▸d).2 j a (by simpa using H) om J
      rw[aN] at this
      exact this
     have d:=(aG _ _▸d).1
     unfold G9 at d
     simp only[dY,decide_eq_true_eq] at d
     rcases d with d|d
     ·exact .inl d
     ·split at d
      ·rename_i j G;exact .inr ⟨j,G,d⟩
      ·cases d
    ·cases h
   ·cases h
  ·cases h
 ·rename_i r
  split at h
  ·rename_i v g
   rw[SV.force_eq,dp] at h
   exact⟨.val v,⟨al,mG o.dst v tm,hp⟩,⟨rfl,z,r,rfl,rfl,.inl g⟩,h⟩
  ·rename_i s u y x f g
   rw[bV,eW,gq,SV.force_eq,dp] at h
   exact⟨.new ⟨s,u,y,x⟩ (ln hp) (f (ln hp)),⟨(ln hp,i)::al,mG o.dst (f (ln hp)) tm,hp++[(⟨s,u,y,x⟩:aY)]⟩,⟨rfl,z,r,rfl,rfl,rfl,f,.inl g,rfl⟩,h⟩
  ·cases h
  ·split at h
   ·rename_i c d
    split at h
    ·rename_i f k m
     split at h
     ·rename_i v B
      rw[SV.force_eq,dp] at h
      exact⟨.val v,⟨al,mG o.dst v tm,hp⟩,⟨rfl,z,r,rfl,rfl,.inr (.inl ⟨c,f,k,none,d,m,B,λq A=>by cases A⟩)⟩,h⟩
     ·rename_i p v B
      rw[SV.force_eq,dp] at h
      exact⟨.val v,⟨al,mG o.dst v tm,hp⟩,⟨rfl,z,r,rfl,rfl,.inr (.inl ⟨c,f,k,some p,d,m,B,λq A=>by cases A;exact h.1⟩)⟩,h.2⟩
     ·obtain⟨v,g,h⟩:=h
      rw[SV.force_eq,dp] at h
      exact⟨.val v,⟨al,mG o.dst v tm,hp⟩,⟨rfl,z,r,rfl,rfl,.inr (.inr (.inr ⟨c,f,k,d,m,g⟩))⟩,h⟩
    ·cases h
   ·split at h
    ·rename_i s u y x f g
     rw[bV,eW,gq,SV.force_eq,dp] at h
     exact⟨.new ⟨s,u,y,x⟩ (ln hp) (f (ln hp)),⟨(ln hp,i)::al,mG o.dst (f (ln hp)) tm,hp++[(⟨s,u,y,x⟩:aY)]⟩,⟨rfl,z,r,rfl,rfl,rfl,f,.inr g,rfl⟩,h⟩
    ·cases h
   ·obtain⟨v,g,h⟩:=h
    rw[SV.force_eq,dp] at h
    exact⟨.val v,⟨al,mG o.dst v tm,hp⟩,⟨rfl,z,r,rfl,rfl,.inr (.inr (.inl g))⟩,h⟩
def Ph {all o os K} (h:sB E all hp0 (o::os) i al tm hp K): ∃e s',ug E all hp0 o i ⟨al,tm,hp⟩ e s'/\sB E all hp0 os (i+1) s'.al s'.tm s'.hp K:=by
 unfold sB at h;split at h;rename_i p;exact AL h λj d r=>by rw[p] at r;cases r
 rename_i j d p;split at h;rename_i t k;split at h;rename_i b f
 have q:b=d->CF E all hp0 o i al tm hp (λal tm hp=>sB E all hp0 os (i+1) al tm hp K)-> ∃e s',ug E all hp0 o i ⟨al,tm,hp⟩ e s'/\sB E all hp0 os (i+1) s'.al s'.tm s'.hp K:=λe h=>
  AL h λu s r=>by rw[p] at r;cases r;exact⟨t,k,by rw[f,e]⟩
 have skip:b=(!d)->fI o.dst uv tm (λtm=>sB E all hp0 os (i+1) al tm hp K)-> ∃e s',ug E all hp0 o i ⟨al,tm,hp⟩ e s'/\sB E all hp0 os (i+1) s'.al s'.tm s'.hp K:=λe h=>by rw[dp] at h;exact⟨.skip,⟨al,mG o.dst uv tm,hp⟩,⟨rfl,⟨j,d,p,t,k,.inl (by rw[f,e])⟩,rfl,rfl⟩,h⟩
 split at h;obtain⟨m,g⟩:=jL h;rw[dR] at m g
 cases b with
 |true=>exact q rfl (by rw[gj f (gN _)] at m;exact m rfl)
 |false=>exact skip rfl (by rw[gj f (gN _)] at g;exact g rfl)
 obtain⟨m,g⟩:=jL h;rw[dR] at m g
 cases b with
 |true=>exact skip rfl (by rw[gj f (gN _)] at m;exact m rfl)
 |false=>exact q rfl (by rw[gj f (gN _)] at g;exact g rfl)
 rename_i l f;rw[dp] at h;exact⟨.skip,⟨al,mG o.dst uv tm,hp⟩,⟨rfl,⟨j,d,p,t,k,.inr ⟨l,f⟩⟩,rfl,rfl⟩,h⟩;cases h;cases h
def AM {E all hp0 K}: ∀(os:List Oper) (i:Nat) (s:S),sB E all hp0 os i s.al s.tm s.hp K->
  ∃(f:Nat->S) (ev:Nat->Ev),f 0=s/\(∀k o,os[k]? =some o->ug E all hp0 o (i+k) (f k) (ev k) (f (k+1)))/\K (f (ln os)).tm (f (ln os)).hp
 |[],i,s,h=>⟨λ_=>s,λ_=> .skip,rfl,λk o d=>by simp at d,h⟩
 |o::os,i,s,h=>by
  obtain⟨e,j,g,m⟩:=Ph h;obtain⟨f,ev,u,p,r⟩:=AM os (i+1) j m;refine⟨λk=>match k with|0=>s|k+1=>f k,λk=>match k with|0=>e|k+1=>ev k,rfl,λk q d=> ?_,r⟩
  cases k with
  |zero=>simp at d;subst d;show ug E all hp0 o (i+0) s e (f 0);rw[u];exact g
  |succ k=>have:=p k q (by simpa using d);rw[show i+1+k=i+(k+1) by omega] at this;exact this
end
section
def Ev.key:Ev->Option (Nat×aY)
 | .new b n _=>some (n,b)
 | .put b c=>some (b,c)
 |_=>none
def C8 (e:Ev) (h:Nat->Option aY):Nat->Option aY:=match e.key with|some p=>df h p.1 p.2|none=>h
def qF (ops:Array Oper) (k:Nat):Option Tmp:=(ops[k]?).bind (·.dst)
open Classical in
noncomputable def tY (ops:Array Oper) (ev:Nat->Ev) (tm0:List SV) (D:Nat->Prop):Nat->List SV
 |0=>tm0
 |k+1=>if D k then mG (qF ops k) (ev k).v (tY ops ev tm0 D k) else tY ops ev tm0 D k
open Classical in
noncomputable def nn (ev:Nat->Ev) (h0:Nat->Option aY) (D:Nat->Prop):Nat->Nat->Option aY
 |0=>h0
 |k+1=>if D k then C8 (ev k) (nn ev h0 D k) else nn ev h0 D k
section
variable {ops:Array Oper} {ev:Nat->Ev} {tm0:List SV} {h0:Nat->Option aY}
def Gd d v l:(mG d v l).length=ln l:=by cases d<;>simp[mG]
def AD D: ∀k,(tY ops ev tm0 D k).length=ln tm0
 |0=>rfl
 |k+1=>by unfold tY;split<;>simp[Gd,AD D k]
def Mk {f:Type} d (l:List f) t u v:ij d (l.set t v) u=if t=u/\t<(ln l) then v else ij d l u:=by rw[iE,iE];by_cases h:t=u;subst h;by_cases ht:t<ln l;rw[if_pos ⟨rfl,ht⟩,pj ht];rfl;rw[if_neg (λh=>ht h.2),a6K om];rw[if_neg (λe=>h e.1),eF h]
def AF {D D2} (t:Nat): ∀k,(∀j,j<k->qF ops j=some t->(D j↔D2 j))->ij uv (tY ops ev tm0 D k) t=ij uv (tY ops ev tm0 D2 k) t
 |0,_=>rfl
 |k+1,h=>by
  have d:=AF t k (λj g=>h j om);have f:=h k om;unfold tY
  cases hd:qF ops k with
  |none=>simp only[mG,ite_self];exact d
  |some u=>by_cases hu:u=t;subst hu;have:=f hd;by_cases h1:D k;rw[if_pos h1,if_pos (this.1 h1)];simp only[mG,Mk,AD];split;rfl;exact d;rw[if_neg h1,if_neg (λh=>h1 (this.2 h))];exact d;(have e: ∀D:Nat->Prop,ij uv (mG (some u) (ev k).v (tY ops ev tm0 D k)) t=ij uv (tY ops ev tm0 D k) t:=λD=>by simp only[mG,Mk];rw[if_neg (λh=>hu h.1)]);split<;>split<;>(try simp only[e])<;>exact d
def m6 {D D2} b: ∀k,(∀j p,j<k->(ev j).key=some p->p.1=b->(D j↔D2 j))->nn ev h0 D k b=nn ev h0 D2 k b
 |0,_=>rfl
 |k+1,h=>by
  have d:=m6 b k (λj p g=>h j p om);have f:=λp=>h k p om;unfold nn C8
  cases hd:(ev k).key with
  |none=>simp only[ite_self];exact d
  |some p=>by_cases hu:p.1=b;have:=f p hd hu;by_cases h1:D k;rw[if_pos h1,if_pos (this.1 h1)];simp[df,hu];rw[if_neg h1,if_neg (λh=>h1 (this.2 h))];exact d;(have e: ∀D:Nat->Prop,df (nn ev h0 D k) p.1 p.2 b=nn ev h0 D k b:=λD=>by unfold df;rw[if_neg (λh=>hu h.symm)]);by_cases h1:D k<;>by_cases h2:D2 k<;>simp only[h1,h2,if_true,if_false,e]<;>exact d
def Oe {d e u v l} (h: ∀t,d=some t->e≠some t):mG d u (mG e v l)=mG e v (mG d u l):=by
 cases d with
 |none=>rfl
 |some t=>
  cases e with
  |none=>rfl
  |some s=>have:t≠s:=λe=>h t rfl (e▸rfl);exact List.set_comm _ _ (λe=>this e.symm)
def Kx {D i} (hi: ¬D i): ∀k,i<k->(∀j,i<j->j<k->D j-> ∀t,qF ops j=some t->qF ops i≠some t)-> tY ops ev tm0 (λj=>D j\/j=i) k=mG (qF ops i) (ev i).v (tY ops ev tm0 D k):=by
 intro k
 induction k with
 |zero=>intro h;omega
 |succ k ih=>
  intro p o
  have low: ∀m,m<=i->tY ops ev tm0 (λj=>D j\/j=i) m=tY ops ev tm0 D m:=by
   intro m
   induction m with
   |zero=>intro _;rfl
   |succ m ihm=>intro s;unfold tY;rw[ihm om];by_cases d:D m;rw[if_pos (Or.inl d),if_pos d];rw[if_neg (λh=>h.elim d (λe=>by omega)),if_neg d]
  rcases cj i k with f|q;have g:=ih f (λj d r=>o j d om);unfold tY;rw[g];by_cases d:D k;rw[if_pos (Or.inl d),if_pos d,Oe (o k f om d)];rw[if_neg (λh=>h.elim d (λe=>by omega)),if_neg d];have:k=i:=om;subst this;unfold tY;rw[if_pos (Or.inr rfl),if_neg hi,low k (ai _)]
def NC {e d h} (f: ∀p q,e.key=some p->d.key=some q->p.1≠q.1):C8 e (C8 d h)=C8 d (C8 e h):=by
 unfold C8
 cases he:e.key with
 |none=>cases hd:d.key<;>rfl
 |some p=>
  cases hd:d.key with
  |none=>rfl
  |some q=>have:=f p q he hd;funext x;simp only[df];by_cases h1:x=p.1;subst h1;simp[this];simp[h1]
def tw {D i} (hi: ¬D i): ∀k,i<k->(∀j,i<j->j<k->D j-> ∀p q,(ev j).key=some p->(ev i).key=some q->p.1≠q.1)-> nn ev h0 (λj=>D j\/j=i) k=C8 (ev i) (nn ev h0 D k):=by
 intro k
 induction k with
 |zero=>intro h;omega
 |succ k ih=>
  intro r o
  have low: ∀m,m<=i->nn ev h0 (λj=>D j\/j=i) m=nn ev h0 D m:=by
   intro m
   induction m with
   |zero=>intro _;rfl
   |succ m ihm=>intro x;unfold nn;rw[ihm om];by_cases d:D m;rw[if_pos (Or.inl d),if_pos d];rw[if_neg (λh=>h.elim d (λe=>by omega)),if_neg d]
  rcases cj i k with f|s;have g:=ih f (λj d u=>o j d om);unfold nn;rw[g];by_cases d:D k;rw[if_pos (Or.inl d),if_pos d,NC (o k f om d)];rw[if_neg (λh=>h.elim d (λe=>by omega)),if_neg d];have:k=i:=om;subst this;unfold nn;rw[if_pos (Or.inr rfl),if_neg hi,low k (ai _)]
def AE {D i}: ∀k,i<=k->(∀j,i<=j-> ¬D j)->tY ops ev tm0 D k=tY ops ev tm0 D i
 |0,h,_=>by have:i=0:=om;subst this;rfl
 |k+1,h,hD=>by rcases cj i (k+1) with d|d;rw[tY,if_neg (hD k om)];exact AE k om hD;have:i=k+1:=om;subst this;rfl
end
def bf (ops:Array Oper) (j i:Nat):Prop:=(ij 0 (qU ops.toList []) j).testBit i=true
def kw (ops:Array Oper) (D:Nat->Prop):Prop:= ∀k o,ops[k]? =some o->D k-> ∀e∈o.after,Region.binds .any e=true->D e.on
def kw.bf {ops D} (h:kw ops D) {j i} (hj:D j) (hb:bf ops j i):D i:=xl (D:=D) ops.toList [] (λk _ i h=>by simp[ij] at h) (λk o g f e d hb=>h k o (by simpa using g) (by simpa using f) e d hb) j hj i hb
def kw.ready {ops D} (h:kw ops D) {i o} (ho:ops[i]? =some o) (p: ∀e∈o.after,Region.binds .any e=true->D e.on):kw ops (λj=>D j\/j=i):=by intro k q d f e g m;rcases f with f|rfl;exact .inl (h k q d f e g m);rw[ho] at d;cases d;exact .inl (p e g m)
section
variable {ops:Array Oper} (hok:nW ops=true)
include hok
def yV {k o} (ho:ops[k]? =some o) {e} (d:e∈o.after) (hb:Region.binds .any e=true):e.on<k:=by unfold nW at hok;rw[aG] at hok;have:=pq hok.1 k o (by simpa using ho) e d hb;omega
def ke {i j} (e:i<j) {a b} (r:ops[i]? =some a) (hb:ops[j]? =some b): (∀t,b.dst=some t->(t∈a.looksAt ops->bf ops j i)/\a.dst≠some t)/\(∀t,a.dst=some t->t∈b.looksAt ops->bf ops j i)/\ (gO b.op=true->gO a.op=true->bf ops j i)/\(gO a.op=true->gY b.op=true->False):=by unfold nW at hok;rw[aG] at hok;have h:=sE hok.2 i j a b (by simpa using r) (by simpa using hb) e;rw[aN,aN] at h;unfold Ey at h;simp only[aG] at h;obtain⟨⟨⟨d,g⟩,m⟩,q⟩:=h;refine⟨λt f=> ?_,λt f o=> ?_,λk p=> ?_,λk p=> ?_⟩;rw[f] at d;simp only[aG,dY,dE,bne_iff_ne,ne_eq] at d;refine⟨λo=> ?_,d.2⟩;rcases d.1 with h|h;rw[qr.2 o] at h;cases h;exact h;rw[f] at g;simp only[dY,dE] at g;rcases g with h|h;rw[qr.2 o] at h;cases h;exact h;rw[k,p] at m;simp only[a6B,Bool.false_or,Bool.or_false] at m;exact m;rw[k,p] at q;simp at q
end
end
section
def yD {x v ρ} (hx:x.cells ρ=[v]): ∀n,af ρ (au n x)=au n v
 |0=>rfl
 |n+1=>by show af ρ (x::au n x)=_;rw[cO,hx,yD hx n];rfl
def GV z n:madeCells #[z] n=(au n z).toArray:=by apply Array.ext;rw[size_madeCells];simp;intro i e d;have:i % 1=0:=Nat.mod_one i;simp[madeCells,this]
section
variable {P:Program} {T:TypeId->Option TI} (hT:Fw P T)
include hT
def XF {o ev b f} (h:mkE T o.op ev=some (.new b f)) ρ w: ∃val,(execOp (gI ev ρ) o).run P w= .ok (.value val) (w.alloc (.cells (af ρ b.cs).toArray b.ty))/\(b.ro=false/\b.tl=0)/\ ∀ρ' (n:Nat),ρ' n=(w.heap.size,0)->(f n).den ρ'=val:=by
 obtain⟨V,op,ty,pos,u,E⟩:=o;simp only at h;unfold mkE at h;split at h;rename_i t l c;split at h;rename_i sz Z z e g x eq a ha b2 hb s N I;split at h;rename_i X;obtain⟨⟨Y,hm⟩,rfl,W⟩:=id X;obtain⟨n,rfl⟩: ∃n:Nat,a=n:=⟨a.toNat,om⟩;cases h;obtain⟨U,B,j,h0,p,H⟩:=ia hT s;obtain⟨i,j⟩:=aK.1 j;have d:=(H ρ).1
 cases hz0:i.zero with
 |none=>simp[j,hz0] at d
 |some v=>
  simp only[j,gW,hz0,dA,bL.injEq] at d;(have G:i.size=g:=by simpa[Program.cellsOf,j] using B);(have y:(x.cells ρ).length=1:=by rw[<-W];exact C.cells_length ρ x)
  obtain⟨r,hv0⟩: ∃r,x.cells ρ=[r]:=by
   match I:x.cells ρ,y with
   |[v],_=>exact⟨v,rfl⟩
  (have F:v.cells= #[r]:=by rw[d,cO,hv0];rfl);(have m:i.size=1:=by have:=(H ρ).2;rw[cO,hv0] at this;rw[G];simpa[af] using this.symm);(have q:i.bytes<=24*g:=by rw[j] at p;have A:=LH [x];(have L:i.bytes<=y8 [x]*g:=by simpa using p);exact aC L (gV _ A));(have D:(i.bytes:Int)*(n:Int)<=281474976710656:=by (have A:i.bytes<=24:=by rw[<-G,m] at q;omega);have:=gd A (show n<=1000000 by omega);have:((i.bytes*n:Nat):Int)<=281474976710656:=om;rwa[Int.natCast_mul] at this);have J:=run_make (P:=P) w t e i v U j hz0 .i64 .i64 n n om (sT _) D om;simp only[bW,m,gE,F] at J;refine⟨.slice (some ⟨w.heap.size,0,none⟩) n n,?_,⟨rfl,rfl⟩,λρ' k R=>by simp[SV.den,C.den,C.cells,jK,R]⟩;(have M:gI ev ρ l= .int .i64 n:=by show(ev l).den ρ=_;rw[N];rfl);(have O:gI ev ρ c= .int .i64 n:=by show(ev c).den ρ=_;rw[I];rfl);(have Q:(af ρ (au (n:Int).toNat x)).toArray=madeCells #[r] n:=by rw[bW,yD hv0,GV]);simp only[execOp,aX,M,O,J,aB,bc,Q]
 cases h;cases h;cases h
def Gg {o ev hp b f} (h:mf T o.op ev hp=some (.new b f)\/mkE T o.op ev=some (.new b f)) ρ w:
  ∃val,(execOp (gI ev ρ) o).run P w= .ok (.value val) (w.alloc (.cells (af ρ b.cs).toArray b.ty))/\(b.ro=false/\b.tl=0)/\ ∀ρ' n,ρ' n=(w.heap.size,0)->(f n).den ρ'=val:=
 h.elim (λh=>DM hT h ρ w) (λh=>XF hT h ρ w)
end
end
section
def Oi {T d} (h1:gY d=false) (h2:gO d=false) ev hp e:mf T d ev hp=mf T d ev e:=by cases d<;>first|rfl|(simp[gY] at h1;done)|(simp[gO] at h2;done)
def uO {ev h0 D i}: ∀k,i<=k->(∀j,i<=j-> ¬D j)->nn ev h0 D k=nn ev h0 D i
 |0,h,_=>by have:i=0:=om;subst this;rfl
 |k+1,h,hD=>by rcases cj i (k+1) with d|d;rw[nn,if_neg (hD k om)];exact uO k om hD;have:i=k+1:=om;subst this;rfl
def uN {ev h0} k:nn ev h0 (λ_=>False) k=h0:=uO k (ah _) (λ_ _ h=>h)
def WR {P T} (hT:Fw P T) {s o G v} (h:U8 T s o.op (gv G) v) {N w} (y: ∀fb b o l e,an s fb=some b->b.famOf=some (o,l)->e∈l->iV N w o e) ρ:(execOp (gI (gv G) ρ) o).run P w= .ok (.value (v.den ρ)) w:=by
 unfold U8 at h;split at h;rename_i t x i g;split at h;rename_i sz W z e I ez eq f;obtain⟨r,d,len,u,j,A,q,H,rfl⟩:=h;obtain⟨E,J,k,-⟩:=ia hT f;obtain⟨Y,k⟩:=aK.1 k;have M:=run_sizeOf w k;have p:(SV.c (C.val (.slice (some ⟨r,d,none⟩) len u))).den ρ= .slice (some ⟨r,d,none⟩) len u:=rfl;have R:(0:Int)<=(j:Int)/\(j:Int)<(len:Int):=⟨om,om⟩;simp only[execOp,g,gI,A,kH q ρ,p,Instr.indexAt,asIntOf,aX,bc,aB,run_underlying E w]
 iterate 2
  try
   rename_i sz W z n I eg eq f
   obtain⟨r,d,j,A,q,H,rfl⟩:=h
   obtain⟨e,E,J,hr,-⟩:=ia hT f
   obtain⟨Y,k⟩:=fw hr
   have M:=run_sizeOf w k
   have p:(SV.c (C.val (.pointer (some ⟨r,d,none⟩)))).den ρ= .pointer (some ⟨r,d,none⟩):=rfl
   have R:(0:Int)<=(j:Int)/\(j:Int)<(n:Int):=⟨om,om⟩
   simp only[execOp,g,gI,A,kH q ρ,p,Instr.indexAt,asIntOf,aX,bc,aB,run_underlying E w,Instr.sureAddr]
  rw[if_pos R]
  simp only[aX,M,aB,bc,Addr.add_mid,bW,J]
  simp[SV.den,C.den,C.cells]
 exact h.elim;rename_i t x g;split at h;rename_i ti f;obtain⟨r,B,d,fb,b,o',l,cs,A,⟨h1,U,⟨⟨r',o2⟩,m,X,a0⟩,h3,O,L⟩,Z,D⟩:=h;simp only at O L;cases O;subst L;have Q:=y fb b o' l _ h1 U h3;have F:af (λ_=>(r,B)) m=af (λ_=>(0,0)) m:=Q.pure _ _;have V:execOp (gI (gv G) ρ) o=execOp (gI (λ_=> .c (.ptr 0 d)) (λ_=>(r,B))) o:=by simp only[execOp,g,gI,A];rfl
 rw[V,D ρ (λ_=>(r,B))];refine pr hT (hp:=λi=>if i=0 then some ⟨.t 0,true,m,0⟩ else none) ?_ _ w λi c q=> ?_;rw[g];simp only[mf,if_true,f,Z];split at q;cases q;exact⟨by rw[F];exact Q.holds,λh=>by cases h⟩;cases q;exact h.elim;exact h.elim
def LL {b:aY} {o:Bool} {l:List mq} (h:b.famOf=some (o,l)):b.ro=true:=by unfold aY.famOf GC at h;split at h<;>first|assumption|(cases h;done)|rfl|simp_all
section
variable {P:Program} {E:ic} (hE:iU P E) {ops:Array Oper} (hok:nW ops=true) {hp0:List aY} {tm0:List SV} {f:Nat->S} {ev:Nat->Ev}
 (hf0:f 0=⟨[],tm0,hp0⟩) (hs: ∀k o,ops[k]? =some o->ug E ops hp0 o k (f k) (ev k) (f (k+1)))
include hf0 hs
def UM: ∀i,i<=ops.size->(f i).tm=tY ops ev tm0 (λ_=>True) i
 |0,_=>by rw[hf0];rfl
 |i+1,h=>by have d:ops[i]? =some ops[i]:=aM om;have:=(hs i _ d).1;rw[this,UM i om,tY,if_pos trivial];simp[qF,d]
def Nf: ∀i,i<=ops.size->an (f i).hp=nn ev (an hp0) (λ_=>True) i
 |0,_=>by rw[hf0];rfl
 |i+1,h=>by
  have k:ops[i]? =some ops[i]:=aM om;have j:=Nf i om;obtain⟨-,d⟩:=hs i _ k;rw[nn,if_pos trivial,<-j]
  cases hev:ev i with
  |skip=>rw[hev] at d;rw[d.2.1];rfl
  |val v=>rw[hev] at d;rw[d.2.2.1];rfl
  |new b n v=>rw[hev] at d;obtain⟨-,-,rfl,e,-⟩:=d;rw[e,fi];rfl
  |put b c=>rw[hev] at d;obtain⟨-,-,e,-,blk,m,g,-⟩:=d;rw[e,dt _ _ _ _ g];rfl
def pY {i}: ∀j,i<=j->j<=ops.size->(f i).hp.length<=(f j).hp.length
 |0,h,_=>by have _:=hf0;have:i=0:=om;subst this;exact ai _
 |j+1,h,hj=>by
  rcases cj i (j+1) with k|k;have e:=pY (i:=i) j om om;have g:ops[j]? =some ops[j]:=aM om;obtain⟨-,d⟩:=hs j _ g
  cases hev:ev j with
  |skip=>rw[hev] at d;rw[d.2.1];exact e
  |val v=>rw[hev] at d;rw[d.2.2.1];exact e
  |new b n v=>rw[hev] at d;rw[d.2.2.2.1];simp;omega
  |put b c=>rw[hev] at d;rw[d.2.2.1];simpa using e
  have:i=j+1:=om;subst this;exact ai _
def yi {j} (hj:j<=ops.size):ln hp0<=(f j).hp.length:=by have:=pY hf0 hs j (ah _) hj;rw[hf0] at this;exact this
def t3 {k} (hk:k<ops.size) {b n v} (h:ev k= .new b n v):n=(f k).hp.length/\(f (k+1)).hp.length=n+1:=by have _:=hf0;obtain⟨-,d⟩:=hs k _ (aM hk);rw[h] at d;exact⟨d.2.2.1,by rw[d.2.2.2.1,d.2.2.1];simp⟩
def AG {k} (hk:k<ops.size) {b c} (h:ev k= .put b c):b<(f k).hp.length/\gO (ops[k]).op=true:=by have _:=hf0;obtain⟨-,e⟩:=hs k _ (aM hk);rw[h] at e;obtain⟨-,g,-,-,blk,i,d,-⟩:=e;rw[cD] at d;exact⟨(aw.1 d).1,g⟩
def Cz {i b x} (hb:b<(f i).hp.length) (h:OF (f i).al b=some x): ∀j,i<=j->j<=ops.size->OF (f j).al b=some x
 |0,h1,_=>by have:i=0:=om;subst this;exact h
 |j+1,h1,hj=>by
  have k:ops[j]? =some ops[j]:=aM om;obtain⟨-,d⟩:=hs j _ k;rcases cj i (j+1) with g|g;have e:=Cz hb h j om om
  cases hev:ev j with
  |skip=>rw[hev] at d;rw[d.2.2];exact e
  |val v=>rw[hev] at d;rw[d.2.2.2.1];exact e
  |new b' n' v'=>rw[hev] at d;rw[d.2.2.2.2.1,OF,if_neg];exact e;have m:=pY hf0 hs (i:=i) j om om;have o:=d.2.2.1;omega
  |put b' c'=>rw[hev] at d;rw[d.2.2.2.1];exact e
  have:i=j+1:=om;subst this;exact h
def YL {k} (hk:k<ops.size) {b c} (h:ev k= .put b c): ∀j a,ops[j]? =some a->j<k->gY a.op=true->bf ops k j\/(ln hp0<=b/\ ∃x,OF (f k).al b=some x/\vu a x=false):=by have _:=hf0;obtain⟨-,d⟩:=hs k _ (aM hk);rw[h] at d;obtain⟨-,-,-,-,blk,g,-,-,-,-,e⟩:=d;exact e
def Nd {k b n v} (h:ev k= .new b n v): ∀j,k<j->j<=ops.size->OF (f j).al n=some k
 |0,h1,_=>by omega
 |j+1,h1,hj=>by
  have m:ops[j]? =some ops[j]:=aM om;obtain⟨-,d⟩:=hs j _ m;rcases cj k j with e|e;have g:=Nd h j e om
  cases hev:ev j with
  |skip=>rw[hev] at d;rw[d.2.2];exact g
  |val v=>rw[hev] at d;rw[d.2.2.2.1];exact g
  |new b' n' v'=>rw[hev] at d;rw[d.2.2.2.2.1,OF,if_neg];exact g;have q:=(t3 hf0 hs (k:=k) om h).2;have o:=pY hf0 hs (i:=k+1) j om om;have p:=d.2.2.1;omega
  |put b' c'=>rw[hev] at d;rw[d.2.2.2.1];exact g
  have:k=j:=om;subst this;rw[h] at d;rw[d.2.2.2.2.1,OF,if_pos rfl]
include hE in
def UL {fb:Nat} {b:aY} {o:Bool} {l:List mq} (hb:an hp0 fb=some b) (hl:b.famOf=some (o,l)): ∀j,j<=ops.size->an (f j).hp fb=some b
 |0,_=>by rw[hf0];exact hb
 |j+1,hj=>by
  have g:=UL hb hl j om;have s:ops[j]? =some ops[j]:=aM om;obtain⟨-,d⟩:=hs j _ s
  cases hev:ev j with
  |skip=>rw[hev] at d;rw[d.2.1];exact g
  |val v=>rw[hev] at d;rw[d.2.2.1];exact g
  |new b' n' v'=>rw[hev] at d;rw[d.2.2.2.1,fi];unfold df;split;rename_i e;subst e;rw[fY] at g;cases g;exact g
  |put b' c'=>rw[hev] at d;obtain⟨-,-,r,-,blk,u,m,-,p,-⟩:=d;rw[r,dt _ _ _ _ m];unfold df;split;rename_i e;subst e;obtain⟨k,q,x,i,h,-,-⟩:=xU hE.T p;rw[g] at i;cases i;rw[LL hl] at h;cases h;exact g
include hE in
def YK {D:Nat->Prop} {fb:Nat} {b:aY} {o:Bool} {l:List mq} (hb:an hp0 fb=some b) (hl:b.famOf=some (o,l)):nn ev (an hp0) D ops.size fb=some b:=by
 rw[m6 (D2:=λ_=>False) fb ops.size (λj p s d h=>⟨λ_=> ?_,False.elim⟩),uN];exact hb;have i:=UL hE hf0 hs hb hl j om;have q:ops[j]? =some ops[j]:=aM s;obtain⟨-,g⟩:=hs j _ q
 cases hej:ev j with
 |skip=>rw[hej] at d;cases d
 |val v=>rw[hej] at d;cases d
 |new b' n' v'=>rw[hej] at d g;cases d;simp only at h;subst h;rw[g.2.2.1,fY] at i;cases i
 |put b' c'=>rw[hej] at d g;cases d;simp only at h;subst h;obtain⟨-,-,z,-,blk,y,x,-,m,-⟩:=g;obtain⟨k,r,u,f,e,-,-⟩:=xU hE.T m;rw[i] at f;cases f;rw[LL hl] at e;cases e
def Vk (N:Nat) (w0:ip) (ops:Array Oper) (ev:Nat->Ev) (tm0:List SV) (d:List aY) (D:Nat->Prop) (a:Act) (w:World):Prop:=∃e,dv N w0 (nn ev (an d) D ops.size) e w/\(∀f,gt (nn ev (an d) D ops.size) f e->a.tmps.toList=(tY ops ev tm0 D ops.size).map (SV.den f))/\KO N w0 a.defers
include hok
def Ed {D} (p:kw ops D) {i} {o:Oper} (ho:ops[i]? =some o) (hi: ¬D i) (r: ∀e∈o.after,Region.binds .any e=true->D e.on) {t} (m:t∈o.looksAt ops): ij uv (tY ops ev tm0 D ops.size) t=ij uv (f i).tm t:=by have q:i<ops.size:=(aE.1 ho).1;rw[UM hf0 hs i om];rw[AF (D2:=λj=>j<i) t ops.size (λj k d=> ?_),AE (i:=i) ops.size om (λj u s=>by omega),AF (D2:=λ_=>True) t i (λj k _=>⟨λ_=>trivial,λ_=>k⟩)];unfold qF at d;have g:ops[j]? =some ops[j]:=aM k;rw[g] at d;simp only[gW] at d;rcases iu j i with h|h|h;have:=(ke hok h g ho).2.1 t d m;have:=(p.ready ho r).bf (.inr rfl) this;exact⟨λ_=>h,λ_=>this.resolve_right om⟩;subst h;exact⟨λh=>absurd h hi,λh=>by omega⟩;have:=((ke hok h ho g).1 t d).1 m;exact⟨λd=>absurd (p.bf d this) hi,λh=>by omega⟩
def mI {D:Nat->Prop} (k:kw ops D) {i:Nat} {o:Oper} (ho:ops[i]? =some o) (hi: ¬D i) (h: ∀e∈o.after,Region.binds .any e=true->D e.on) (hsel: ∀cs b,o.op≠ .select cs b) {a:Act} {ρ:fF} (d:a.tmps.toList=(tY ops ev tm0 D ops.size).map (SV.den ρ)):execOp a.eval o=execOp (gI (gv (f i).tm) ρ) o:=by
 rw[fP d];refine execOp_congr o hsel λx j=> ?_
 cases x with
 |tmp t=>simp only[gI,gv];rw[Ed hok hf0 hs k ho hi h (t:=t) (gc _ (List.mem_filterMap.2 ⟨.tmp t,by simpa using j,rfl⟩))]
 |const v=>rfl
 |global g=>rfl
 |func f=>rfl
def Pk {D:Nat->Prop} (x:kw ops D) {i:Nat} {o:Oper} (ho:ops[i]? =some o) (hi: ¬D i) (y: ∀e∈o.after,Region.binds .any e=true->D e.on) {a:Act} {ρ:fF} (u:a.tmps.toList=(tY ops ev tm0 D ops.size).map (SV.den ρ)):(yn ops o (f i).tm->Region.wanted o (yielded ops a.tmps)=true)/\(Fy ops o (f i).tm->Region.wanted o (yielded ops a.tmps)=false):=by
 have q: ∀j d t,o.guard=some (j,d)->lh ops j=some t->t∈o.looksAt ops:=λj d t k g=>by
  unfold Oper.looksAt;refine gG _ ?_;rw[k];unfold lh at g;rw[cD] at g
  have:(ops[j]?).bind (·.dst)=some t:=by
   have e:ops[j]? =ops.toList[j]? :=sp;rw[e]
   cases h:ops.toList[j]?with
   |none=>rw[h] at g;cases g
   |some oj=>rw[h] at g;exact g
  simp[this]
 have key: ∀j d t b,o.guard=some (j,d)->lh ops j=some t->ij uv (f i).tm t= .c (.val (.bool b))->Region.wanted o (yielded ops a.tmps)=(b==d):=λj d t b k g m=>by have s:=(Ed hok hf0 hs x ho hi y (q j d t k g)).trans m;have r:=p5 g u s;unfold Region.wanted;rw[k];simp only[r];cases b<;>cases d<;>rfl
 refine⟨λz=> ?_,λ⟨j,d,k,t,g,m⟩=> ?_⟩
 cases k:o.guard with
 |none=>simp[Region.wanted,k]
 |some p=>obtain⟨j,d⟩:=p;obtain⟨t,g,m⟩:=z j d k;rw[key j d t d k g m];simp
 rcases m with m|⟨l,m⟩;rw[key j d t _ k g m];cases d<;>rfl;have r:=p4 g u ((Ed hok hf0 hs x ho hi y (q j d t k g)).trans m);unfold Region.wanted;rw[k];simp only[r];cases d<;>rfl
def xm {D} (r:kw ops D) {i} (m:i<ops.size) (hi: ¬D i) {b n v} (g:ev i= .new b n v) {j} (hj:j<ops.size) (u:j≠i) {p} (hk:(ev j).key=some p) (hp:p.1=n): ¬D j:=by
 have _:=hok;intro x;obtain⟨y,z⟩:=t3 hf0 hs m g
 cases hej:ev j with
 |skip=>rw[hej] at hk;cases hk
 |val v=>rw[hej] at hk;cases hk
 |new b' n' v'=>rw[hej] at hk;cases hk;obtain⟨B,A⟩:=t3 hf0 hs hj hej;simp only at hp;rcases cj i j with h|h;have:=pY hf0 hs (i:=i+1) j h om;omega;have:=pY hf0 hs (i:=j+1) i om om;omega
 |put b' c'=>rw[hej] at hk;cases hk;simp only at hp;subst hp;have F:=(AG hf0 hs hj hej).1;rcases cj i j with h|h;have d:ops[j]? =some ops[j]:=aM hj;obtain⟨-,o⟩:=hs j _ d;rw[hej] at o;obtain⟨-,-,-,-,blk,E,-,-,-,f⟩:=o;rcases f with f|⟨k,f,h5⟩;have:=yi hf0 hs (j:=i) om;omega;rw[Nd hf0 hs g j h om] at f;cases f;unfold vu at h5;simp only[nP,aG,decide_eq_true_eq] at h5;obtain⟨e,q,rfl,s⟩:=h5;exact hi (r j _ d x e (by simpa using q) s);have:=pY hf0 hs (i:=j) i om om;omega
include hE in
def Og {N:Nat} {w0:ip} {D:Nat->Prop} (V:kw ops D) {i:Nat} {o:Oper} (ho:ops[i]? =some o) (hi: ¬D i) (hr: ∀e∈o.after,Region.binds .any e=true->D e.on) {a:Act} {w:World} (c1:Vk N w0 ops ev tm0 hp0 D a w) {K:Act->World->Prop} {Q:Exit->Act->World->Prop} (hn: ∀a' w',Vk N w0 ops ev tm0 hp0 (λj=>D j\/j=i) a' w'->K a' w'):wpOp P ops Q i K a w:=by
 have a1:i<ops.size:=(aE.1 ho).1;obtain⟨d,hh,ht,hd⟩:=c1;obtain⟨c9,E⟩:=hs i o ho;have hw:=Pk hok hf0 hs V ho hi hr (ht d (gt.refl _ _));have a8:qF ops i=o.dst:=by simp[qF,ho]
 have c5:tY ops ev tm0 (λj=>D j\/j=i) ops.size=mG o.dst (ev i).v (tY ops ev tm0 D ops.size):=by rw[Kx hi ops.size a1 (λj J E _ t c4=> ?_),a8];have R:ops[j]? =some ops[j]:=aM E;rw[a8];exact((ke hok J ho R).1 t (by simpa[qF,R] using c4)).2
 have fin: ∀{w':World} {ρ1:fF} {u:Value},dv N w0 (nn ev (an hp0) (λj=>D j\/j=i) ops.size) ρ1 w'->
   (∀x,(nn ev (an hp0) D ops.size x).isSome=true->(nn ev (an hp0) (λj=>D j\/j=i) ops.size x).isSome=true/\ρ1 x=d x)->
   (∀r,gt (nn ev (an hp0) (λj=>D j\/j=i) ops.size) r ρ1->u=(ev i).v.den r)->K (a.put o.dst u) w':=λJ E B=>
  hn _ _ ⟨_,J,λr m=>by rw[c5];exact EC (ht r (m.sub E)) o.dst _ (B r m),by rw[pM];exact hd⟩
 have same:(ev i).key=none->nn ev (an hp0) (λj=>D j\/j=i) ops.size=nn ev (an hp0) D ops.size:=λs=>by rw[tw hi ops.size a1 (λj _ _ _ p q _ h=>by rw[s] at h;cases h)];unfold C8;rw[s]
 unfold wpOp;rw[ho];change if Region.wanted o (yielded ops a.tmps)=true then _ else _
 have a9:gY o.op=true->gO o.op=false-> ∀b blk,Ve (ln hp0) o (f i).al (f i).hp b=some blk->nn ev (an hp0) D ops.size b=some blk:=λF z b blk O=>by
  unfold Ve at O;split at O;rename_i A;(have c0:b<(f i).hp.length:=by rw[cD] at O;exact(aw.1 O).1);rw[m6 (D2:=λj=>j<i) b ops.size (λj p H s hp=> ?_),uO (i:=i) ops.size om (λj J E=>by omega),m6 (D2:=λ_=>True) b i (λj p H _ _=>⟨λ_=>trivial,λ_=>H⟩),<-Nf hf0 hs i om];exact O;have R:ops[j]? =some ops[j]:=aM H;rcases iu j i with h|h|h;refine⟨λ_=>h,λ_=> ?_⟩
  cases hej:ev j with
  |skip=>rw[hej] at s;cases s
  |val v=>rw[hej] at s;cases s
  |new b' n' v'=>rw[hej] at s;cases s;simp only at hp;subst hp;unfold G9 at A;simp only[dY,decide_eq_true_eq] at A;rcases A with U|U;have:=(t3 hf0 hs H hej).1;have:=yi hf0 hs (j:=j) om;omega;rw[Nd hf0 hs hej i h om] at U;simp only at U;unfold vu at U;simp only[nP,aG,decide_eq_true_eq] at U;obtain⟨e,he,rfl,b2⟩:=U;exact hr e (by simpa using he) b2
  |put b' c'=>have a2:=(AG hf0 hs H hej).2;exact((ke hok h R ho).2.2.2 a2 F).elim
  subst h;exact⟨λh=>absurd h hi,λh=>by omega⟩;refine⟨λhD=> ?_,λh=>by omega⟩;exfalso
  cases hej:ev j with
  |skip=>rw[hej] at s;cases s
  |val v=>rw[hej] at s;cases s
  |new b' n' v'=>rw[hej] at s;cases s;have h5:=(t3 hf0 hs H hej).1;have h6:=pY hf0 hs (i:=i) j om om;simp only at hp;omega
  |put b' c'=>have a2:=(AG hf0 hs H hej).2;rcases YL hf0 hs H hej i o ho h F with h6|⟨h6,x,Z,hw6⟩;exact hi (V.bf hD h6);rw[hej] at s;cases s;simp only at hp;subst hp;unfold G9 at A;simp only[dY,decide_eq_true_eq] at A;rcases A with h7|h7;omega;split at h7;rename_i y hy;have:=Cz hf0 hs c0 hy j om om;rw[Z] at this;cases this;rw[hw6] at h7;cases h7;cases h7
  cases O
 have b7:gY o.op=true->gO o.op=false-> ∀r,gt (nn ev (an hp0) D ops.size) r d-> ∀b blk,Ve (ln hp0) o (f i).al (f i).hp b=some blk->fq r blk b w:=λF z r m b blk O=>hh.holds r m b blk (a9 F z b blk O)
 cases hev:ev i with
 |skip=>rw[hev] at E;rw[if_neg (by rw[hw.2 E.1];simp)];have hsm:=same (by rw[hev];rfl);exact fin (by rw[hsm];exact hh) (λx Z=>by rw[hsm];exact⟨Z,rfl⟩) (λr _=>by rw[hev];rfl)
 |val v=>
  rw[hev] at E
  obtain⟨a4,z,-,-,B⟩:=E
  rw[if_pos (hw.1 a4)]
  have hsm:=same (by rw[hev];rfl)
  left
  unfold Oper.wp
  rcases B with B|⟨c,fn,args,p,hop,hcal,hD,hp⟩|B|⟨c,fn,args,hop,hcal,hX⟩
  have hsel: ∀I b,o.op≠ .select I b:=λI b e=>by rw[e] at B;simp[mf] at B
  have G: ∀r,gt (nn ev (an hp0) D ops.size) r d->(execOp a.eval o).run P w= .ok (.value (v.den r)) w:=λr m=>by rw[mI hok hf0 hs V ho hi hr hsel (ht r m)];by_cases F:gY o.op=true;exact pr hE.T B r w (b7 F z r m);rw[Oi (by simpa using F) z _ _ (λ_=>none)] at B;exact pr hE.T B r w (λb blk O=>by cases O)
  have h0:=G d (gt.refl _ _)
  rw[h0]
  refine fin (ρ1:=d) (by rw[hsm];exact hh) (λx Z=>by rw[hsm];exact⟨Z,rfl⟩) (λr m=> ?_)
  rw[hsm] at m
  have:=G r m
  rw[h0] at this
  rw[hev]
  simpa[Ev.v] using this
  have hsel: ∀I b,o.op≠ .select I b:=λI b e=>by rw[e] at hop;cases hop
  have F:gY o.op=true:=by
   rw[hop];unfold callee at hcal;unfold gY
   cases hce:c.callee with
   |value _=>simp[hce]
   |invoke _ _=>simp[hce]
   |builtin _=>rw[hce] at hcal;cases hcal
  obtain⟨hf,a0,Y⟩:=hE.D fn args _ p v hD
  rw[mI hok hf0 hs V ho hi hr hsel (ht d (gt.refl _ _)),lT hop hcal hf d w]
  refine(Y hp d w (b7 F z d (gt.refl _ _))).mono ?_
  rintro e w' ⟨rfl,O⟩
  exact fin (ρ1:=d) (by rw[hsm];exact hh.below O) (λx Z=>by rw[hsm];exact⟨Z,rfl⟩) (λr m=>by
   rw[hev]
   rw[hsm] at m
   have E:=congrArg (λx=>x.run P w) ((mI hok hf0 hs V ho hi hr hsel (ht d (gt.refl _ _))).symm.trans (mI hok hf0 hs V ho hi hr hsel (ht r m)))
   have B:=(lT hop hcal hf d w).symm.trans (E.trans (lT hop hcal hf r w))
   exact a0 _ _ (by simpa using B))
  have hsel: ∀I b,o.op≠ .select I b:=λI b e=>by rw[e] at B;exact B
  have G: ∀r,gt (nn ev (an hp0) D ops.size) r d->(execOp a.eval o).run P w= .ok (.value (v.den r)) w:=λr m=>by rw[mI hok hf0 hs V ho hi hr hsel (ht r m)];exact WR hE.T B (λfb b o l e J E B=>(hh.fam fb b o l e (YK hE hf0 hs J E) E B).1) r
  have h0:=G d (gt.refl _ _)
  rw[h0]
  refine fin (ρ1:=d) (by rw[hsm];exact hh) (λx Z=>by rw[hsm];exact⟨Z,rfl⟩) (λr m=> ?_)
  rw[hsm] at m
  have:=G r m
  rw[h0] at this
  rw[hev]
  simpa[Ev.v] using this
  have hsel: ∀I b,o.op≠ .select I b:=λI b e=>by rw[e] at hop;cases hop
  have F:gY o.op=true:=by
   rw[hop];unfold callee at hcal;unfold gY
   cases hce:c.callee with
   |value _=>simp[hce]
   |invoke _ _=>simp[hce]
   |builtin _=>rw[hce] at hcal;cases hcal
  obtain⟨hf,a0,Y⟩:=hE.X fn args _ v hX
  rw[mI hok hf0 hs V ho hi hr hsel (ht d (gt.refl _ _)),lT hop hcal hf d w]
  refine(Y d w (b7 F z d (gt.refl _ _)) λb blk o' l e J E B=> ?_).mono ?_
  have U:=(hh.fam b blk o' l e (a9 F z b blk J) E B).1
  exact⟨U.pure,U.row,λh=>(by cases h),U.holds,λ_=>U.lt⟩
  rintro e w' ⟨rfl,O⟩
  exact fin (ρ1:=d) (by rw[hsm];exact hh.below O) (λx Z=>by rw[hsm];exact⟨Z,rfl⟩) (λr _=>by rw[hev];exact a0 _ _)
 |new b n v=>rw[hev] at E;obtain⟨a4,z,c8,-,-,g,B,rfl⟩:=E;rw[if_pos (hw.1 a4)];left;unfold Oper.wp;(have hsel: ∀I b,o.op≠ .select I b:=λI b e=>by rw[e] at B;simp[mf,mkE] at B);obtain⟨val,h0,b6,b8⟩:=Gg hE.T B d w;rw[<-mI hok hf0 hs V ho hi hr hsel (ht d (gt.refl _ _))] at h0;(have hL: ∀r,gt (nn ev (an hp0) D ops.size) r d->af r b.cs=af d b.cs:=λr m=>by obtain⟨c7,J,-⟩:=Gg hE.T B r w;rw[<-mI hok hf0 hs V ho hi hr hsel (ht r m),h0] at J;simp only[Result.ok.injEq] at J;have:=congrArg (λW=>W.heap[w.heap.size]?) J.2;simp only[heap_alloc_new] at this;simpa using this.symm);(have a6:nn ev (an hp0) D ops.size n=none:=by rw[m6 (D2:=λ_=>False) n ops.size (λj p H s hp=>⟨λhD=> ?_,False.elim⟩),uN];have:=yi hf0 hs (j:=i) om;rw[cD,bi om];by_cases hji:j=i;subst hji;exact hi hD;exact xm hok hf0 hs V a1 hi hev H hji s hp hD);(have L:nn ev (an hp0) (λj=>D j\/j=i) ops.size=df (nn ev (an hp0) D ops.size) n b:=by rw[tw hi ops.size a1 (λj J E hD p q s hq e=> ?_),hev];rfl;rw[hev] at hq;cases hq;exact xm hok hf0 hs V a1 hi hev E om s e hD);rw[h0];refine fin (ρ1:=ig d n (w.heap.size,0)) (by rw[L];exact hh.new a6 b6 hL) (λx Z=>by rw[L];exact n7 a6 x Z) (λr m=> ?_);rw[hev];refine(b8 r n ?_).symm;rw[L] at m;rw[m n (by unfold df;rw[if_pos rfl];rfl)];unfold ig;rw[if_pos rfl]
 |put b c=>
  rw[hev] at E
  obtain⟨a4,a7,-,-,blk,I,O,rfl,B,U⟩:=E
  rw[if_pos (hw.1 a4)]
  left
  unfold Oper.wp
  have hsel: ∀I b,o.op≠ .select I b:=λI b e=>by rw[e] at B;simp[mf] at B
  have c0:b<(f i).hp.length:=by rw[cD] at O;exact(aw.1 O).1
  have A: ∀{j:Nat} (H:j<ops.size) {p:Nat×aY},(ev j).key=some p->p.1=b->i<j-> ¬D j:=λ{j} H {p} s hp c2 hD=>by
   have R:ops[j]? =some ops[j]:=aM H
   cases hej:ev j with
   |skip=>rw[hej] at s;cases s
   |val v=>rw[hej] at s;cases s
   |new b' n' v'=>rw[hej] at s;cases s;have h5:=(t3 hf0 hs H hej).1;have h6:=pY hf0 hs (i:=i) j om om;simp only at hp;omega
   |put b' c'=>have a2:=(AG hf0 hs H hej).2;exact hi (V.bf hD ((ke hok c2 ho R).2.2.1 a2 a7))
  have a5:nn ev (an hp0) D ops.size b=some blk:=by
   rw[m6 (D2:=λj=>j<i) b ops.size (λj p H s hp=> ?_),uO (i:=i) ops.size om (λj J E=>by omega),m6 (D2:=λ_=>True) b i (λj p H _ _=>⟨λ_=>trivial,λ_=>H⟩),<-Nf hf0 hs i om];exact O;have R:ops[j]? =some ops[j]:=aM H;rcases iu j i with h|h|h;refine⟨λ_=>h,λ_=> ?_⟩
   cases hej:ev j with
   |skip=>rw[hej] at s;cases s
   |val v=>rw[hej] at s;cases s
   |new b' n' v'=>rw[hej] at s;cases s;simp only at hp;subst hp;rcases U with U|⟨k,U,h5⟩;have:=(t3 hf0 hs H hej).1;have:=yi hf0 hs (j:=j) om;omega;rw[Nd hf0 hs hej i h om] at U;cases U;unfold vu at h5;simp only[nP,aG,decide_eq_true_eq] at h5;obtain⟨e,he,rfl,b2⟩:=h5;exact hr e (by simpa using he) b2
   |put b' c'=>have a2:=(AG hf0 hs H hej).2;have:=(ke hok h R ho).2.2.1 a7 a2;exact((V.ready ho hr).bf (.inr rfl) this).resolve_right om
   subst h;exact⟨λh=>absurd h hi,λh=>by omega⟩;exact⟨λhD=>absurd hD (A H s hp h),λh=>by omega⟩
  obtain⟨c6,b3,l,b9,b6,-,G⟩:=xU hE.T B
  rw[O] at b9
  cases b9
  have key: ∀r,gt (nn ev (an hp0) D ops.size) r d->(execOp a.eval o).run P w= .ok .skip (w.setCells (d b).1 b3 (af r l))/\ ∃t:List Value,ln t=blk.tl/\(w.setCells (d b).1 b3 (af r l)).heap[(d b).1]? =some (.cells (af r I++t).toArray blk.ty (0,0)):=λr m=>by have:=G r w (hh.holds r m b blk a5);rw[m b (by rw[a5];rfl),<-mI hok hf0 hs V ho hi hr hsel (ht r m)] at this;exact this
  obtain⟨h0,-⟩:=key d (gt.refl _ _)
  have b5:=hh.put (cs:=I) (M:=af d l) (off:=b3) a5 b6 (λr m=>by
   obtain⟨J,c3⟩:=key r m
   rw[h0] at J
   simp only[Result.ok.injEq,true_and] at J
   rw[J];exact c3)
  have L:nn ev (an hp0) (λj=>D j\/j=i) ops.size=df (nn ev (an hp0) D ops.size) b {ty:=blk.ty,ro:=blk.ro,cs:=I,tl:=blk.tl}:=by rw[tw hi ops.size a1 (λj J E hD p q s hq e=> ?_),hev];rfl;rw[hev] at hq;cases hq;exact A E s e J hD
  rw[h0]
  refine fin (ρ1:=d) (by rw[L];exact b5) (λx Z=> ?_) (λr _=>by rw[hev];rfl)
  rw[L]
  unfold df
  split
  exact⟨rfl,rfl⟩
  exact⟨Z,rfl⟩
end
end
section
open Go
section
variable {P:Program} {h:Array Oper} {ol:Oper} {Q:Exit->Act->World->Prop} {md:Region.Mode}
def WO (P:Program) (ol:Oper) (Q:Exit->Act->World->Prop):Exit->Act->World->Prop
 | .normal,a,w=>ol.wp P a w (Q .normal) Q
 | .panic c,a,w=>Q (.panic c) a w
 | .outgrown,a,w=>Q .outgrown a w
 |_,_,_=>False
def H5 {o:Oper} {a:Act} {K j:Act->World->Prop} {Q h:Exit->Act->World->Prop} {r:Result Next} (g: ∀a w,K a w->j a w) (i: ∀c a w,Q (.panic c) a w->h (.panic c) a w) (p:LetsOut Q->LetsOut h) (d:o.upon P a K Q r):o.upon P a j h r:=by
 cases r with
 |ok n k=>
  cases n<;>simp only[Oper.upon] at d⊢<;>
   first
    |exact g _ _ d
    |exact Calls.mono d (λe m f=>by cases e<;>first|exact g _ _ f|exact i _ _ _ f|exact p f)
    |exact Rows.mono d (λ_ _ f=>g _ _ f)
 |halt x k=>cases x<;>simp only[Oper.upon] at d⊢<;>first|exact i _ _ _ d|exact d
def lY (l:Array Bool) j:(l.push false).getD j false=l.getD j false:=by rcases iu j l.size with h|h|h;simp[gw,ua h];subst h;simp;simp[gw,Nat.ne_of_gt h]
def m4 (l:Array Bool) {j} (h:j<l.size):(l.push false).getD j true=l.getD j true:=by simp[gw,ua h]
def Gc (ops:Array Oper):Bool:=(List.range ops.size).all λi=>match ops[i]?with|some o=>o.after.all λe=>decide (e.on<i)|none=>true
def yU {ops} (h:Gc ops=true) {i} {o:Oper} (ho:ops[i]? =some o): ∀e∈o.after,e.on<i:=by intro e f;have d:=fE.1 h i (jG.2 (aE.1 ho).1);rw[ho] at d;have g:=CK.1 d e f;simpa using g
def JC (ops:Array Oper):Bool:=ops.all λo=>match o.guard with|some (j,_)=>decide (j<ops.size)|none=>true
def H8 (g:JC h=true) {o} (ho:o∈h) tmps:Region.wanted o (yielded (h.push ol) tmps)=Region.wanted o (yielded h tmps):=by
 have e:=CK.1 g o ho;unfold Region.wanted;split;rfl;rename_i j f d;rw[d] at e;have:j<h.size:=by simpa using e
 unfold yielded;rw[gw,if_neg (ua this)]
def SP {d:Array Bool} (hs:d.size=h.size) (p: ∀j oj,h[j]? =some oj->d.getD j false=true-> ∀e∈oj.after,Region.binds md e=true->d.getD e.on false=true): HeadInv md (h.push ol) h.size (d.push false):=by
 refine⟨by simp[hs],λj oj i f e m o=> ?_,λt q g=> ?_⟩;rw[lY] at f⊢;rw[gw] at i;split at i;rename_i k;subst k;rw[<-hs] at f;simp at f;exact p j oj i f e m o;have:t=d.size:=by simp at g;omega
 subst this;simp
def tR {d:Array Bool} (hs:d.size=h.size) {i} (hi:i<h.size):i∈Region.ready md (h.push ol) (d.push false)↔i∈Region.ready md h d:=by rw[mem_ready,mem_ready,m4 _ om,gw,if_neg (ua hi)];simp only[lY]
def Ir (f:Gc (h.push ol)=true) {d:Array Bool} (hs:d.size=h.size) (q:Region.ready md h d=[]): ∀i,i<h.size->d.getD i true=true:=by
 intro i
 induction i using Nat.strongRecOn with
 |_ i r=>
  intro m
  cases hl:d.getD i true with
  |true=>rfl
  |false=>
   have g:h[i]? =some h[i]:=aM m
   have j:(h.push ol)[i]? =some h[i]:=by rw[gw,if_neg (ua m)];exact g
   have:i∈Region.ready md h d:=mem_ready.2 ⟨hl,_,g,λe o _=>by
    have k:=yU f j e o
    have:=r e.on k om
    have p:e.on<d.size:=om
    simp only[aQ,aM p,ef] at this⊢
    exact this⟩
   rw[q] at this
   cases this
def qe (g:Gc (h.push ol)=true) (z:ol.guard=none) {d:Array Bool} {a:Act} {w:World} (hs:d.size=h.size) (E:Region.ready md h d=[]) (H:WO P ol Q .normal a w) (f:Nat):wpAny P md (h.push ol) Q (f+1) (d.push false) a w:=by
 have k:=Ir g hs E;have s:(h.push ol)[h.size]? =some ol:=sp;have q: ∀i∈Region.ready md (h.push ol) (d.push false),i=h.size:=by intro i u;(have r:i<h.size+1:=by obtain⟨_,o,y,_⟩:=mem_ready.1 u;have:=(aE.1 y).1;simpa using this);by_cases hin:i<h.size;have p:=(mem_ready.1 ((tR hs hin).1 u)).1;rw[k i hin] at p;cases p;omega
 have m:h.size∈Region.ready md (h.push ol) (d.push false):=mem_ready.2 ⟨by rw[<-hs];simp,ol,s,λe A _=>by have r:=yU g s e A;rw[lY];have:=k e.on r;have D:e.on<d.size:=om;simp only[aQ,aM D,ef] at this⊢;exact this⟩;refine⟨λB=>(by rw[B] at m;cases m),λi u=> ?_⟩;have:=q i u;subst this;unfold wpOp;rw[s];change if Region.wanted ol (yielded (h.push ol) a.tmps)=true then _ else _;have F:Region.wanted ol (yielded (h.push ol) a.tmps)=true:=by unfold Region.wanted;rw[z]
 rw[if_pos F];refine Or.inl (Oper.wp_mono (λI J x=>wpAny_done (ed.2 λj G=> ?_) x f) H);obtain⟨p,o,y,_⟩:=mem_ready.1 G;by_cases hjn:j=h.size;subst hjn;rw[<-hs] at p;simp at p;rw[getD_set_ne true (λe=>hjn e.symm)] at p;have r:j<h.size+1:=by have:=(aE.1 y).1;simpa using this
 rw[m4 _ om,k j om] at p;cases p
def KE (s:Region.sinkB md (h.push ol) h.size=true) (k:Gc (h.push ol)=true) (hg:JC h=true) (A:ol.guard=none): ∀f (listed:Array Bool) (a:Act) w,listed.size=h.size-> (∀j oj,h[j]? =some oj->listed.getD j false=true-> ∀e∈oj.after,Region.binds md e=true->listed.getD e.on false=true)-> wpAny P md h (WO P ol Q) f listed a w->wpAny P md (h.push ol) Q (f+1) (listed.push false) a w:=by
 have q:Region.chainB md (h.push ol) h.size=true:=by unfold Region.chainB;rw[fE];intro t X;(have:t<=h.size:=by have:=jG.1 X;simp at this;omega);simp[this]
 intro f
 induction f with
 |zero=>intro listed a w r J B;exact qe k A r B.1 B.2 0
 |succ f ih=>intro listed a w r J B;by_cases hr:Region.ready md h listed=[];exact qe k A r hr (B.1 hr) _;obtain⟨I,u⟩:=a3I _ hr;(have d:I<h.size:=by obtain⟨_,o,Y,_⟩:=mem_ready.1 u;exact(aE.1 Y).1);have E:=SP (ol:=ol) r J;(have G:(listed.push false).getD I true=false:=by rw[m4 _ om];exact(mem_ready.1 u).1);have F:=tail_waits s q sp E _ I rfl d G;refine⟨λZ=> ?_,λi V=> ?_⟩;have:=(tR (ol:=ol) r d).2 u;rw[Z] at this;cases this;have p:i<h.size:=a8Y λO=>F i O V;have D:=(tR r p).1 V;have m:=B.2 i D;(have x:(listed.push false).setIfInBounds i true=(listed.setIfInBounds i true).push false:=by apply Array.ext;simp;intro j m h2;rw[rx (by simpa using m)];simp only[Array.getElem_push,Array.size_setIfInBounds];by_cases hij:i=j;subst hij;rw[if_pos rfl,dif_pos om,rx om,if_pos rfl];rw[if_neg hij];split;rw[rx om,if_neg hij];rfl);rw[x];(have g: ∀L N,wpAny P md h (WO P ol Q) f (listed.setIfInBounds i true) L N->wpAny P md (h.push ol) Q (f+1) ((listed.setIfInBounds i true).push false) L N:=by intro L N h';refine ih _ _ _ (by simp[r]) (λj oj W T e R U=> ?_) h';by_cases hij:i=j;subst hij;obtain⟨_,oi,M,y⟩:=mem_ready.1 D;have:oj=oi:=bL.inj (W.symm.trans M);subst this;exact getD_set_true (y e R U);rw[getD_set_ne false hij] at T;exact getD_set_true (J j oj W T e R U));have z:h[i]? =some h[i]:=aM p;(have H:(h.push ol)[i]? =some h[i]:=by rw[gw,if_neg (ua p)];exact z);unfold wpOp at m⊢;rw[H];rw[z] at m;change if Region.wanted h[i] (yielded (h.push ol) a.tmps)=true then _ else _;change if Region.wanted h[i] (yielded h a.tmps)=true then _ else _ at m;rw[show Region.wanted h[i] (yielded (h.push ol) a.tmps)=Region.wanted h[i] (yielded h a.tmps) from H8 hg (Array.getElem_mem p) _];revert m;split;rintro(m|m);exact .inl (H5 g (λ_ _ _ h=>h) (λh=>h) m);exact .inr m;exact g _ _
end
end
end Go.Proofs.YtlgcobafjbajdaaGreatDoor
