/- w -/
import Derived.KernelRfl
import Derived.Below
import Derived.Orders
import Derived.Lib.Hide
import Derived.Test.YtlgcobafjbajdaaGreatDoorProg
import Derived.WalkKit
import Derived.WalkSpells
import Derived.WalkLawsBesides
import Derived.Deep.RegionHeld3
import Derived.RangeFuncNested
import Derived.RangeFuncBound
import Derived.RangeFuncCalls
import Derived.RangeFuncLeaves
import Derived.Shelf.Abstract
import Derived.Shelf.RegionOpen
import Derived.OwnWalkIn
import Derived.TacticsInMore
import Derived.LoopNIn
import Derived.LoopIn
import Derived.Lib.IndexBytes
import Derived.Maps.AppendAt
import Derived.Deep.DeepCutAuto
import Derived.DeepKeys
import Derived.Deep.MidRow
import Derived.LoopN
namespace Go.Proofs.YtlgcobafjbajdaaGreatDoor
open Tryz
open Go.RowKit
open Int renaming natCast_mul→gM,ofNat→Y1
open List renaming append_toArray→Va,drop_drop→sW,drop_eq_getElem_cons→bh,drop_zero→it,length→ln,map_append→aV,push_toArray→a6c,replicate→au,take_append_drop→aF
open Nat renaming ble→a6d,div_lt_self→PK,mul_add→fa,mul_assoc→gg,pow_add→mw,pow_mul→pa,pow_succ→eo,strongRecOn→jY
open _root_.Array renaming length_toList→dg,replicate_zero→No
set_option linter.all false
set_option linter.all false
set_option maxRecDepth 100000
set_option maxHeartbeats 2000000
def om {P:Prop} (h:P:=by omega):P:=h
def dc {P:Prop} (h:P:=by decide):P:=h
def kr {P:Prop} (h:P:=by kernel_rfl):P:=h
def sp {P:Prop} (h:P:=by simp):P:=h
def aq {P:Prop} (h:P:=by assumption):P:=h
def ui {P:Prop} (h:P:=by unfold IR;omega):P:=h
def du {P:Prop} (h:P:=by dsimp only;omega):P:=h
def su {P:Prop} (h:P:=by simp;omega):P:=h
def fr {α:Sort _} {p:α→Prop} (h: ∀x,p x:=by exact λ_=>rfl): ∀x,p x:=h
def ff {α:Sort _} {β:Sort _} {p:α→β→Prop} (h: ∀x y,p x y:=by exact λ_ _=>rfl): ∀x y,p x y:=h
def cv {α:Sort _} {a b:α} {p:α→Prop} (e:a=b) (h:p b):p a:=by rw [e];exact h
abbrev ae:=@List.getElem?_eq_getElem
abbrev aa:=@List.length_append
abbrev ak:=@List.getElem_mem
abbrev ah:=@Nat.zero_le
abbrev ai:=@Nat.le_refl
abbrev ao:=@List.getD_eq_getElem?_getD
abbrev aL:=@List.flatMap_cons
abbrev am:=@Lib.hid
abbrev aw:=@List.getElem?_eq_some_iff
abbrev bF:=@List.flatMap_nil
abbrev aB:=@Result.andThen_ok
abbrev aC:=@Nat.le_trans
abbrev aG:=@Bool.and_eq_true
abbrev aD:=@List.mem_cons_of_mem
abbrev bb:=@List.length_replicate
abbrev aN:=@Nat.zero_add
abbrev aE:=@Array.getElem?_eq_some_iff
abbrev aI:=@List.map_cons
abbrev aO:=@List.length_take
abbrev aK:=@Option.isSome_iff_exists
abbrev bw:=@Nat.le_of_lt
abbrev aM:=@Array.getElem?_eq_getElem
abbrev aT:=@List.mem_append
abbrev aP:=@List.mem_cons_self
abbrev bk:=@List.append_nil
abbrev aU:=@List.eq_nil_of_length_eq_zero
abbrev aZ:=@List.length_set
abbrev aQ:=@Array.getD_eq_getD_getElem?
abbrev bE:=@List.take_succ_eq_append_getElem
abbrev bW:=@Int.toNat_natCast
abbrev aS:=@List.length_cons
abbrev bq:=@List.mem_singleton
abbrev bX:=@List.take_of_length_le
abbrev aX:=@Sem.run_bind
abbrev bO:=@List.length_map
abbrev bo:=@Nat.le_antisymm
abbrev bi:=@List.getElem?_eq_none
abbrev br:=@List.mem_cons
abbrev bc:=@Sem.run_pure
abbrev bD:=@List.mem_map
abbrev cd:=@List.not_mem_nil
abbrev bN:=@List.length_drop
abbrev bP:=@List.take_length
abbrev cj:=@Nat.lt_or_ge
abbrev cf:=@List.getElem?_toArray
abbrev cq:=@Nat.min_eq_left
abbrev cK:=@List.cons_append
abbrev fE:=@List.all_eq_true
abbrev cX:=@Nat.eq_zero_or_pos
abbrev aj:=@Nat.le_of_ble_eq_true
abbrev dj:=@List.map_nil
abbrev cZ:=@List.set_eq_take_append_cons_drop
abbrev dh:=@Nat.lt_of_lt_of_le
abbrev dA:=@Option.map_some
abbrev dG:=@List.flatMap_append
abbrev gh:=@Nat.not_lt_zero
abbrev dJ:=@Nat.pow_le_pow_right
abbrev dN:=@List.getElem?_append_left
abbrev dV:=@List.mem_of_getElem?
abbrev go:=@List.getElem_map
abbrev ef:=@Option.getD_some
abbrev dY:=@Bool.or_eq_true
abbrev ed:=@List.eq_nil_iff_forall_not_mem
abbrev ge:=@List.nil_append
abbrev em:=@Nat.lt_of_le_of_lt
abbrev eu:=@Nat.mul_le_mul_left
abbrev eF:=@List.getElem?_set_ne
abbrev eG:=@List.take_add_one
abbrev eH:=@Nat.le_succ_of_le
abbrev eI:=@Nat.mul_comm
abbrev eL:=@Option.toList_some
abbrev fe:=@List.getElem?_append_right
abbrev fg:=@Nat.mod_lt
abbrev gc:=@List.mem_append_left
abbrev gE:=@Nat.mul_one
abbrev ft:=@List.drop_of_length_le
abbrev gb:=@List.getElem?_take
abbrev fu:=@Nat.add_comm
abbrev fM:=@Nat.add_zero
abbrev iQ:=@List.mem_filter
abbrev fG:=@World.size_alloc
abbrev gA:=@List.getElem?_map
abbrev gT:=@List.getElem?_replicate
abbrev gd:=@Nat.mul_le_mul
abbrev jg:=@List.ext_getElem
abbrev o8:=@Int.mul_le_mul_of_nonneg_left
abbrev gB:=@List.nodup_append
abbrev gC:=@List.size_toArray
abbrev gG:=@List.mem_append_right
abbrev gH:=@Nat.eq_of_beq_eq_true
abbrev gU:=@List.mem_flatMap
abbrev gV:=@Nat.mul_le_mul_right
abbrev gW:=@Option.bind_some
abbrev iq:=@Int.tdiv_eq_ediv_of_nonneg
abbrev kZ:=@Int.tmod_eq_emod_of_nonneg
abbrev iu:=@Nat.lt_trichotomy
abbrev ns:=@List.getElem_of_mem
abbrev iK:=@List.map_congr_left
abbrev iW:=@List.mem_or_eq_of_mem_set
abbrev nQ:=@List.filter_cons
abbrev ji:=@Nat.mod_eq_of_lt
abbrev kz:=@Nat.sub_self
abbrev jw:=@Nat.zero_mul
abbrev jG:=@List.mem_range
abbrev jW:=@Int.natCast_add
abbrev ky:=@List.drop_eq_nil_of_le
abbrev a0m:=@Array.mem_of_getElem?
abbrev CQ:=@List.foldl_append
abbrev sY:=@List.mem_of_mem_take
abbrev CS:=@Nat.le_of_eq
abbrev my:=@Nat.succ_mul
abbrev nr:=@Int.toNat_of_nonneg
abbrev nO:=@Int.mul_le_mul_of_nonneg_right
abbrev nP:=@List.any_eq_true
abbrev sT:=@Int.le_refl
abbrev dM:=@Int.le_trans
abbrev ph:=@Int.sub_eq_add_neg
abbrev pi:=@List.append_of_mem
abbrev pj:=@List.getElem?_set_self
abbrev t9:=@List.map_map
abbrev PE:=@List.foldl_cons
abbrev qi:=@Nat.mod_add_div
abbrev qr:=@List.contains_iff_mem
abbrev Id:=@List.length_filter_le
abbrev qs:=@List.length_singleton
abbrev ry:=@Nat.mul_lt_mul_of_pos_right
abbrev sP:=@Array.replicate_succ
abbrev CM:=@Bool.and_false
abbrev CO:=@Bool.false_and
abbrev sS:=@Int.fdiv_eq_ediv_of_nonneg
abbrev sU:=@Int.natAbs_mul
abbrev sX:=@List.mem_of_mem_drop
abbrev sZ:=@List.nodup_nil
abbrev a3J:=@List.pairwise_iff_getElem
abbrev KM:=@List.all_cons
abbrev xO:=@List.nodup_cons
abbrev yj:=@List.set_cons_succ
abbrev yk:=@List.set_cons_zero
abbrev AW:=@Nat.pow_pos
abbrev AX:=@World.block_lt_of_cell?
abbrev a6b:=@List.all_eq_false
abbrev CR:=@List.length_range
abbrev a6o:=@Option.map_eq_some_iff
abbrev Fq:=@List.replicate_append_replicate
abbrev a7p:=@Bool.and_eq_false_iff
abbrev a7q:=@List.pairwise_flatMap
abbrev KN:=@List.sum_cons
abbrev Nu:=@World.cell?_of_block
abbrev a8o:=@List.all_append
abbrev PG:=@List.range_succ
abbrev PH:=@List.sum_append
abbrev Vb:=@List.take_succ_cons
abbrev Vn:=@Nat.mul_zero
abbrev bC:=@Int.natCast_nonneg
abbrev a9G:=@Int.tmod_lt_of_pos
abbrev a9H:=@List.filter_append
abbrev a0r:=@List.map_singleton
abbrev a0s:=@List.pairwise_cons
abbrev a3I:=@List.exists_mem_of_ne_nil
abbrev a6e:=@Nat.le_succ
abbrev a6B:=@Bool.not_true
abbrev a6J:=@List.eq_of_mem_replicate
abbrev a6K:=@List.set_eq_of_length_le
abbrev a8E:=@Array.toList_map
abbrev a8S:=@List.drop_length
abbrev a8T:=@List.getElem?_cons_succ
abbrev a8U:=@List.map_toArray
abbrev a8W:=@Nat.add_sub_cancel_left
abbrev a8X:=@Nat.le_add_right
abbrev a8Y:=@Nat.lt_of_not_le
section
variable {B d k i x U V g ul vl j:Nat} {m:List Nat} {y z:Int}
def val (B:Nat):List Nat->Nat
 |[]=>0
 |d::l=>d+B*val B l
def fK (B:Nat) (n:Nat):List Nat:=if _h:n=0\/B<2 then [] else n % B::fK B (n/B)
termination_by n
decreasing_by exact PK (by omega) (by omega)
def fT:List Nat->Nat
 |[]=>0
 |d::l=>if fT l=0/\d=0 then 0 else fT l+1
def Dl (B:Nat) (l:List Nat):Prop:= ∀d∈l,d<B
def hQ B:fK B 0=[]:=by unfold fK;simp
def po {n} (e:2<=B) (f:0<n):fK B n=n % B::fK B (n/B):=by rw[fK];rw[dif_neg om]
def Ng B:val B []=0:=rfl
def fV B d l:val B (d::l)=d+B*val B l:=rfl
def dm (e:2<=B) n:val B (fK B n)=n:=by
 induction n using jY with
 |_ n f=>rcases cX n with h|h;subst h;rw[hQ];rfl;rw[po e h,fV,f _ (PK h om)];exact qi n B
def eT (o:2<=B) n:Dl B (fK B n):=by
 induction n using jY with
 |_ n p=>rcases cX n with h|h;subst h;rw[hQ];intro d e;cases e;rw[po o h];intro d e;rcases br.1 e with f|f;subst f;exact fg _ om;exact p _ (PK h om) d f
def Dl.nil B:Dl B []:=λd h=>by cases h
def Dl.tail {l} (h:Dl B (d::l)):Dl B l:=λx e=>h x (aD _ e)
def Dl.head {l} (h:Dl B (d::l)):d<B:=h d (aP ..)
def Dl.take {l} (h:Dl B l) k:Dl B (l.take k):=λx e=>h x (sY e)
def Dl.append {l} (h:Dl B l) (h':Dl B m):Dl B (l++m):=λx e=>(aT.1 e).elim (h x) (h' x)
def Dl.one (h:d<B):Dl B [d]:=λx e=>by simp at e;omega
def Dl.get {l} (h:Dl B l) i (hi:i<ln l):l[i]<B:=h _ (ak hi)
def Dl.getD {l} (h:Dl B l) (e:0<B) i:l.getD i 0<B:=by by_cases hi:i<ln l;rw[ao,ae hi];exact h.get i hi;rw[ao,bi om];simpa using e
def Dl.set {l} (h:Dl B l) i {v} (hv:v<B):Dl B (l.set i v):=λx f=>by rcases iW f with e|e;exact h x e;omega
def Dl.replicate (f:0<B) n:Dl B (au n 0):=λx e=>by rw[List.mem_replicate] at e;omega
def lD B l m:val B (l++m)=val B l+B^(ln l)*val B m:=by
 induction l with
 |nil=>simp[val]
 |cons d l ih=>simp only[cK,fV,ih,aS,eo,fa];rw[eI (B^(ln l)) B,gg];omega
def t4 {l} (h:Dl B l):val B l<B^(ln l):=by
 induction l with
 |nil=>simp[val]
 |cons d l ih=>
  have e:=ih h.tail
  have f:=h.head
  simp only[fV,aS,eo]
  calc d+B*val B l<B+B*val B l:=om
   _=B*(val B l+1):=by rw[fa];omega
   _<=B*B^(ln l):=eu _ e
   _=B^(ln l)*B:=eI _ _
def jS B n:val B (au n 0)=0:=by
 induction n with
 |zero=>rfl
 |succ n ih=>rw[List.replicate_succ,fV,ih];simp
def Bv B l k (hk:k<ln l):val B (l.take (k+1))=val B (l.take k)+B^k*l[k]:=by rw[bE hk,lD,fV,Ng,aO];rw[cq om];simp
def CE B l k:val B l=val B (l.take k)+B^(min k (ln l))*val B (l.drop k):=by
 conv=>lhs;rw[<-aF k l]
 rw[lD,aO]
def vr B l k (hk:k<ln l):val B (l.drop k)=l[k]+B*val B (l.drop (k+1)):=by rw[bh hk,fV]
def Nh B l i v (hi:i<ln l):val B (l.set i v)+B^i*l[i]=val B l+B^i*v:=by
 induction l generalizing i with
 |nil=>simp at hi
 |cons d l ih=>
  cases i with
  |zero=>simp only[yk,fV,List.getElem_cons_zero,Nat.pow_zero,Nat.one_mul];omega
  |succ i=>simp only[aS] at hi;have:=ih i om;simp only[yj,fV,List.getElem_cons_succ,eo];(have f:B^i*B*l[i]=B*(B^i*l[i]):=by rw[eI (B^i) B,gg]);(have e:B^i*B*v=B*(B^i*v):=by rw[eI (B^i) B,gg]);rw[f,e];have:=congrArg (B* ·) this;simp only[fa] at this;omega
def iI l:fT l<=ln l:=by
 induction l with
 |nil=>simp[fT]
 |cons d l ih=>simp only[fT,aS];split<;>omega
def jE (r:2<=B) {l} (h:Dl B l):l.take (fT l)=fK B (val B l):=by
 induction l with
 |nil=>simp[fT,Ng,hQ]
 |cons d l e=>have e:=e h.tail;have A:=h.head;simp only[fT];split;rename_i s;obtain⟨p,rfl⟩:=s;rw[p] at e;(have:val B l=0:=by have:=dm r (val B l);rw[<-e] at this;simpa[val] using this.symm);simp[fV,this,hQ];rename_i s;rw[Vb];(have o:0<val B (d::l):=by rw[fV];rcases cX d with p|p;have u:fT l≠0:=λu=>s ⟨u,p⟩;(have:0<val B l:=by rcases cX (val B l) with q|q;rw[q,hQ] at e;have f:=congrArg ln e;have:=iI l;simp at f;rcases f with f|f;omega;subst f;simp[fT] at u;exact q);have:=gd r (show 1<=val B l from this);omega;omega);rw[po r o,fV,Nat.add_mul_mod_self_left,ji A,Nat.add_mul_div_left _ _ om,Nat.div_eq_of_lt A,aN,e]
def pU {l} (hk:k<=ln l) (h0: ∀j,k<=j->l.getD j 0=0) (h1:k=0\/l.getD (k-1) 0≠0):fT l=k:=by
 induction l generalizing k with
 |nil=>simp at hk;simp[fT,hk]
 |cons d l ih=>
  simp only[fT]
  cases k with
  |zero=>(have e:d=0:=by simpa using h0 0 (ai _));have:=ih (k:=0) om (λj _=>by simpa using h0 (j+1) om) (Or.inl rfl);rw[if_pos ⟨this,e⟩]
  |succ k=>
   simp only[aS] at hk
   have f: ∀j,k<=j->l.getD j 0=0:=λj h=>by simpa using h0 (j+1) om
   rcases cX k with rfl|o
   have:=ih (k:=0) om f (Or.inl rfl)
   have e:d≠0:=by simpa using h1
   rw[if_neg om,this]
   have:=ih (k:=k) om f (Or.inr (by
    rcases h1 with h1|h1
    omega
    obtain⟨m,rfl⟩: ∃m,k=m+1:=⟨k-1,om⟩
    simpa using h1))
   rw[if_neg om,this]
def Jq (e:2<=B) {l} (h:Dl B l) (hl:l=[]\/l.getD (ln l-1) 0≠0):fK B (val B l)=l:=by
 rw[<-jE e h,pU (k:=ln l) (ai _) (λj f=>by rw[ao,bi f];rfl) (by
  rcases hl with rfl|hl
  simp
  exact Or.inr hl),bP]
def R3 (e:2<=B) n (f:0<n):(fK B n).getD ((fK B n).length-1) 0≠0:=by
 induction n using jY with
 |_ n p=>rw[po e f];rcases cX (n/B) with h|h;rw[h,hQ];have:=Nat.div_eq_zero_iff.1 h;simp;have:=ji (show n<B by omega);omega;have o:=p _ (PK f om) h;(have q:0<(fK B (n/B)).length:=by rw[po e h];simp);obtain⟨m,hm⟩: ∃m,(fK B (n/B)).length=m+1:=⟨(fK B (n/B)).length-1,om⟩;rw[hm] at o;simp only[aS,hm];simpa using o
def iR (f:2<=B) {n} (h:n<B^k):(fK B n).length<=k:=by
 induction k generalizing n with
 |zero=>(have:n=0:=by simpa using h);subst this;simp[hQ]
 |succ k ih=>rcases cX n with rfl|e;simp[hQ];rw[po f e,aS];have:=ih (n:=n/B) (by rw[Nat.div_lt_iff_lt_mul om,<-eo];exact h);omega
def jy (e:2<=B) n:n<B^(fK B n).length:=by have:=t4 (eT e n);rwa[dm e] at this
def oD (e:2<=B) {n} (f:0<n):B^((fK B n).length-1)<=n:=by
 rcases cj n (B^((fK B n).length-1)) with h|h;have p:=iR e h;have o:0<(fK B n).length:=by rw[po e f];simp
 omega;exact h
def Jp (e:2<=B) {n}:fK B n=[]↔n=0:=by constructor;intro h;have:=dm e n;rw[h] at this;exact this.symm;rintro rfl;exact hQ B
def mF (e:2<=B) {n}:(fK B n).length=0↔n=0:=by rw[List.length_eq_zero_iff];exact Jp e
def mE (e:2<=B) {m n} (h:m<=n):(fK B m).length<=(fK B n).length:=iR e (em h (jy e n))
def mJ (e:2<=B) {m n} (h:(fK B m).length<(fK B n).length):m<n:=by
 have q:=jy e m;have f:0<n:=by rcases cX n with rfl|o;rw[hQ] at h;simp at h;exact o
 have p:=oD e f;have:=dJ (show 0<B by omega) (show(fK B m).length<=(fK B n).length-1 by omega);omega
def xK {l} (hl:Dl B l) (e:ln l=ln m) (hi:i<ln l) (hs:l.drop (i+1)=m.drop (i+1)) (o:l[i]<m[i]'om):val B l<val B m:=by
 rw[CE B l i,CE B m i,vr B l i hi,vr B m i om,hs,cq om,cq om];have f:=t4 (hl.take i);rw[aO,cq om] at f;have h:B^i*(l[i]+B*val B (m.drop (i+1)))+B^i<=B^i*(m[i]'om+B*val B (m.drop (i+1))):=by rw[<-Nat.mul_succ];exact eu _ om
 omega
def eZ B (l:List Nat) k:val B (l.take (k+1))=val B (l.take k)+B^k*(l[k]?.getD 0):=by by_cases hk:k<ln l;rw[Bv B l k hk,ae hk];rfl;rw[bX om,bX om,bi om];simp
def Bu (l:List Nat) k v (hk:k<ln l):(l.set k v).take (k+1)=l.take k++[v]:=by rw[bE (by simpa using hk),List.take_set_of_le (ai k)];simp
def p0 B (l:List Nat) k v (hk:k<ln l):val B ((l.set k v).take (k+1))=val B (l.take k)+B^k*v:=by rw[Bu l k v hk,lD,aO,cq om];simp[val]
def FB {a b l:List Nat} {c y:Nat} (hk:k<ln l) (hx:a[k]?.getD 0=x) (hy:b[k]?.getD 0=y) (h:val B (l.take k)+B^k*c=val B (a.take k)+val B (b.take k)): val B ((l.set k ((x+c+y) % B)).take (k+1))+B^(k+1)*((x+c+y)/B)=val B (a.take (k+1))+val B (b.take (k+1)):=by
 rw[p0 B l k _ hk,eZ,eZ,hx,hy,eo,gg];have:B^k*((x+c+y) % B)+B^k*(B*((x+c+y)/B))=B^k*x+B^k*c+B^k*y:=by rw[<-fa,qi,fa,fa]
 omega
def HQ {a b l:List Nat} {c y e:Nat} (hk:k<ln l) (hx:a[k]?.getD 0=x) (hy:b[k]?.getD 0=y) (f:d+c+y=x+B*e) (h':val B (l.take k)+val B (b.take k)=val B (a.take k)+B^k*c): val B ((l.set k d).take (k+1))+val B (b.take (k+1))=val B (a.take (k+1))+B^(k+1)*e:=by rw[p0 B l k _ hk,eZ,eZ,hx,hy,eo,gg];have:=congrArg (B^k* ·) f;simp only[fa] at this;omega
def oy {l} (h:i<ln l):l[i]?.getD 0=l[i]:=by rw[ae h];rfl
def H7 B l i v (hi:i<ln l):val B (l.set i v)+B^i*l[i]?.getD 0=val B l+B^i*v:=by rw[oy hi];exact Nh B l i v hi
def zy {b l:List Nat} {c R:Nat} (hj:i+k<ln l) (h:val B l+B^(i+k)*c=R+x*val B (b.take k)*B^i): val B (l.set (i+k) ((l[i+k]?.getD 0+x*b[k]?.getD 0+c) % B))+B^(i+(k+1))*((l[i+k]?.getD 0+x*b[k]?.getD 0+c)/B)=R+x*val B (b.take (k+1))*B^i:=by
 have q:=H7 B l (i+k) ((l[i+k]?.getD 0+x*b[k]?.getD 0+c) % B) hj;rw[eZ];generalize l[i+k]?.getD 0=u at*;generalize b[k]?.getD 0=y at*;generalize e:u+x*y+c=s at*;have o:B^(i+k)*(s % B)+B^(i+(k+1))*(s/B)=B^(i+k)*s:=by rw[show i+(k+1)=i+k+1 from rfl,eo,gg,<-fa,qi]
 have p:B^(i+k)*s=B^(i+k)*u+B^(i+k)*(x*y)+B^(i+k)*c:=by rw[<-e,fa,fa]
 have f:x*(val B (b.take k)+B^k*y)*B^i=x*val B (b.take k)*B^i+B^(i+k)*(x*y):=by rw[mw];grind
 omega
def Ei {a b l:List Nat} {c:Nat} (hj:i+ln b<ln l) (f:l[i+ln b]?.getD 0=0) (h:val B l+B^(i+ln b)*c=val B (a.take i)*val B b+(a[i]?.getD 0)*val B (b.take (ln b))*B^i): val B (l.set (i+ln b) c)=val B (a.take (i+1))*val B b:=by have e:=H7 B l (i+ln b) c hj;rw[f,Vn,fM] at e;rw[e,h,bP,eZ];grind
def kP {l} (hl:Dl B l) (e:ln l=ln m) (hk:0<k) (hkl:k<=ln l) (hs:l.drop k=m.drop k) (f:l[k-1]?.getD 0<m[k-1]?.getD 0):val B l<val B m:=by rw[ae om,ae om] at f;exact xK hl e (i:=k-1) om (by rw[show k-1+1=k from by omega];exact hs) f
def B3 {l} (f:ln l=ln m) (hk:0<k) (hkl:k<=ln l) (hs:l.drop k=m.drop k) (e:l[k-1]?.getD 0=m[k-1]?.getD 0):l.drop (k-1)=m.drop (k-1):=by rw[ae om,ae om] at e;simp only[ef] at e;rw[bh om,bh (l:=m) om,show k-1+1=k from by omega,hs,e]
def fB (l:List UInt8):Nat:=val 256 (l.reverse.map UInt8.toNat)
def kv (n:Nat):List UInt8:=((fK 256 n).map UInt8.ofNat).reverse
def FP (l:List UInt8):Dl 256 (l.map UInt8.toNat):=λd e=>by obtain⟨u,_,rfl⟩:=bD.1 e;exact UInt8.toNat_lt u
def xG {l} (h:Dl 256 l):(l.map UInt8.ofNat).map UInt8.toNat=l:=by
 rw[t9];conv=>rhs;rw[<-List.map_id l]
 apply iK;intro d e;have:=h d e;simp only[Function.comp,id];rw[UInt8.toNat_ofNat'];exact ji this
def uZ n:fB (kv n)=n:=by unfold fB kv;rw[List.reverse_reverse,xG (eT om n),dm om]
def qQ:kv 0=[]:=by unfold kv;rw[hQ];rfl
def rW l c:fB (l++[c])=256*fB l+c.toNat:=by unfold fB;rw[List.reverse_append];simp[val];omega
def qZ l m:fB (l++m)=256^(ln m)*fB l+fB m:=by unfold fB;rw[List.reverse_append,aV,lD];simp;omega
def XL l:fB l<256^(ln l):=by have:=t4 (FP l.reverse);simpa[fB] using this
def zF l:fB (0::l)=fB l:=by have:=qZ [0] l;simp only[List.singleton_append] at this;rw[this];simp[fB,val]
def zt {l:List UInt8} (h:l.head?≠some 0):kv (fB l)=l:=by
 unfold kv fB;rw[Jq om (FP _)];rw[t9];have:l.reverse.map (UInt8.ofNat∘UInt8.toNat)=l.reverse:=by (conv=>rhs;rw[<-List.map_id l.reverse]);(exact iK λu _=>by simp)
 rw[this,List.reverse_reverse]
 cases l with
 |nil=>left;rfl
 |cons c l=>right;simp at h;rw[List.reverse_cons,aV,ao,fe sp];simp;intro e;apply h;exact UInt8.toNat_inj.1 e
def XB {m n} (h:kv m=kv n):m=n:=by rw[<-uZ m,h,uZ]
def JL {n}:kv n=[]↔n=0:=⟨λh=>by have:=uZ n;rw[h] at this;exact this.symm,λh=>by rw[h,qQ]⟩
def l4 (l:List UInt8):List UInt8:=l.dropWhile (· ==0)
def G0 l:fB (l4 l)=fB l:=by
 induction l with
 |nil=>rfl
 |cons c l ih=>unfold l4 at ih⊢;rw[List.dropWhile_cons];split;rename_i h;(have:c=0:=by simpa using h);rw[ih,this,zF];rfl
def OG l:l4 l=kv (fB l):=by rw[<-G0,zt];unfold l4;intro h;have:=List.head?_dropWhile_not (p:=(· ==(0:UInt8))) l;rw[h] at this;simp at this
def Bl {n} (h:n<256^k):(kv n).length<=k:=by unfold kv;rw[List.length_reverse,bO];exact iR om h
def Bh (neg:Bool) (l:List UInt8):Int:=if neg then-(fB l:Int) else fB l
def xa neg l:(Bh neg l).natAbs=fB l:=by unfold Bh;split<;>simp
def Sm (k:Nat) (z:Int):Prop:=z.natAbs<2^k
def Sm.mono (h:Sm j z) (e:j<=k):Sm k z:=dh h (dJ om e)
def Sm.neg (h:Sm k z):Sm k (-z):=by unfold Sm at*;rwa[Int.natAbs_neg]
def Sm.mul (h:Sm j y) (h':Sm k z):Sm (j+k) (y*z):=by unfold Sm at*;rw[sU,mw];exact Nat.mul_lt_mul'' h h'
def Sm.add (h:Sm k y) (h':Sm k z):Sm (k+1) (y+z):=by unfold Sm at*;rw[eo];omega
def Sm.sub (h:Sm k y) (h':Sm k z):Sm (k+1) (y-z):=by unfold Sm at*;rw[eo];omega
def Sm.of_le (h:Sm k y) (h':z.natAbs<=y.natAbs):Sm k z:=em h' h
def Sm.int {n} (h1: -9223372036854775808<=n) (h2:n<=9223372036854775807):Sm 64 n:=by unfold Sm;have:(2:Nat)^64=18446744073709551616:=dc;omega
def Sm.ofBytes {neg l} (h:ln l<=k):Sm (8*k) (Bh neg l):=by unfold Sm;rw[xa,pa];exact dh (XL l) (dJ om h)
def R4 (e:0<B) {l} (h:Dl B l) j:l[j]?.getD 0=val B l/B^j % B:=by
 induction l generalizing j with
 |nil=>simp[val]
 |cons d l ih=>
  cases j with
  |zero=>simp[fV,ji h.head]
  |succ j=>have:=ih h.tail j;simp only[a8T,this,fV];rw[eo,eI (B^j) B,<-Nat.div_div_eq_div_mul,Nat.add_mul_div_left _ _ e,Nat.div_eq_of_lt h.head,aN]
def Oc {l} (h:Dl 4294967296 l) {Y} (hv:val 4294967296 l=256^(k+1)*Y): ∃t,l[k/4]?.getD 0=2^(8*(k % 4)+8)*t:=by
 rw[R4 om h,hv];have f:256^(k+1)=4294967296^(k/4)*2^(8*(k % 4)+8):=by have o:(256:Nat)=2^8:=dc;have e:(4294967296:Nat)=2^32:=dc;rw[o,e,<-pa,<-pa,<-mw];congr 1;omega
 have p:4294967296=2^(8*(k % 4)+8)*2^(24-8*(k % 4)):=by rw[<-mw];have:8*(k % 4)+8+(24-8*(k % 4))=32:=om;rw[this]
 rw[f,gg,Nat.mul_div_cancel_left _ (AW om)];refine⟨Y % 2^(24-8*(k % 4)),?_⟩;conv=>lhs;rw[p]
 exact Nat.mul_mod_mul_left _ _ _
def a2G {t s b} (hx:x=2^(s+8)*t) (hb:b<256):x|||(b*2^s)=x+b*2^s:=by
 have h:b*2^s<2^(s+8):=by rw[fu,mw];exact ry hb (AW om)
 have e:x=t<<<(s+8):=by rw[Nat.shiftLeft_eq,hx,eI]
 rw[e,Nat.shiftLeft_add_eq_or_of_lt h]
def PY {l m} (hl:Dl 4294967296 l) (hi:i<ln m) (e:(ln m-1-i)/4<ln l)
  (h:val 4294967296 l=256^(ln m-i)*fB (m.take i)):
  let k:=ln m-1-i
  let v:=(l[k/4]?.getD 0)|||(m[i].toNat*2^(8*(k % 4)))
  v<4294967296/\val 4294967296 (l.set (k/4) v)=256^(ln m-(i+1))*fB (m.take (i+1)):=by
 intro k v
 have F:ln m-i=k+1:=om
 have p:ln m-(i+1)=k:=om
 rw[F] at h
 obtain⟨t,s⟩:=Oc hl h
 have u:m[i].toNat<256:=UInt8.toNat_lt _
 have o:v=l[k/4]?.getD 0+m[i].toNat*2^(8*(k % 4)):=a2G s u
 have r:v<4294967296:=by rw[o];have q:=hl.getD om (k/4);rw[ao] at q;rw[s] at q⊢;(have A:4294967296=2^(8*(k % 4)+8)*2^(24-8*(k % 4)):=by rw[<-mw];have:8*(k % 4)+8+(24-8*(k % 4))=32:=om;rw[this]);(have f:t<2^(24-8*(k % 4)):=by rcases cj t (2^(24-8*(k % 4))) with f|f;exact f;have:=eu (2^(8*(k % 4)+8)) f;omega);(have G:2^(8*(k % 4)+8)*(t+1)<=4294967296:=by (conv=>rhs;rw[A]);exact eu _ f);(have J:m[i].toNat*2^(8*(k % 4))<2^(8*(k % 4)+8):=by rw[fu,mw];exact ry u (AW om));rw[fa] at G;omega
 refine⟨r,?_⟩
 have q:=Nh 4294967296 l (k/4) v e
 have f:l[k/4]?.getD 0=l[k/4]:=by rw[ae e];rfl
 rw[p,bE hi,rW]
 rw[f] at o
 have I:4294967296^(k/4)*v=4294967296^(k/4)*l[k/4]+4294967296^(k/4)*(m[i].toNat*2^(8*(k % 4))):=by rw[o,fa]
 have H:4294967296^(k/4)*(m[i].toNat*2^(8*(k % 4)))=256^k*m[i].toNat:=by have D:(256:Nat)=2^8:=dc;have E:(4294967296:Nat)=2^32:=dc;rw[D,E,<-pa,<-pa,eI m[i].toNat,<-gg,<-mw];have:32*(k/4)+8*(k % 4)=8*k:=om;rw[this]
 have L:256^(k+1)*fB (m.take i)=256^k*(256*fB (m.take i)):=by rw[eo,gg]
 rw[fa]
 omega
def Nv {l m n b} (hl:Dl 4294967296 l) (o:ln m=n) (hi:m[i]? =some b) (e:(n-1-i)/4<ln l) (h:val 4294967296 l=256^(n-i)*fB (m.take i)): (l[(n-1-i)/4]?.getD 0)|||(b.toNat*2^(8*((n-1-i) % 4)))<4294967296/\ val 4294967296 (l.set ((n-1-i)/4) ((l[(n-1-i)/4]?.getD 0)|||(b.toNat*2^(8*((n-1-i) % 4)))))=256^(n-(i+1))*fB (m.take (i+1)):=by subst o;obtain⟨f,rfl⟩:=aw.1 hi;exact PY hl f e h
def b4 (x:Nat):List UInt8:=[UInt8.ofNat (x/16777216),UInt8.ofNat (x/65536),UInt8.ofNat (x/256),UInt8.ofNat x]
def BJ x:(b4 x).length=4:=rfl
def a0C (hx:x<4294967296):fB (b4 x)=x:=by simp[fB,b4,val];omega
def JN l (h:Dl 4294967296 l):fB (l.reverse.flatMap b4)=val 4294967296 l:=by
 induction l with
 |nil=>rfl
 |cons d l ih=>rw[List.reverse_cons,dG,qZ,ih h.tail];simp only[aL,bF,bk,BJ,a0C h.head,fV];omega
def wg m k (hk:k<ln m):fB (m.drop k)=256^(ln m-k-1)*m[k].toNat+fB (m.drop (k+1)):=by rw[bh hk];have h:=qZ [m[k]] (m.drop (k+1));simp only[List.singleton_append,bN] at h;rw[h,show (ln m)-(k+1)=ln m-k-1 from by omega];simp[fB,val]
def rt B l d:val B (l++[d])=val B l+B^(ln l)*d:=by rw[lD];simp[val]
def nZ j:256^(2*j)=65536^j:=by rw[pa]
def yS {m l n x y} (o:ln m=n) (hl:ln l=j) (hj:2*j+2<=n) (hx:m[n-2*j-1]? =some x) (hy:m[n-2*j-2]? =some y) (h:val 65536 l=fB (m.drop (n-2*j))):val 65536 (l++[x.toNat+256*y.toNat])=fB (m.drop (n-2*(j+1))):=by
 subst o;obtain⟨q,rfl⟩:=aw.1 hx;obtain⟨p,rfl⟩:=aw.1 hy;rw[rt,h,hl];have e:=wg m (ln m-2*j-1) om;have f:=wg m (ln m-2*j-2) om;rw[show (ln m)-2*j-1+1=ln m-2*j from by omega,show (ln m)-(ln m-2*j-1)-1=2*j from by omega,nZ] at e;rw[show (ln m)-2*j-2+1=ln m-2*j-1 from by omega,show (ln m)-(ln m-2*j-2)-1=2*j+1 from by omega,eo,nZ] at f;rw[show (ln m)-2*(j+1)=ln m-2*j-2 from by omega,f,e,fa];have:65536^j*(256*m[ln m-2*j-2].toNat)=65536^j*256*m[ln m-2*j-2].toNat:=by rw[gg]
 omega
def yR {m l n x} (f:ln m=n) (hl:ln l=j) (hj:2*j+1=n) (hx:m[0]? =some x) (h:val 65536 l=fB (m.drop (n-2*j))):val 65536 (l++[x.toNat])=fB (m.drop (n-2*(j+1))):=by subst f;obtain⟨o,rfl⟩:=aw.1 hx;rw[rt,h,hl];have e:=wg m 0 om;rw[show (ln m)-0-1=2*j from by omega,nZ] at e;rw[show (ln m)-2*(j+1)=0 from by omega,show (ln m)-2*j=0+1 from by omega,e];omega
end
section
def WB:Nat:=4294967296
def iO:WB=4294967296:=rfl
def eJ:2<=WB:=by rw[iO];omega
def jl:0<WB:=by rw[iO];omega
def Wd (q:IntKind) (w:World) (B:Nat) (A:Option Addr) (l:List Nat):Prop:=0<ln l-> ∃d,A=some d/\d.block<B/\ ∀i,i<ln l->w.cell? (d.add i)=some (.int q ((l[i]?.getD 0:Nat):Int))
def Ow (q:IntKind) (w:World) (g:Nat) (t:TypeId) (l:List Nat):Prop:=w.heap[g]? =some (.cells (l.map λd:Nat=>Value.int q (d:Int)).toArray t (0,0))
def Ip (a:Addr) n:(a.add n).block=a.block:=by unfold Addr.add;split<;>rfl
section
variable {q:IntKind} {w w':World} {B B' g:Nat} {A:Option Addr} {l:List Nat} {t:TypeId}
def Wd.nil q w B A:Wd q w B A []:=λh=>by simp at h
def Wd.get {k} (h:Wd q w B A l) (hk:k<ln l): ∃ad,A=some ad/\w.cell? (ad.add k)=some (.int q ((l[k]?.getD 0:Nat):Int)):=by obtain⟨ad,e,_,d⟩:=h om;exact⟨ad,e,d k hk⟩
def Wd.keep (h:Wd q w B A l) (m:B<=B') (hk: ∀p:Addr,p.block<B->w'.cell? p=w.cell? p):Wd q w' B' A l:=λg=>by obtain⟨f,e,d,k⟩:=h g;exact⟨f,e,om,λi j=>(hk _ (by rw[Ip];exact d)).trans (k i j)⟩
def Wd.more (h:Wd q w B A l) (d:B<=B'):Wd q w B' A l:=h.keep d λ_ _=>rfl
def Wd.below (h:Wd q w B A l) (hb:Below B w w'):Wd q w' B A l:=h.keep (ai _) λ_ d=>hb.cell d
def Wd.take (h:Wd q w B A l) k:Wd q w B A (l.take k):=λg=>by rw[aO] at g;obtain⟨f,e,d,m⟩:=h om;refine⟨f,e,d,λi j=> ?_⟩;rw[aO] at j;rw[m i om,gb,if_pos om]
def Ow.lt (h:Ow q w g t l):g<w.heap.size:=by rcases cj g w.heap.size with e|d;exact e;unfold Ow at h;rw[Array.getElem?_eq_none d] at h;cases h
def Ow.cell (h:Ow q w g t l) i (hi:i<ln l):w.cell? ⟨g,i,none⟩=some (.int q ((l[i]?.getD 0:Nat):Int)):=by rw[cell_of_row w g i _ t (0,0) h];simp[ae hi]
def Ow.free (h:Ow q w g t l) i:w.frozen? ⟨g,i,none⟩=false:=frozen_of_row w g i _ t h
def Ow.drew (h:Ow q w g t l):Ow q w.drew g t l:=h
def Ow.set (h:Ow q w g t l) (i v:Nat):Ow q (w.setCell ⟨g,i,none⟩ (.int q (v:Int))) g t (l.set i v):=by unfold Ow at h⊢;rw[heap_setCell_same w g i _ t _ h];simp[List.map_set]
def Ow.wd (h:Ow q w g t l) (e:g<B):Wd q w B (some ⟨g,0,none⟩) l:=λ_=>by
 refine⟨_,rfl,e,λi d=> ?_⟩;have:(Addr.add ⟨g,0,none⟩ i)=⟨g,i,none⟩:=by unfold Addr.add;split<;>simp_all
 rw[this,h.cell i d]
def Ow.new (w:World) q t n:Ow q (w.alloc (.cells (madeCells #[.int q 0] n) t)) w.heap.size t (au n 0):=by
 unfold Ow;rw[heap_alloc_new];have:madeCells #[.int q 0] n=(List.map (λd:Nat=>Value.int q (d:Int)) (au n 0)).toArray:=by apply Array.ext';rw[toList_madeCells_one];simp
 rw[this]
end
def kK {P:Program} {q:IntKind} (t e:TypeId) (g:P.underlying t=some (.slice e)) (hi:(P.info? e).map (λi=>(i.zero,i.size,i.bytes))=some (some (.int q 0),1,8)) (z:Int) (n:Nat) (j:z=n) (p:n<=1099511627776) (w:World): (Instr.makeSlice t (.int .i64 z) (.int .i64 z)).run P w= .ok (.slice (some ⟨w.heap.size,0,none⟩) n n) (w.alloc (.cells (madeCells #[.int q 0] n) e)):=by obtain⟨m,d,o,h,k⟩:=info_parts hi;subst j;have f:=run_make (P:=P) w t e m (.int q 0) g d o .i64 .i64 n n om (sT _) (by rw[k];omega) om;simp only[bW] at f;rw[f,h,gE];rfl
def mT (z:Int) (n:Nat) (d:z=n) (e:n<18446744073709551616):bits .and .u64 z 4294967295=((n % WB:Nat):Int):=by subst d;rw[show(4294967295:Int)=((4294967295:Nat):Int) from rfl,u64_and_nat n _ e om,nat_mask32,iO]
def qE (z:Int) (n:Nat) (d:z=n):z/4294967296=((n/WB:Nat):Int):=by subst d;rw[iO];omega
def EK {P:Program} {q:IntKind} (t e:TypeId) (h:P.underlying t=some (.slice e)) (d:Nat) (hb:d<=8) (hi:(P.info? e).map (λi=>(i.zero,i.size,i.bytes))=some (some (.int q 0),1,d)) (z:Int) (n:Nat) (k:z=n) (r:n<=1099511627776) (w:World): (Instr.makeSlice t (.int .i64 0) (.int .i64 z)).run P w= .ok (.slice (some ⟨w.heap.size,0,none⟩) 0 n) (w.alloc (.cells (madeCells #[.int q 0] n) e)):=by obtain⟨o,f,p,j,m⟩:=info_parts hi;subst k;have s:(d:Int)*n<=8*n:=nO om om;have g:=run_make (P:=P) w t e o (.int q 0) h f p .i64 .i64 0 n om om (by rw[m];omega) om;simp only[bW] at g;rw[g,j,gE];rfl
def Dk (w:World) (cs:Array Value) t: ∀j u,cs.toList[j]? =some u->(w.alloc (.cells cs t)).cell? ((⟨w.heap.size,0,none⟩:Addr).add j)=some u:=by
 intro j u d;have:(Addr.add ⟨w.heap.size,0,none⟩ j)=⟨w.heap.size,j,none⟩:=by unfold Addr.add;split<;>simp_all
 rw[this,World.cell?_alloc_at _ _ _ _ rfl];simpa using d
def bel {W d} (hb:Below W.heap.size W d):(∀b o,b<W.heap.size->d.cell? ⟨b,o,none⟩=W.cell? ⟨b,o,none⟩)/\(∀b o,b<W.heap.size->d.frozen? ⟨b,o,none⟩=W.frozen? ⟨b,o,none⟩):=⟨λb o h=>hb.cell (p:=⟨b,o,none⟩) h,λb o h=>hb.frozen (p:=⟨b,o,none⟩) h⟩
def iF {a b} (h:a=b):Ending.returned a= .returned b:=by rw[h]
end
section
variable {W w1:World} {p:Addr}
def ar {v} (hb:Below W.heap.size W w1) (h:W.cell? p=some v):w1.cell? p=some v:=(hb.cell (AX W p h)).trans h
def bz {v} (hb:Below W.heap.size W w1) (h:W.cell? p=some v) (d:W.frozen? p=false):w1.frozen? p=false:=(hb.frozen (AX W p h)).trans d
def lZ {q A l} (hb:Below W.heap.size W w1) (h:Wd q W W.heap.size A l):Wd q w1 w1.heap.size A l:=(h.below hb).more hb.size
def de {N w} (hb:Below W.heap.size W w1) (h:Below N w W) (d:N<=W.heap.size):Below N w w1:=h.trans (hb.mono d)
def eQ {q u v} (h:W.cell? p=some v) (d:q.block≠p.block):(W.setCell q u).cell? p=some v:=by rw[World.cell?_setCell_far _ _ _ _ d];exact h
def dB {g:Nat} {o:Obj} (hb:Below W.heap.size W w1) (h:W.heap[g]? =some o):w1.heap[g]? =some o:=(hb.block g (aE.1 h).1).trans h
end
section
open Go.RowKit Go.Shelf
attribute [local go_sem] Oper.semAt_some
variable {α:Type} {n₀ Bs:Nat}
def sA (f:Nat->α) (k:Nat):List α:=(List.range k).map f
def CD (f:Nat->α) k:sA f (k+1)=sA f k++[f k]:=by simp[sA,PG]
def H6 (f:Nat->α) k:(sA f k).length=k:=by simp[sA]
def mV (l:List Nat) (j:Nat):Nat×Nat:=(ln l-1-j,l[ln l-1-j]?.getD 0)
def Vl (n₀ Bs:Nat) (W d:World):Prop:=Below n₀ W d/\d.heap[Bs]? =W.heap[Bs]?
def Vl.refl n₀ Bs W:Vl n₀ Bs W W:=⟨Below.refl _ _,rfl⟩
def Vl.trans {A B C} (h:Vl n₀ Bs A B) (k:Vl n₀ Bs B C):Vl n₀ Bs A C:=⟨h.1.trans k.1,k.2.trans h.2⟩
def Vl.box {W d} (h:Vl n₀ Bs W d) i:d.cell? ⟨Bs,i,none⟩=W.cell? ⟨Bs,i,none⟩:=Nu (w:=W) h.2
def Xq {w:World} (g:n₀<=w.heap.size) (hb:Bs<w.heap.size) (W:World) l (o d:Obj) (hl:w.heap.size<=l) (h:W.heap[l]? =some o) (f:o.isCells=false) (e:o.isWalk=false):Vl n₀ Bs W (W.putObj l d):=⟨belowK_b g W l o d hl h f e,World.putObj_heap_other om⟩
def Qh (F:Fence) (n:Nat) (h8:F.fn 138) (hro:F.round=none) (hn:1<=n) (l Bs n₀ len cap:Nat) (A:Option Addr) (zs:List Nat) (hlen:ln zs=len) (hreach:len<=1000000000)
  (J Jx:List (Nat×Nat)->World->Prop)
  (hY: ∀pre x W,J pre W->ln pre<len->YieldAt F (n-1) prog l #[.int .i64 (x.1:Int),.int .u64 (x.2:Int)] W λe W'=>
   (e= .returned (.bool true)/\J (pre++[x]) W'/\Vl n₀ Bs W W')\/(e= .returned (.bool false)/\Jx (pre++[x]) W'))
  (W:World) (hBs:W.cell? ⟨Bs,0,none⟩=some (.slice A len cap)) (hc:Wd .u64 W n₀ A zs) (h0:J [] W):
  CallsIn F n prog 138 #[.func (.yield l) #[] #[],.pointer (some ⟨Bs,0,none⟩)] W λe W'=>(∃v,e= .returned v)/\
   ((∃ys,ys=sA (mV zs) len/\J ys W')\/(∃pre,(∃k,k<=len/\pre=sA (mV zs) k)/\Jx pre W')):=by
 have HC:=am hc
 have HLEN:=am hlen
 clear hc hlen
 refine callsIn_of_wp func138 rfl h8 ?_ hro
 simp only[ntmps138,gC,aS,List.length_nil,Nat.reduceAdd,Nat.reduceSub,sP,No,a6c,Va,ge,cK]
 gi_wp2
 gi_loopw [3] (λi wr=> ∃k:Nat,k<=len/\i= .int .i64 ((len:Int)-1-k)/\J (sA (mV zs) k) wr/\Vl n₀ Bs W wr)
  (λi _=>(intOf i+1).toNat)
 case atStart=>exact⟨0,ah _,by go_num,h0,Vl.refl _ _ _⟩
 case round=>
  obtain⟨k,hk,rfl,hJs,hnx⟩:=hrel
  have hbs:=(hnx.box 0).trans hBs
  by_cases hlt:k<len
  ·have HE:Hid (mV zs k=(len-1-k,zs[len-1-k]?.getD 0)):=by unfold mV;rw[HLEN.out];rfl
   have hidx:((len:Int)-1-(k:Int))=((len-1-k:Nat):Int):=om
   obtain⟨ad,rfl,hcx⟩:=(HC.out.below hnx.1).get (k:=len-1-k) (by have:=HLEN.out;omega)
   obtain⟨fn,tmps,assign,body,hy,hR⟩:=hY _ (len-1-k,zs[len-1-k]?.getD 0) wr hJs (by rw[H6];exact hlt)
   dsimp only at hy
   rw[<-hidx] at hy
   clear hidx
   gi_wp2
   apply hR.mono
   rintro e W3 (⟨rfl,hJ3,hk3⟩|⟨rfl,hJx3⟩)
   ·gi_wp2
    go_roundw
    case rel=>exact⟨k+1,om,by go_num,by rw[CD,HE.out];exact hJ3,hnx.trans hk3⟩
    case measure=>simp[intOf];omega
   ·gi_wp2
    refine bodyPost_ret (results_none rfl _ _ _) rfl ?_
    exact⟨⟨_,rfl⟩,.inr ⟨_,⟨k+1,om,by rw[CD,HE.out]⟩,hJx3⟩⟩
  ·obtain rfl:k=len:=om
   gi_wp2
   go_end0
   exact⟨⟨_,rfl⟩,.inl ⟨_,rfl,hJs⟩⟩
def VD F n (h6:F.fn 118) (hro:F.round=none) a len cap w: CallsIn F n prog 118 #[.slice a len cap] w λe w'=>e= .returned (.func (.func 138) #[] #[.pointer (some ⟨w.heap.size,0,none⟩)])/\w'=w.alloc (.cells #[.slice a len cap] 145):=by
 refine callsIn_of_wp func118 rfl h6 ?_ hro;simp only[ntmps118,gC,aS,List.length_nil,Nat.reduceAdd,Nat.reduceSub,sP,No,a6c,Va,ge,cK];gi_wp2
 go_ret
 exact⟨rfl,rfl⟩
def It (F:Fence) (n:Nat) (q:F.fn 138) (hro:F.round=none) (r:1<=n) (Bs n₀ len cap:Nat) (A:Option Addr) (zs:List Nat) (f:ln zs=len) (d:len<=1000000000) (w:World) (g:Bs<w.heap.size) (e:n₀<=w.heap.size) (s:w.cell? ⟨Bs,0,none⟩=some (.slice A len cap)) (i:Wd .u64 w n₀ A zs): SeqStopsK F n prog 138 #[.pointer (some ⟨Bs,0,none⟩)] (λx:Nat×Nat=> #[Value.int .i64 (x.1:Int),Value.int .u64 (x.2:Int)]) (Vl n₀ Bs) (λys=>ys=sA (mV zs) len) (λpre=> ∃k,k<=len/\pre=sA (mV zs) k) len w:=λl J j W h _ _ o m=>by have u:=h.mono e;exact Qh F n q hro r l Bs n₀ len cap A zs f d J j o W ((h.cell (p:=⟨Bs,0,none⟩) g).trans s) (i.below u) m
def NG zs k (hk:ln zs=k):(sA (mV zs) k).map (·.2)=zs.reverse:=by
 subst hk
 apply jg
 ·simp[sA]
 ·intro i d e
  simp[sA] at d
  simp[sA,mV,List.getElem_reverse]
  rw[ae om];rfl
def Iu {d:Type} (g:UInt8->d) (zs:List Nat) (k:Nat) (hk:ln zs=k):(sA (mV zs) k).flatMap (λx=>(b4 x.2).map g)=(zs.reverse.flatMap b4).map g:=by rw[<-NG zs k hk,List.map_flatMap,List.flatMap_map]
end
def v9 {l c} (h:c=0):l4 (c::l)=l4 l:=by subst h;rfl
def zq {l c} (h:c≠0):l4 (c::l)=c::l:=by unfold l4;rw[List.dropWhile_cons,if_neg (by simpa using h)]
def IH (t:ByteArray) (h:0<t.size):t.data.toList=t[0]::(t.extract 1 t.size).data.toList:=by
 rw[Lib.extract_to_end];have d:0<ln t.data.toList:=by rw[dg];exact h
 conv=>lhs;rw[<-it (l:=t.data.toList),bh d]
 rfl
def Fd (s:ByteArray) w (hs:s.size<=1000000000000): Calls prog 139 #[.string s,.int .u8 0] w λe w'=>e= .returned (.string ⟨(l4 s.data.toList).toArray⟩)/\w=w':=by
 go_enter func139, ntmps139
 go_wp2
 go_loop [0] (λv=> ∃t:ByteArray,v= .string t/\t.size<=s.size/\Hid (l4 t.data.toList=l4 s.data.toList)) (λv=>match v with| .string t=>t.size|_=>0)
 case atStart=>exact⟨s,rfl,ai _,rfl⟩
 case round=>
  obtain⟨t,rfl,hts,HT⟩:=hrel
  by_cases h0:0<t.size
  ·have hd:=IH t h0
   have HD:=am hd
   clear hd
   by_cases hc:((t[0].toNat:Nat):Int)=0
   ·go_wp2
    go_round
    case rel=>
     refine⟨_,rfl,by rw[ByteArray.size_extract];omega,?_⟩
     have h:=HT.out
     rw[HD.out,v9 (UInt8.toNat_inj.1 (by simpa using hc))] at h
     exact h
    case measure=>show(t.extract 1 t.size).size<t.size;rw[ByteArray.size_extract];omega
   ·go_wp2
    go_ret
    refine⟨iF ?_,rfl⟩
    rw[<-HT.out,HD.out,zq (λh=>hc (by rw[h];rfl)),<-HD.out]
    rfl
  ·go_wp2
   go_ret
   refine⟨iF ?_,rfl⟩
   have ht:t.data.toList=[]:=aU (by rw[dg];show t.size=0;omega)
   rw[<-HT.out,ht]
   show Value.string t=_
   congr 1
   apply ByteArray.ext
   apply Array.ext'
   rw[ht];rfl
def Fe s w (hs:s.size<=1000000000000): Calls prog 119 #[.string s,.string ⟨#[0]⟩] w λe w'=>e= .returned (.string ⟨(l4 s.data.toList).toArray⟩)/\w=w':=by
 by_cases h0:s.data.toList=[]
 ·have h1:s.toList.isEmpty=true:=by rw[ByteArray.toList_eq,h0];rfl
  go_enter func119, ntmps119
  go_wp2
  go_ret
  refine⟨iF ?_,rfl⟩
  show Value.string s=_
  congr 1
  apply ByteArray.ext
  apply Array.ext'
  rw[h0];rfl
 ·have h1:s.toList.isEmpty=false:=by rw[ByteArray.toList_eq];simpa using h0
  go_enter func119, ntmps119
  go_wp2_with (go_at_call 139;refine(Fd s _ hs).mono ?_;rintro e w' ⟨rfl,rfl⟩)
  go_ret
  exact⟨rfl,rfl⟩
def rf l A n c B w (hn:ln l=n) (hnc:n<=c) (hc:c<=9223372036854775807) (h:Wd .u64 w B A l): Calls prog 117 #[.slice A n c] w λe w'=>e= .returned (.slice A (fT l) c)/\w=w':=by
 have H:=am h
 clear h
 go_enter func117, ntmps117
 go_wp2
 go_loop [0] (λa=> ∃k:Nat,k<=n/\a= .slice A k c/\ ∀j,k<=j->l[j]?.getD 0=0) (λa=>match a with| .slice _ k _=>k|_=>0)
 case atStart=>exact⟨n,ai _,rfl,λj hj=>by rw[bi om];rfl⟩
 case round=>
  obtain⟨k,hk,rfl,hz⟩:=hrel
  have HZ:=am hz
  clear hz
  by_cases hk0:k=0
  ·subst hk0
   go_wp2
   go_ret
   exact⟨by rw[pU (k:=0) om (λj hj=>by rw[ao];exact HZ.out j hj) (Or.inl rfl)];rfl,rfl⟩
  ·obtain⟨ad,rfl,hcell⟩:=H.out.get (k:=k-1) om
   by_cases hx:l[k-1]?.getD 0=0
   ·go_wp2
    go_round
    case rel=>exact⟨k-1,om,rfl,λj hj=>by
     by_cases e:j=k-1
     ·rw[e];exact hx
     ·exact HZ.out j om⟩
    case measure=>show k-1<k;omega
   ·go_wp2
    go_ret
    exact⟨by rw[pU (k:=k) om (λj hj=>by rw[ao];exact HZ.out j hj) (Or.inr (by rw[ao];exact hx))];rfl,rfl⟩
section
open Go.RowKit Go.Shelf
attribute [local go_sem] Oper.semAt_some
def wv (neg:Bool) (n:Nat):Value:= .agg #[.bool neg,.string ⟨(kv n).toArray⟩]
def VC (x:Nat):(b4 x).map (λb=>Value.int .u8 (b.toNat:Int))=[.int .u8 (IntKind.u8.wrap ((x:Int)/16777216)),.int .u8 (IntKind.u8.wrap ((x:Int)/65536)),.int .u8 (IntKind.u8.wrap ((x:Int)/256)),.int .u8 (IntKind.u8.wrap (x:Int))]:=by simp only[b4,aI,dj,IntKind.wrap_u8,UInt8.toNat_ofNat'];simp
def rj {P:Program} (w:World) src d e base n v (l:List UInt8) (hs:P.underlying src=some (.slice e)) (m:P.underlying e=some (.int .u8)) (o:P.underlying d=some .string) (h:w.ownsRow base e 1 v n (l.map λb=>Value.int .u8 (b.toNat:Int))):(convert src d v).run P w= .ok (.string ⟨l.toArray⟩) w:=by
 have f:=h.1
 rw[bO] at f
 rcases h.2 with⟨rfl,A⟩|⟨g,k,s,rfl,_,z,u,p,y,i⟩
 ·have:l=[]:=aU om
  subst this
  rw[run_convert_bytes_string w src d e none 0 0 hs m o]
  simp[Conv.bytesToString]
  rfl
 ·have r:n=ln l:=om
  subst r
  exact run_convert_bytes_back w src d e ⟨g,0,none⟩ k l hs m o (λj x=>by
   have q:(Addr.add ⟨g,0,none⟩ j)=⟨g,j,none⟩:=by unfold Addr.add;split<;>simp_all
   rw[q,h.cellAt j om]
   simp[x])
def D9:(prog.info? 5).map (λi=>(i.zero,i.size,i.bytes))=some (some (.int .u8 0),1,1):=kr
def ME {W:World} {g D:Nat} {t:TypeId} {a b:Value} {o:Obj} (x y:Value) (h:W.heap[g]? =some (.cells #[a,b] t (0,0))) (f:D≠g): (((W.setCell ⟨g,0,none⟩ x).setCell ⟨g,1,none⟩ y).putObj D o).heap[g]? =some (.cells #[x,y] t (0,0)):=by rw[World.putObj_heap_other om];have e:=heap_setCell_same W g 0 _ t x h;have d:=heap_setCell_same _ g 1 _ t y e;simpa using d
def GX n:(!(kv n).isEmpty)=decide (n≠0):=by
 rcases cX n with h|h
 ·subst h;rw[qQ];rfl
 ·have:kv n≠[]:=λe=>by rw[JL] at e;omega
  have d:(kv n).isEmpty=false:=by simpa using this
  rw[d]
  simp;omega
def Nm (n:Nat) (hn:5<=n) (f:List Nat) (A:Option Addr) (O i:Nat) (neg:Bool) (w:World) (da:Dl WB f) (ha:Wd .u64 w w.heap.size A f) (R:ln f=O) (e2:O<=1000000000) (b7:O<=i) (d0:i<=9223372036854775807): CallsIn Fence.wide n prog 88 #[.slice A O i,.bool neg] w λe w'=>e= .returned (wv (neg&&decide (val WB f≠0)) (val WB f))/\Below w.heap.size w w':=by
 have h1:1<=n:=om
 obtain⟨i0,hi,c1,b2,b6⟩:=info_parts D9
 have HA:=am ha
 have Q:=am R
 have a8:=jE eJ da
 have c7:=iI f
 have a5:=am a8
 have c6:fT f<=O:=om
 clear ha R a8 c7
 refine callsIn_of_wp_marks func88 rfl trivial ?_ rfl
 simp only[ntmps88,gC,aS,List.length_nil,Nat.reduceAdd,Nat.reduceSub,sP,No,a6c,Va,ge,cK]
 have c5:=EK (P:= prog) 150 5 underlying150 1 om D9 (4*(fT f:Int)) (4*fT f) om om
 gi_wp2_with (first
  |(refine⟨trivial,?_⟩;gi_at_call 117;refine(callsIn_wide.2 (rf f A O i w.heap.size _ Q.out b7 om (HA.out.keep (ai _) (λp hp=>World.cell?_alloc_lt _ _ _ om)))).mono ?_;rintro e w' ⟨rfl,rfl⟩)
  |(refine⟨trivial,?_⟩;gi_at_call 118;refine(VD Fence.wide _ trivial rfl A (fT f) i _).mono ?_;rintro e w' ⟨rfl,rfl⟩))
 clear c5
 obtain⟨zs,hzs⟩: ∃zs,zs=f.take (fT f):=⟨_,rfl⟩
 have a9:ln zs=fT f:=by rw[hzs,aO];have:=Q.out;omega
 have Y:zs=fK WB (val WB f):=by rw[hzs];exact a5.out
 have L:Wd .u64 w w.heap.size A zs:=by rw[hzs];exact HA.out.take _
 have a7:Dl WB zs:=by rw[hzs];exact da.take _
 have G:=am a9
 have c0:=am Y
 have Z:=am L
 have c2:=am a7
 clear hzs a9 Y L a7 a5 HA Q
 obtain⟨k,hk⟩: ∃k,fT f=k:=⟨_,rfl⟩
 rw[hk] at G c6⊢
 clear hk
 obtain⟨q,hw1⟩: ∃q,q=w.alloc (Obj.cells #[.bool false,.string ⟨#[]⟩] 61):=⟨_,rfl⟩
 rw[<-hw1]
 obtain⟨o,hw4⟩: ∃o,o=((q.alloc (Obj.cells (madeCells #[Value.int .u8 0] (4*k)) 5)).alloc (Obj.cells #[Value.slice (some ⟨w.heap.size+1,0,none⟩) 0 (4*k)] 150)).alloc (Obj.cells #[Value.slice A k i] 145):=⟨_,rfl⟩
 have m:q.heap.size=w.heap.size+1:=by rw[hw1];simp
 have b3:o.heap.size=w.heap.size+4:=by rw[hw4];simp[m]
 have F:Below q.heap.size q o:=by rw[hw4];exact(((Below.refl _ _).alloc (ai _) _).alloc sp _).alloc su _
 have r:Below w.heap.size w o:=((Below.refl _ w).alloc (ai _) (Obj.cells #[.bool false,.string ⟨#[]⟩] 61)).trans (by rw[<-hw1];exact F.mono om)
 have bB:Boxed o (w.heap.size+2) 150 (.slice (some ⟨w.heap.size+1,0,none⟩) 0 (4*k)):=by have h:=(Boxed.new (q.alloc (Obj.cells (madeCells #[Value.int .u8 0] (4*k)) 5)) 150 (.slice (some ⟨w.heap.size+1,0,none⟩) 0 (4*k))).alloc (Obj.cells #[Value.slice A k i] 145);rw[<-hw4] at h;simpa[m] using h
 have bS:Boxed o (w.heap.size+3) 145 (.slice A k i):=by have h:=Boxed.new ((q.alloc (Obj.cells (madeCells #[Value.int .u8 0] (4*k)) 5)).alloc (Obj.cells #[Value.slice (some ⟨w.heap.size+1,0,none⟩) 0 (4*k)] 150)) 145 (.slice A k i);rw[<-hw4] at h;simpa[m] using h
 have u:o.ownsRow (w.heap.size+1) 5 1 (.slice (some ⟨w.heap.size+1,0,none⟩) 0 (4*k)) 0 []:=by have h0:q.heap.size=w.heap.size+1:=m;(have hm:(q.alloc (Obj.cells (madeCells #[Value.int .u8 0] (4*k)) 5)).heap[w.heap.size+1]? =some (.cells (madeCells #[Value.int .u8 0] (4*k)) 5 (0,0)):=by rw[<-m];exact heap_alloc_new q _);(have b5:o.heap[w.heap.size+1]? =some (.cells (madeCells #[Value.int .u8 0] (4*k)) 5 (0,0)):=by rw[hw4,Below.heap_alloc _ _ _ su,Below.heap_alloc _ _ _ su];exact hm);exact⟨rfl,.inr ⟨w.heap.size+1,4*k,_,rfl,ai _,b5,ah _,by unfold maxLen;omega,by simp[madeCells],rfl⟩⟩
 have M:o.heap[w.heap.size]? =some (.cells #[.bool false,.string ⟨#[]⟩] 61 (0,0)):=by rw[F.block w.heap.size om,hw1];exact heap_alloc_new w _
 have N:Wd .u64 o w.heap.size A zs:=Z.out.below r
 rw[<-hw4]
 have e0:=am hw1;have d8:=am hw4;have d4:=am m;have d7:=am b3
 clear hw1 hw4 m
 have d5:=am F;have a0:=am r;have BB:=am bB;have BS:=am bS;have c4:=am u;have j:=am M;have T:=am N
 clear F r bB bS u M N
 refine wpIn_rangeFunc_ownG rfl h1 (gf:= 138) (lb:= #[.pointer (some ⟨w.heap.size+3,0,none⟩)]) rfl trivial (enters_of func138 kr rfl)
  (It Fence.wide (n-1) trivial rfl om (w.heap.size+3) w.heap.size k i A zs G.out om o om om BS.out.cell T.out) Vl.trans (Xq om om) (Below.refl _ _) fr
  (λg W=>(∃v,Boxed W (w.heap.size+2) 150 v/\W.ownsRow (w.heap.size+1) 5 1 v (4*ln g) (g.flatMap λx=>(b4 x.2).map λb=>Value.int .u8 (b.toNat:Int))/\True)/\Boxed W (w.heap.size+3) 145 (.slice A k i)/\Below (w.heap.size+1) o W)
  (λ_ _ _=>False)
  (OwnFrom.and (Own.from (holdsRow_own (w.heap.size+1) (w.heap.size+2) 150 5 1 (λg:List (Nat×Nat)=>4*ln g) (λg=>g.flatMap λx=>(b4 x.2).map λb=>Value.int .u8 (b.toNat:Int)) (λ_ _=>True)) _) (OwnFrom.and (Own.from (boxed_own _ _ _) _) (ownFrom_below om om)))
  (λ_ _ _ _ _ hs _ _=>hs)
  ⟨⟨_,BB.out,c4.out,trivial⟩,BS.out,Below.refl _ _⟩
  (λx=>{tmps:= #[.slice A k i,.bool neg,undef,undef,.pointer (some ⟨w.heap.size,0,none⟩),.pointer (some ⟨w.heap.size+1+1,0,none⟩),undef,.int .u64 x.2,undef,.slice A O i,.slice A k i,.slice A k i,.int .i64 k,.int .i64 (4*(k:Int)),.slice (some ⟨w.heap.size+1,0,none⟩) 0 (4*k),.slice A k i,.func (.func 138) #[] #[.pointer (some ⟨w.heap.size+1+1+1,0,none⟩)],.int .i64 x.1,.int .u64 x.2,undef,undef,undef,undef,undef,undef,undef,undef,undef,undef,undef,undef,undef,undef,undef,undef,undef,undef,undef,undef,undef,undef,undef,undef],defers:=[]}) ?assign ?body ?done ?stop
 case assign=>
  intro l x W K V
  gi_wp2
  exact V
 case body=>
  rintro l g x W ⟨⟨v,hv,hrow,_⟩,hbs,hB⟩ hlt
  have hc:=hv.cell
  gi_wp2_with (gi_at_builtin;refine wpListIn_append_own _ rfl _ _ 150 rfl (w.heap.size+1) 5 i0 (.int .u8 0) 1 1 underlying150 hi c1 b2 b6 rfl dc _ _ _ rfl (hrow.alloc _) ⟨W.heap.size,0,none⟩ 4 4 [.int .u8 (IntKind.u8.wrap ((x.2:Int)/16777216)),.int .u8 (IntKind.u8.wrap ((x.2:Int)/65536)),.int .u8 (IntKind.u8.wrap ((x.2:Int)/256)),.int .u8 (IntKind.u8.wrap (x.2:Int))] rfl rfl (Dk _ #[_,_,_,_] _) (by simp[Value.oneCell']) (by unfold maxLen;omega) om (by have:=hB.size;simp;omega) ?_;intro v' q z E _;obtain⟨g',a2,rfl⟩:=ownsRow_succ z;obtain⟨X,b8,c8,b9,a4⟩:=hv.appended dc hrow (by have:=hB.size;omega) om z E;have d6:=X.cell;have d9:=X.frozen)
  have H:Boxed (q.setCell ⟨w.heap.size+2,0,none⟩ (.slice (some ⟨g',0,none⟩) (4*ln g+4) a2)) (w.heap.size+3) 145 (.slice A k i):=((hbs.alloc _).kept E (hbs.not_row dc hrow)).other om _
  refine⟨b9.from _,⟨a4.mono om,H.trans (Eq.symm hbs)⟩,⟨_,b8,?_,trivial⟩,H,hB.trans a4⟩
  have e1:4*(g++[x]).length=4*ln g+4:=by rw[aa];simp;omega
  rw[e1,dG,aL,bF,bk,VC]
  exact c8
 case done=>
  rintro D ys W hD rfl ⟨⟨v,hv,hrow,_⟩,hbs,hB⟩ V
  have hc:=hv.cell
  have a6:(sA (mV zs) k).flatMap (λx=>(b4 x.2).map λb=>Value.int .u8 (b.toNat:Int))=(zs.reverse.flatMap b4).map λb=>Value.int .u8 (b.toNat:Int):=by exact Iu _ zs k G.out
  rw[a6] at hrow
  have c3:=rj (P:= prog) W 150 9 5 (w.heap.size+1) _ v (zs.reverse.flatMap b4) underlying150 underlying5 underlying9 hrow
  have I:kv (fB (zs.reverse.flatMap b4))=kv (val WB f):=by have hd:=c2.out;rw[iO] at hd;rw[JN zs hd,c0.out,iO,dm om]
  have s: ∀W:World,Calls prog 119 #[.string ⟨(zs.reverse.flatMap b4).toArray⟩,.string ⟨#[0]⟩] W λe w'=>e= .returned (.string ⟨(kv (val WB f)).toArray⟩)/\W=w':=λW=>by
   have h:=Fe ⟨(zs.reverse.flatMap b4).toArray⟩ W (by
    show(zs.reverse.flatMap b4).toArray.size<=_
    have hl: ∀l:List Nat,(l.flatMap b4).length=4*ln l:=λl=>by
     induction l with
     |nil=>rfl
     |cons d l ih=>rw[aL,aa,ih,BJ,aS];omega
    rw[gC,hl,List.length_reverse,G.out];omega)
   rw[OG,I] at h
   exact h
  have B:=am s
  clear a6 I s
  have d1:W.cell? ⟨w.heap.size,0,none⟩=some (.bool false):=by rw[hB.cell (p:=⟨w.heap.size,0,none⟩) sp,cell_of_row _ _ _ _ _ _ j.out];rfl
  have c9:W.cell? ⟨w.heap.size,1,none⟩=some (.string ⟨#[]⟩):=by rw[hB.cell (p:=⟨w.heap.size,1,none⟩) sp,cell_of_row _ _ _ _ _ _ j.out];rfl
  have d2:W.frozen? ⟨w.heap.size,0,none⟩=false:=by rw[hB.frozen (p:=⟨w.heap.size,0,none⟩) sp];exact frozen_of_row _ _ _ _ _ j.out
  have d3:W.frozen? ⟨w.heap.size,1,none⟩=false:=by rw[hB.frozen (p:=⟨w.heap.size,1,none⟩) sp];exact frozen_of_row _ _ _ _ _ j.out
  have a1:=am ((hB.block w.heap.size om).trans j.out)
  have U:Hid (D≠w.heap.size):=by show D≠w.heap.size;omega
  have J:Hid (∀x y:Value,Below w.heap.size w (((W.setCell ⟨w.heap.size,0,none⟩ x).setCell ⟨w.heap.size,1,none⟩ y).putObj D (.deferred none))):=λx y=>by have h1:=a0.out.trans (hB.mono om);have h2:=(h1.setCell (p:=⟨w.heap.size,0,none⟩) (ai _) x).setCell (p:=⟨w.heap.size,1,none⟩) (ai _) y;have hK1:=((KeepsOthers.setCell W ⟨w.heap.size,0,none⟩ x).trans (KeepsOthers.setCell _ ⟨w.heap.size,1,none⟩ y)).same D _ V rfl;exact h2.trans (belowK_b (w:=o) om _ D _ _ om hK1 rfl rfl)
  clear hB hrow
  cases neg
  ·gi_wp2_with (refine⟨trivial,?_⟩;gi_at_call 119;refine(callsIn_wide.2 (B.out _)).mono ?_;rintro e w' ⟨rfl,rfl⟩)
   have hK1:=((KeepsOthers.setCell W ⟨w.heap.size,0,none⟩ (.bool false)).trans (KeepsOthers.setCell _ ⟨w.heap.size,1,none⟩ (.string ⟨(kv (val WB f)).toArray⟩))).same D _ V rfl
   refine⟨sp,.inl ⟨_,_,rfl,run_takeDeferred hK1,?_⟩⟩
   exact⟨wv false (val WB f),results_cell_row rfl _ _ w.heap.size 61 _ (0,0) _ rfl (ME _ _ a1.out U.out) underlying61 rfl kr,rfl,J.out _ _⟩
  ·gi_wp2_with (refine⟨trivial,?_⟩;gi_at_call 119;refine(callsIn_wide.2 (B.out _)).mono ?_;rintro e w' ⟨rfl,rfl⟩)
   have hK1:=((KeepsOthers.setCell W ⟨w.heap.size,0,none⟩ (.bool !(kv (val WB f)).isEmpty)).trans (KeepsOthers.setCell _ ⟨w.heap.size,1,none⟩ (.string ⟨(kv (val WB f)).toArray⟩))).same D _ V rfl
   refine⟨sp,.inl ⟨_,_,rfl,run_takeDeferred hK1,?_⟩⟩
   exact⟨wv (!(kv (val WB f)).isEmpty) (val WB f),results_cell_row rfl _ _ w.heap.size 61 _ (0,0) _ rfl (ME _ _ a1.out U.out) underlying61 rfl kr,by rw[GX,Bool.true_and],J.out _ _⟩
 case stop=>
  rintro D c g W _ _ h _
  exact h.elim
def rv m A f g neg w (o:Wd .u64 w w.heap.size A (fK WB m)) (j:(fK WB m).length=f) (k:f<=1000000000) (i:f<=g) (d:g<=9223372036854775807): Calls prog 88 #[.slice A f g,.bool neg] w λe w'=>e= .returned (wv (neg&&decide (m≠0)) m)/\Below w.heap.size w w':=by have h:=callsIn_wide.1 (Nm 5 (ai _) (fK WB m) A f g neg w (eT eJ m) o j k i d);rwa[dm eJ] at h
def H9 d A g h neg w (o:Dl WB d) (m:Wd .u64 w w.heap.size A d) (j:ln d=g) (k:g<=1000000000) (i:g<=h) (f:h<=9223372036854775807):
  Calls prog 88 #[.slice A g h,.bool neg] w λe w'=>e= .returned (wv (neg&&decide (val WB d≠0)) (val WB d))/\Below w.heap.size w w':=
 callsIn_wide.1 (Nm 5 (ai _) d A g h neg w o m j k i f)
end
def uQ:(prog.info? 110).map (λi=>(i.zero,i.size,i.bytes))=some (some (.int .u64 0),1,8):=kr
def n9 (n:Nat) (w:World) (e:Ending) (w':World):Prop:=∃A k c,e= .returned (.slice A k c)/\(fK WB n).length=k/\k<=c/\c<=1099511627776/\Wd .u64 w' w'.heap.size A (fK WB n)/\Below w.heap.size w w'
def pw {w w' l A c} (hb:Below w.heap.size w w') (d:Wd .u64 w' w'.heap.size A l) (f:Dl WB l) (i:ln l<=c) (g:c<=1099511627776): n9 (val WB l) w (.returned (.slice A (fT l) c)) w':=by
 have e:=jE eJ f
 have h:=iI l
 refine⟨A,fT l,c,rfl,?_,om,g,?_,hb⟩
 ·rw[<-e,aO];omega
 ·rw[<-e];exact d.take _
def Vv la lb Aa Ab na nb ca cb w (da:Dl WB la) (db:Dl WB lb) (ha:Wd .u64 w w.heap.size Aa la) (hb:Wd .u64 w w.heap.size Ab lb) (hna:ln la=na) (hnb:ln lb=nb) (hsa:na<=1000000000) (hsb:nb<=1000000000): Calls prog 97 #[.slice Aa na ca,.slice Ab nb cb] w (n9 (val WB la+val WB lb) w):=by
 have HA:=am ha
 have HB:=am hb
 have HNA:=am hna
 have HNB:=am hnb
 clear ha hb hna hnb
 go_enter func97, ntmps97
 go_upto_if 13 with fail
 go_cut [0,1] (λa b wc=> ∃lx ly Ax Ay nx ny cx cy,a= .slice Ax nx cx/\b= .slice Ay ny cy/\wc=w/\Wd .u64 w w.heap.size Ax lx/\Wd .u64 w w.heap.size Ay ly/\Hid (ln lx=nx)/\Hid (ln ly=ny)/\Dl WB lx/\Dl WB ly/\nx<=1000000000/\ny<=nx/\Hid (val WB lx+val WB ly=val WB la+val WB lb))
 case first=>
  go_wp2
  ·go_meet
   case rel=>exact⟨lb,la,Ab,Aa,nb,na,cb,ca,rfl,rfl,rfl,HB.out,HA.out,HNB.out,HNA.out,db,da,hsb,om,fu _ _⟩
  ·go_meet
   case rel=>exact⟨la,lb,Aa,Ab,na,nb,ca,cb,rfl,rfl,rfl,HA.out,HB.out,HNA.out,HNB.out,da,db,hsa,om,rfl⟩
 case rest=>
  obtain⟨lx,ly,Ax,Ay,nx,ny,cx,cy,rfl,rfl,rfl,hx,hy,Hnx,Hny,dx,dy,hnx,hyx,Hval⟩:=hcut
  have HX:=am hx
  have HY:=am hy
  clear hx hy
  have hmk:=kK (P:= prog) 145 110 underlying145 uQ ((nx:Int)+1) (nx+1) om om
  go_wp2
  clear hmk
  go_loopw [6,22] (λcr i wr=> ∃(k c:Nat) (lo:_),k<=nx/\c<=1/\i= .int .i64 k/\cr= .int .u64 c/\Ow .u64 wr wc.heap.size 110 lo/\Hid (ln lo=nx+1)/\Dl WB lo/\
    Hid (val WB (lo.take k)+WB^k*c=val WB (lx.take k)+val WB (ly.take k))/\Below wc.heap.size wc wr) (λ_ i _=>nx-(intOf i).toNat)
  case atStart=>exact⟨0,0,au (nx+1) 0,ah _,om,rfl,rfl,Ow.new _ _ _ _,bb,Dl.replicate jl _,by simp[Hid,val],(Below.refl _ _).alloc (ai _) _⟩
  case round=>
   obtain⟨k,c,lo,hk,hc,rfl,rfl,how,Hlen,dlo,Hv,hbel⟩:=hrel
   have HOW:=am how
   have HBEL:=am hbel
   clear how hbel
   by_cases hlt:k<nx
   ·obtain⟨ax,rfl,hcx⟩:=(HX.out.below HBEL.out).get (k:=k) (by have:=Hnx.out;omega)
    have hbx:=dx.getD jl k
    rw[ao,iO] at hbx
    have hfo:=HOW.out.free k
    have hco:=HOW.out.cell k (by have:=Hlen.out;omega)
    by_cases hlty:k<ny
    ·obtain⟨ay,rfl,hcy⟩:=(HY.out.below HBEL.out).get (k:=k) (by have:=Hny.out;omega)
     have hby:=dy.getD jl k
     rw[ao,iO] at hby
     go_wp2
     go_roundw
     case rel=>
      have e1:=mT ((lx[k]?.getD 0:Nat)+(c:Nat)+(ly[k]?.getD 0:Nat):Int) (lx[k]?.getD 0+c+ly[k]?.getD 0) om om
      have e2:=qE ((lx[k]?.getD 0:Nat)+(c:Nat)+(ly[k]?.getD 0:Nat):Int) (lx[k]?.getD 0+c+ly[k]?.getD 0) om
      have hl:=Hlen.out
      refine⟨k+1,_,lo.set k ((lx[k]?.getD 0+c+ly[k]?.getD 0) % WB),om,?_,by go_num,by rw[e2],by rw[e1];exact HOW.out.set _ _,by rw[aZ];exact hl,dlo.set _ (fg _ jl),FB om rfl rfl Hv.out,HBEL.out.setCell (ai _) _⟩
      rw[iO];omega
     case measure=>simp[intOf];omega
    ·have hy0:ly[k]?.getD 0=0:=by rw[bi (by have:=Hny.out;omega)];rfl
     have HY0:=am hy0
     clear hy0
     go_wp2
     go_roundw
     case rel=>
      have e1:=mT ((lx[k]?.getD 0:Nat)+(c:Nat):Int) (lx[k]?.getD 0+c+0) om om
      have e2:=qE ((lx[k]?.getD 0:Nat)+(c:Nat):Int) (lx[k]?.getD 0+c+0) om
      have hl:=Hlen.out
      refine⟨k+1,_,lo.set k ((lx[k]?.getD 0+c+0) % WB),om,?_,by go_num,by rw[e2],by rw[e1];exact HOW.out.set _ _,by rw[aZ];exact hl,dlo.set _ (fg _ jl),FB om rfl HY0.out Hv.out,HBEL.out.setCell (ai _) _⟩
      rw[iO];omega
     case measure=>simp[intOf];omega
   ·obtain rfl:k=nx:=om
    have hfo:=HOW.out.free k
    have hco:=HOW.out.cell k (by have:=Hlen.out;omega)
    have hset:=HOW.out.set k c
    have hbs:=HBEL.out.setCell (p:=⟨wc.heap.size,k,none⟩) (ai _) (.int .u64 c)
    have hls:(lo.set k c).length=k+1:=by rw[aZ];exact Hlen.out
    have hwd:=hset.wd (B:=wr.heap.size) HOW.out.lt
    have hval:val WB (lo.set k c)=val WB la+val WB lb:=by have h1:=p0 WB lo k c (by have:=Hlen.out;omega);rw[bX (by rw[hls];exact ai _)] at h1;have h2:=Hv.out;rw[bX (l:=lx) (by have:=Hnx.out;omega),bX (l:=ly) (by have:=Hny.out;omega)] at h2;have h3:=Hval.out;omega
    have hdl:=dlo.set k (v:=c) (by rw[iO];omega)
    have HS:=am hset;have HBS:=am hbs;have HLS:=am hls;have HWD:=am hwd;have HVAL:=am hval
    clear hset hbs hls hwd hval
    go_wp2_with (go_at_call 117;refine(rf (lo.set k c) _ _ _ wr.heap.size _ HLS.out om om HWD.out).mono ?_;rintro e w' ⟨rfl,rfl⟩)
    go_ret
    rw[<-HVAL.out]
    exact pw HBS.out (HWD.out.more (CS sp)) hdl (by have:=HLS.out;omega) om
def T7 {x n:Nat} (h:x*2^n<18446744073709551616):IntKind.u64.wrap ((x:Int)*2^n)=((x*2^n:Nat):Int):=by
 have e:(x:Int)*2^n=((x*2^n:Nat):Int):=by rw[gM,Int.natCast_pow];rfl
 rw[e,IntKind.wrap_u64];omega
def a2H {a b:Nat} (d:a<4294967296) (hb:b<4294967296):bits .or .u64 (a:Int) (b:Int)=((a|||b:Nat):Int):=u64_or_nat a b om om
def wT {b e} (hb:b<256) (d:e<=24):b*2^e<4294967296:=by have f:b*2^e<=255*2^24:=gd om (dJ om d);omega
def QN {b e:Nat} (hb:b<256) (d:e<=24):IntKind.u64.wrap (IntKind.u64.wrap (b:Int)*2^e)=((b*2^e:Nat):Int):=by
 have h:=wT hb d;have f:IntKind.u64.wrap (b:Int)=(b:Int):=by rw[IntKind.wrap_u64];omega
 rw[f];exact T7 om
def Vu neg s w (hs:s.size<=1000000000): Calls prog 86 #[.agg #[.bool neg,.string s]] w (n9 (fB s.data.toList) w):=by
 have hmk:=kK (P:= prog) 145 110 underlying145 uQ (((s.size:Int)+4-1)/4) ((s.size+3)/4) om om
 go_enter func86, ntmps86
 go_wp2
 clear hmk
 go_loopw [16] (λi wr=> ∃(k:Nat) (lo:_),k<=s.size/\i= .int .i64 (k:Int)/\wr.cell? ⟨w.heap.size,1,none⟩=some (.string s)/\Ow .u64 wr (w.heap.size+1) 110 lo/\Hid (ln lo=(s.size+3)/4)/\Dl WB lo/\
   Hid (val WB lo=256^(s.size-k)*fB (s.data.toList.take k))/\Below w.heap.size w wr) (λi _=>s.size-(intOf i).toNat)
 case atStart=>exact⟨0,au _ 0,ah _,rfl,by simp[go_sem],by have h:=Ow.new (w.alloc (.cells #[.bool neg,.string s] 61)) .u64 110 ((s.size+3)/4);simpa using h,bb,Dl.replicate jl _,by simp[Hid,val,jS,fB],((Below.refl _ _).alloc (ai _) _).alloc sp _⟩
 case round=>
  obtain⟨k,lo,hk,rfl,hstr,how,Hlen,dlo,Hv,hbel⟩:=hrel
  have HOW:=am how
  have HBEL:=am hbel
  clear how hbel
  by_cases hlt:k<s.size
  ·have hfo:=HOW.out.free ((s.size-1-k)/4)
   have hco:=HOW.out.cell ((s.size-1-k)/4) (by have:=Hlen.out;omega)
   go_wp2
   go_region
   go_wp2
   go_roundw
   case rel=>
    have hl:=Hlen.out
    have hb:s[k].toNat<256:=UInt8.toNat_lt _
    have hg:s.data.toList[k]? =some s[k]:=by rw[Array.getElem?_toList,aM (by exact hlt)];rfl
    have hv:=Hv.out
    rw[iO] at hv
    have dlo4:Dl 4294967296 lo:=by rw[<-iO];exact dlo
    obtain⟨h1,h2⟩:=Nv dlo4 (by simp only[dg];rfl) hg om hv
    have e1:bits .or .u64 ((lo[(s.size-1-k)/4]?.getD 0:Nat):Int) (IntKind.u64.wrap (IntKind.u64.wrap (s[k].toNat:Int)*2^(8*((s.size-1-k) % 4))))=((lo[(s.size-1-k)/4]?.getD 0|||s[k].toNat*2^(8*((s.size-1-k) % 4)):Nat):Int):=by have hd:=dlo4.getD om ((s.size-1-k)/4);rw[ao] at hd;rw[QN hb om];exact a2H hd (wT hb om)
    rw[e1]
    exact⟨k+1,_,om,by go_num,by rw[World.cell?_drew,World.cell?_setCell_other _ _ _ _ sp];exact hstr,(HOW.out.set _ _).drew,by rw[aZ];exact hl,dlo.set _ (by rw[iO];exact h1),by rw[Hid,iO];exact h2,(HBEL.out.setCell (a6e _) _).drew⟩
   case measure=>simp[intOf];omega
  ·obtain rfl:k=s.size:=om
   go_wp2_with (go_at_call 117;refine(rf lo _ _ _ wr.heap.size _ Hlen.out om om (HOW.out.wd HOW.out.lt)).mono ?_;rintro e w' ⟨rfl,rfl⟩)
   go_ret
   have hv:val WB lo=fB s.data.toList:=by have h:=Hv.out;rw[kz,Nat.pow_zero,Nat.one_mul,bX sp] at h;exact h
   rw[<-hv]
   exact pw HBEL.out (HOW.out.wd HOW.out.lt) dlo (by have:=Hlen.out;omega) om
def uA (m n:Nat):Int:=if m<n then-1 else if n<m then 1 else 0
def rK m:uA m m=0:=by unfold uA;rw[if_neg om,if_neg om]
def rJ {m n} (h:m<n):uA m n= -1:=by unfold uA;rw[if_pos h]
def rI {m n} (h:n<m):uA m n=1:=by unfold uA;rw[if_neg om,if_pos h]
def Lp m n Aa Ab na nb ca cb w (ha:Wd .u64 w w.heap.size Aa (fK WB m)) (hb:Wd .u64 w w.heap.size Ab (fK WB n)) (hna:(fK WB m).length=na) (hnb:(fK WB n).length=nb) (hsa:na<=1000000000) (hsb:nb<=1000000000): Calls prog 98 #[.slice Aa na ca,.slice Ab nb cb] w λe w'=>e= .returned (.int .i64 (uA m n))/\Below w.heap.size w w':=by
 by_cases h1:na<nb
 ·have hlt:m<n:=mJ eJ om
  clear ha hb hna hnb
  go_enter func98, ntmps98
  go_wp2
  go_ret
  exact⟨iF (by rw[rJ hlt];rfl),Below.refl _ _⟩
 ·by_cases h2:nb<na
  ·have hlt:n<m:=mJ eJ om
   clear ha hb hna hnb
   go_enter func98, ntmps98
   go_wp2
   go_ret
   exact⟨iF (by rw[rI hlt];rfl),Below.refl _ _⟩
  ·obtain rfl:na=nb:=om
   have HX:=am ha
   have HY:=am hb
   have Hnx:=am hna
   have Hny:=am hnb
   have dx:=eT eJ m
   have dy:=eT eJ n
   have HM:=am (dm eJ m)
   have HN:=am (dm eJ n)
   clear ha hb hna hnb
   generalize fK WB m=la at*
   generalize fK WB n=lb at*
   go_enter func98, ntmps98
   go_wp2
   go_loopw [5] (λi wr=> ∃(k:Nat),k<=na/\i= .int .i64 ((k:Int)-1)/\Hid (la.drop k=lb.drop k)/\Below w.heap.size w wr) (λi _=>(intOf i+1).toNat)
   case atStart=>exact⟨na,ai _,rfl,by rw[Hid,ft (by have:=Hnx.out;omega),ft (by have:=Hny.out;omega)],Below.refl _ _⟩
   case round=>
    obtain⟨k,hk,rfl,Hd,hbel⟩:=hrel
    have HBEL:=am hbel
    clear hbel
    rcases cX k with h0|h0
    ·subst h0
     go_wp2
     go_ret
     have e:=Hd.out
     rw[it,it] at e
     have hmn:m=n:=by rw[<-HM.out,<-HN.out,e]
     exact⟨iF (by rw[hmn,rK];rfl),HBEL.out⟩
    ·obtain⟨ax,rfl,hcx⟩:=(HX.out.below HBEL.out).get (k:=k-1) (by have:=Hnx.out;omega)
     obtain⟨ay,rfl,hcy⟩:=(HY.out.below HBEL.out).get (k:=k-1) (by have:=Hny.out;omega)
     have HLEN:=am (Hnx.out.trans Hny.out.symm)
     have HKL:Hid (k<=ln la):=by have:=Hnx.out;show k<=ln la;omega
     have HKM:Hid (k<=ln lb):=by have:=Hny.out;show k<=ln lb;omega
     by_cases hxy:la[k-1]?.getD 0<lb[k-1]?.getD 0
     ·have hlt:m<n:=by
       rw[<-HM.out,<-HN.out]
       exact kP dx HLEN.out h0 HKL.out Hd.out hxy
      go_wp2
      go_region
      go_wp2
      go_ret
      exact⟨iF (by rw[rJ hlt];rfl),HBEL.out.drew⟩
     ·by_cases hyx:lb[k-1]?.getD 0<la[k-1]?.getD 0
      ·have hlt:n<m:=by
        rw[<-HM.out,<-HN.out]
        exact kP dy HLEN.out.symm h0 HKM.out Hd.out.symm hyx
       go_wp2
       go_region
       go_wp2
       go_region
       go_wp2
       go_ret
       exact⟨iF (by rw[rI hlt];rfl),HBEL.out.drew.drew⟩
      ·have hd:=B3 HLEN.out h0 HKL.out Hd.out om
       have HD:=am hd
       clear hd
       go_wp2
       go_region
       go_wp2
       go_region
       go_wp2
       go_roundw
       case rel=>exact⟨k-1,om,by go_num,HD.out,HBEL.out.drew.drew⟩
       case measure=>simp[intOf];omega
def HR {x c y:Nat} (hx:x<4294967296) (d:c<=1) (hy:y<4294967296): ∃s:Nat,IntKind.u64.wrap (IntKind.u64.wrap ((x:Int)-c)-y)=(s:Int)/\s<18446744073709551616/\ s/9223372036854775808<=1/\s % WB+c+y=x+WB*(s/9223372036854775808):=by rw[IntKind.wrap_u64,IntKind.wrap_u64,iO];refine⟨((((x:Int)-c) % 18446744073709551616-y) % 18446744073709551616).toNat,?_,?_,?_,?_⟩<;>omega
def M0 la lb Aa Ab (na nb ca cb:Nat) (w:World) (da:Dl WB la) (db:Dl WB lb) (ha:Wd .u64 w w.heap.size Aa la) (hb:Wd .u64 w w.heap.size Ab lb) (hna:ln la=na) (hnb:ln lb=nb) (hsa:na<=1000000000) (hsb:nb<=na) (hle:val WB lb<=val WB la): Calls prog 99 #[.slice Aa na ca,.slice Ab nb cb] w (n9 (val WB la-val WB lb) w):=by
 have HX:=am ha
 have HY:=am hb
 have Hnx:=am hna
 have Hny:=am hnb
 have Hle:=am hle
 clear ha hb hna hnb hle
 have hmk:=kK (P:= prog) 145 110 underlying145 uQ (na:Int) na om om
 go_enter func99, ntmps99
 go_wp2
 clear hmk
 go_loopw [6,14] (λcr i wr=> ∃(k c:Nat) (lo:List Nat),k<=na/\c<=1/\i= .int .i64 k/\cr= .int .u64 c/\Ow .u64 wr w.heap.size 110 lo/\Hid (ln lo=na)/\Dl WB lo/\
   Hid (val WB (lo.take k)+val WB (lb.take k)=val WB (la.take k)+WB^k*c)/\Below w.heap.size w wr) (λ_ i _=>na-(intOf i).toNat)
 case atStart=>exact⟨0,0,au na 0,ah _,om,rfl,rfl,Ow.new _ _ _ _,bb,Dl.replicate jl _,by simp[Hid,val],(Below.refl _ _).alloc (ai _) _⟩
 case round=>
  obtain⟨k,c,lo,hk,hc,rfl,rfl,how,Hlen,dlo,Hv,hbel⟩:=hrel
  have HOW:=am how
  have HBEL:=am hbel
  clear how hbel
  by_cases hlt:k<na
  ·obtain⟨ax,rfl,hcx⟩:=(HX.out.below HBEL.out).get (k:=k) (by have:=Hnx.out;omega)
   have hbx:=da.getD jl k
   rw[ao,iO] at hbx
   have hfo:=HOW.out.free k
   have hco:=HOW.out.cell k (by have:=Hlen.out;omega)
   by_cases hlty:k<nb
   ·obtain⟨ay,rfl,hcy⟩:=(HY.out.below HBEL.out).get (k:=k) (by have:=Hny.out;omega)
    have hby:=db.getD jl k
    rw[ao,iO] at hby
    obtain⟨s,es,hs,hs1,hs2⟩:=HR hbx hc hby
    have ES:=am es
    clear es
    go_wp2
    go_roundw
    case rel=>
     have e1:=mT _ s ES.out hs
     have hl:=Hlen.out
     exact⟨k+1,_,lo.set k (s % WB),om,hs1,by go_num,by rw[ES.out];go_num,by rw[e1];exact HOW.out.set _ _,by rw[aZ];exact hl,dlo.set _ (fg _ jl),HQ om rfl rfl hs2 Hv.out,HBEL.out.setCell (ai _) _⟩
    case measure=>simp[intOf];omega
   ·have hy0:lb[k]?.getD 0=0:=by rw[bi (by have:=Hny.out;omega)];rfl
    have HY0:=am hy0
    clear hy0
    obtain⟨s,es,hs,hs1,hs2⟩:=HR hbx hc (y:=0) om
    have es':IntKind.u64.wrap (((la[k]?.getD 0:Nat):Int)-c)=(s:Int):=by rw[<-es];simp only[IntKind.wrap_u64];omega
    have ES:=am es'
    clear es es'
    go_wp2
    go_roundw
    case rel=>
     have e1:=mT _ s ES.out hs
     have hl:=Hlen.out
     exact⟨k+1,_,lo.set k (s % WB),om,hs1,by go_num,by rw[ES.out];go_num,by rw[e1];exact HOW.out.set _ _,by rw[aZ];exact hl,dlo.set _ (fg _ jl),HQ om rfl HY0.out hs2 Hv.out,HBEL.out.setCell (ai _) _⟩
    case measure=>simp[intOf];omega
  ·obtain rfl:k=na:=om
   have hval:val WB lo=val WB la-val WB lb:=by
    have h2:=Hv.out
    rw[bX (l:=la) (by have:=Hnx.out;omega),bX (l:=lb) (by have:=Hny.out;omega),bX (l:=lo) (by have:=Hlen.out;omega)] at h2
    have h3:=Hle.out
    have h4:=t4 dlo
    rw[Hlen.out] at h4
    rcases cX c with h0|h0
    ·subst h0;omega
    ·obtain rfl:c=1:=om
     omega
   have HVAL:=am hval
   clear hval
   go_wp2_with (go_at_call 117;refine(rf lo _ _ _ wr.heap.size _ Hlen.out om om (HOW.out.wd HOW.out.lt)).mono ?_;rintro e w' ⟨rfl,rfl⟩)
   go_ret
   rw[<-HVAL.out]
   exact pw HBEL.out (HOW.out.wd HOW.out.lt) dlo (by have:=Hlen.out;omega) om
def Ta {x y u c:Nat} (hx:x<4294967296) (hy:y<4294967296) (d:u<4294967296) (f:c<4294967296):(x:Int)*y<=18446744065119617025/\u+x*y+c<18446744073709551616/\0<=(x:Int)*y:=by
 have h:x*y<=4294967295*4294967295:=gd om om;have e:(x:Int)*y=((x*y:Nat):Int):=by rw[gM]
 rw[e];omega
def XI la lb Aa Ab na nb ca cb w (da:Dl WB la) (db:Dl WB lb) (ha:Wd .u64 w w.heap.size Aa la) (hb:Wd .u64 w w.heap.size Ab lb) (hna:ln la=na) (hnb:ln lb=nb) (hsa:na<=1000000000) (hsb:nb<=1000000000): Calls prog 87 #[.slice Aa na ca,.slice Ab nb cb] w (n9 (val WB la*val WB lb) w):=by
 have HX:=am ha
 have HY:=am hb
 have Hnx:=am hna
 have Hny:=am hnb
 clear ha hb hna hnb
 have hmk:=kK (P:= prog) 145 110 underlying145 uQ ((na:Int)+nb) (na+nb) om om
 go_enter func87, ntmps87
 go_wp2
 clear hmk
 go_loopw [20] (λi wr=> ∃k lo,k<=na/\i= .int .i64 k/\Ow .u64 wr w.heap.size 110 lo/\Hid (ln lo=na+nb)/\Dl WB lo/\
   Hid (val WB lo=val WB (la.take k)*val WB lb)/\Hid (∀j,k+nb<=j->lo[j]?.getD 0=0)/\Below w.heap.size w wr) (λi _=>na-(intOf i).toNat)
 case atStart=>exact⟨0,au (na+nb) 0,ah _,rfl,Ow.new _ _ _ _,bb,Dl.replicate jl _,by simp[Hid,val,jS],λj _=>by rw[gT];split<;>rfl,(Below.refl _ _).alloc (ai _) _⟩
 case round=>
  obtain⟨i,lo,hi,rfl,how,Hlen,dlo,Hv,Hz,hbel⟩:=hrel
  by_cases hlt:i<na
  ·obtain⟨ax,rfl,hcx⟩:=(HX.out.below hbel).get (k:=i) (by have:=Hnx.out;omega)
   have hbx:=da.getD jl i
   rw[ao,iO] at hbx
   have HOW:=am how
   have HBEL:=am hbel
   have HDL:=am dlo
   clear how hbel dlo
   obtain⟨wo,rfl⟩: ∃wo:World,wo=wr:=⟨_,rfl⟩
   go_wp2
   go_loopw [8,27] (λcr i2 wr=> ∃(k c:Nat) (lo:_),k<=nb/\c<4294967296/\i2= .int .i64 k/\cr= .int .u64 c/\Ow .u64 wr w.heap.size 110 lo/\Hid (ln lo=na+nb)/\Dl WB lo/\
    Hid (val WB lo+WB^(i+k)*c=val WB (la.take i)*val WB lb+(la[i]?.getD 0)*val WB (lb.take k)*WB^i)/\Hid (∀j,i+nb<=j->lo[j]?.getD 0=0)/\Below w.heap.size w wr) (λ_ i2 _=>nb-(intOf i2).toNat)
   case atStart=>exact⟨0,0,lo,ah _,om,rfl,rfl,HOW.out,Hlen,HDL.out,by have:=Hv.out;simp[Hid,val,this],Hz,HBEL.out⟩
   case round=>
    clear HOW HBEL HDL Hv Hz hcx Hlen
    obtain⟨k,c,l2,hk,hc,rfl,rfl,how,Hlen,dl2,Hv,Hz,hbel⟩:=hrel
    have HOW:=am how
    have HBEL:=am hbel
    clear how hbel
    by_cases hlk:k<nb
    ·obtain⟨ay,rfl,hcy⟩:=(HY.out.below HBEL.out).get (k:=k) (by have:=Hny.out;omega)
     have hby:=db.getD jl k
     rw[ao,iO] at hby
     have hbu:=dl2.getD jl (i+k)
     rw[ao,iO] at hbu
     obtain⟨hm1,hm2,hm3⟩:=Ta hbx hby hbu hc
     have hfo:=HOW.out.free (i+k)
     have hco:=HOW.out.cell (i+k) (by have:=Hlen.out;omega)
     go_wp2
     go_roundw
     case rel=>
      have e1:=mT (((l2[i+k]?.getD 0:Nat):Int)+(la[i]?.getD 0:Nat)*(lb[k]?.getD 0:Nat)+(c:Nat)) (l2[i+k]?.getD 0+la[i]?.getD 0*lb[k]?.getD 0+c) (by rw[jW,jW,gM]) hm2
      have e2:=qE (((l2[i+k]?.getD 0:Nat):Int)+(la[i]?.getD 0:Nat)*(lb[k]?.getD 0:Nat)+(c:Nat)) (l2[i+k]?.getD 0+la[i]?.getD 0*lb[k]?.getD 0+c) (by rw[jW,jW,gM])
      have hl:=Hlen.out
      refine⟨k+1,_,l2.set (i+k) ((l2[i+k]?.getD 0+la[i]?.getD 0*lb[k]?.getD 0+c) % WB),om,?_,by go_num,by rw[e2],by rw[e1];exact HOW.out.set _ _,by rw[aZ];exact hl,dl2.set _ (fg _ jl),zy om Hv.out,λj hj=>by rw[eF om];exact Hz.out j hj,HBEL.out.setCell (ai _) _⟩
      rw[iO];omega
     case measure=>simp[intOf];omega
    ·obtain rfl:k=nb:=om
     have hfo:=HOW.out.free (i+k)
     have hco:=HOW.out.cell (i+k) (by have:=Hlen.out;omega)
     go_wp2
     go_roundw
     case rel=>
      have hl:=Hlen.out
      have hnb:=Hny.out
      refine⟨i+1,l2.set (i+k) c,om,by go_num,HOW.out.set _ _,by rw[aZ];exact hl,dl2.set _ (by rw[iO];exact hc),?_,λj hj=>by rw[eF om];exact Hz.out j om,HBEL.out.setCell (ai _) _⟩
      have hv:=Hv.out
      have hz:=Hz.out (i+k) (ai _)
      subst hnb
      exact Ei om hz hv
     case measure=>simp[intOf];omega
  ·obtain rfl:i=na:=om
   have HOW:=am how
   have HBEL:=am hbel
   clear how hbel
   have hval:val WB lo=val WB la*val WB lb:=by have h2:=Hv.out;rwa[bX (l:=la) (by have:=Hnx.out;omega)] at h2
   have HVAL:=am hval
   clear hval
   go_wp2_with (go_at_call 117;refine(rf lo _ _ _ wr.heap.size _ Hlen.out om om (HOW.out.wd HOW.out.lt)).mono ?_;rintro e w' ⟨rfl,rfl⟩)
   go_ret
   rw[<-HVAL.out]
   exact pw HBEL.out (HOW.out.wd HOW.out.lt) dlo (by have:=Hlen.out;omega) om
section
variable {k j k1 k2:Nat} {s:ByteArray} {z z1 z2:Int} {w' W:World} {b2:Bool}
def ku (k:Nat) (b:Bool) (s:ByteArray) (z:Int):Prop:=Bh b s.data.toList=z/\8*s.size<=k
def Can (b:Bool) (s:ByteArray) (z:Int):Prop:=b=decide (z<0)/\s=⟨(kv z.natAbs).toArray⟩
def iS (k:Nat) (z:Int) (w:World) (e:Ending) (w':World):Prop:=∃b s,e= .returned (.agg #[.bool b,.string s])/\Can b s z/\ku k b s z/\Below w.heap.size w w'
def SS z:Bh (decide (z<0)) (kv z.natAbs)=z:=by unfold Bh;rw[uZ];by_cases h:z<0;rw[if_pos (by simpa using h)];omega;rw[if_neg (by simpa using h)];omega
def ku.sm {b} (h:ku k b s z):Sm k z:=by rw[<-h.1];have:=Sm.ofBytes (neg:=b) (l:=s.data.toList) (k:=s.size) sp;exact this.mono h.2
def ku.natAbs {b} (h:ku k b s z):fB s.data.toList=z.natAbs:=by rw[<-h.1,xa]
def ku.mono {b} (h:ku j b s z) (d:j<=k):ku k b s z:=⟨h.1,aC h.2 d⟩
def S6 (h:Sm k z):8*(kv z.natAbs).length<=k+7:=by
 have:(kv z.natAbs).length<=(k+7)/8:=by apply Bl;have e:(256:Nat)=2^8:=dc;rw[e,<-pa];exact dh h (dJ om om)
 omega
def Can.num {b} (h:Can b s z) (d:Sm k z):ku (k+7) b s z:=by obtain⟨rfl,rfl⟩:=h;exact⟨SS z,S6 d⟩
def Can.inj {b b' s' z'} (h:Can b s z) (h':Can b' s' z'):(b=b'/\s=s')↔z=z':=by constructor;rintro⟨rfl,rfl⟩;obtain⟨rfl,rfl⟩:=h;obtain⟨f,d⟩:=h';have e:=ByteArray.ext_iff.1 d;have g:=XB (by simpa using e:kv z.natAbs=kv z'.natAbs);simp at f;omega;rintro rfl;exact⟨h.1.trans h'.1.symm,h.2.trans h'.2.symm⟩
def Re neg n z (d:n=z.natAbs) (hs:n≠0->(neg=true↔z<0)):Can (neg&&decide (n≠0)) ⟨(kv n).toArray⟩ z:=by subst d;refine⟨?_,rfl⟩;by_cases h0:z.natAbs=0;have: ¬z<0:=om;simp[h0,this];have:=hs h0;cases neg<;>simp_all
def tj {n K} (h:n<2^k) (hk:k<=32*K):(fK WB n).length<=K:=by
 apply iR eJ;have e:WB=2^32:=by rw[iO]
 rw[e,<-pa];exact dh h (dJ om hk)
def ku.dig_len {b} (h:ku k b s z) (hk:k<=1000000000):(fK WB z.natAbs).length<=1000000000:=tj h.sm om
def ku.size {b} (h:ku k b s z) (hk:k<=1000000000):s.size<=1000000000:=by have:=h.2;omega
def rz {b} (h:ku k b s z) (hk:k<=1000000000) w: Calls prog 86 #[.agg #[.bool b,.string s]] w (n9 z.natAbs w):=by have:=Vu b s w (h.size hk);rwa[h.natAbs] at this
def Dg w i o f e t1 g W (m:W=(w.alloc (.cells #[i,o] t1)).alloc (.cells #[f,e] g)): W.cell? ⟨w.heap.size,0,none⟩=some i/\W.cell? ⟨w.heap.size,1,none⟩=some o/\ W.cell? ⟨w.heap.size+1,0,none⟩=some f/\W.cell? ⟨w.heap.size+1,1,none⟩=some e/\W.frozen? ⟨w.heap.size+1,0,none⟩=false/\W.frozen? ⟨w.heap.size+1,1,none⟩=false/\ W.heap[w.heap.size+1]? =some (.cells #[f,e] g (0,0))/\Below w.heap.size w W/\W.heap.size=w.heap.size+2:=by
 have q:W.heap.size=w.heap.size+2:=by rw[m];simp
 have p:W.heap[w.heap.size]? =some (.cells #[i,o] t1 (0,0)):=by rw[m,Below.heap_alloc _ _ _ sp];exact heap_alloc_new w _
 have d:W.heap[w.heap.size+1]? =some (.cells #[f,e] g (0,0)):=by have h:=heap_alloc_new (w.alloc (.cells #[i,o] t1)) (.cells #[f,e] g);rw[m];simpa using h
 exact⟨cell_of_row _ _ _ _ _ _ p,cell_of_row _ _ _ _ _ _ p,cell_of_row _ _ _ _ _ _ d,cell_of_row _ _ _ _ _ _ d,frozen_of_row _ _ _ _ _ d,frozen_of_row _ _ _ _ _ d,d,
  by rw[m];exact((Below.refl _ w).alloc (ai _) _).alloc sp _,q⟩
def rG w f e i m g d t1 r o W (B:W=((w.alloc (.cells #[f,e] t1)).alloc (.cells #[i,m] r)).alloc (.cells #[g,d] o)): W.cell? ⟨w.heap.size,0,none⟩=some f/\W.cell? ⟨w.heap.size,1,none⟩=some e/\W.cell? ⟨w.heap.size+1,0,none⟩=some i/\W.cell? ⟨w.heap.size+1,1,none⟩=some m/\ W.cell? ⟨w.heap.size+2,0,none⟩=some g/\W.cell? ⟨w.heap.size+2,1,none⟩=some d/\W.frozen? ⟨w.heap.size+2,0,none⟩=false/\W.frozen? ⟨w.heap.size+2,1,none⟩=false/\ W.heap[w.heap.size+2]? =some (.cells #[g,d] o (0,0))/\Below w.heap.size w W/\W.heap.size=w.heap.size+3:=by
 have h:=Dg (w.alloc (.cells #[f,e] t1)) i m g d r o W B;rw[fG] at h;obtain⟨E,y,a3,x,D,u,A,q,F⟩:=h;have p:W.heap[w.heap.size]? =some (.cells #[f,e] t1 (0,0)):=by rw[q.block _ om];exact heap_alloc_new w _
 exact⟨cell_of_row _ _ _ _ _ _ p,cell_of_row _ _ _ _ _ _ p,E,y,a3,x,D,u,A,((Below.refl _ w).alloc (ai _) _).trans (q.mono om),om⟩
def Ga {b1 s1 s2} (h1:ku k1 b1 s1 z1) (h2:ku k2 b2 s2 z2) (d:k1<=100000000) (e:k2<=100000000):(fK WB (z1.natAbs*z2.natAbs)).length<=1000000000:=by have h:=h1.sm.mul h2.sm;unfold Sm at h;rw[sU] at h;exact tj h om
def fS {g t a b x y} (h:W.heap[g]? =some (.cells #[a,b] t (0,0))): ((W.setCell ⟨g,0,none⟩ x).setCell ⟨g,1,none⟩ y).heap[g]? =some (.cells #[x,y] t (0,0)):=by have e:=heap_setCell_same W g 0 _ t x h;have d:=heap_setCell_same _ g 1 _ t y e;simpa using d
def lO {w neg n} (f:n=z.natAbs) (hs:n≠0->(neg=true↔z<0)) (e:Sm k z) (hb:Below w.heap.size w w'): iS (k+7) z w (.returned (.agg #[.bool (neg&&decide (n≠0)),.string ⟨(kv n).toArray⟩])) w':=by have d:=Re neg n z f hs;exact⟨_,_,rfl,d,d.num e,hb⟩
def kG {b} (h:ku k b s z) (h0:z≠0):(b=true↔z<0):=by have d:=h.1;unfold Bh at d;cases b;simp at d;simp;omega;simp at d;simp;omega
def GZ {b1 s1 s2} (h1:ku k1 b1 s1 z1) (h2:ku k2 b2 s2 z2) (h0:z1.natAbs*z2.natAbs≠0):((b1 !=b2)=true↔z1*z2<0):=by
 have i:z1≠0:=λe=>h0 (by rw[e];simp);have g:z2≠0:=λe=>h0 (by rw[e];simp);have m:=kG h1 i;have o:=kG h2 g;rcases Int.lt_or_gt_of_ne i with f|f<;>rcases Int.lt_or_gt_of_ne g with d|d;have h:=Int.mul_pos_of_neg_of_neg f d;rw[m.2 f,o.2 d];simp;omega;have h:=Int.mul_neg_of_neg_of_pos f d;have:b2=false:=by cases b2<;>simp at o⊢;omega
 rw[m.2 f,this];simp[h];have h:=Int.mul_neg_of_pos_of_neg f d;have:b1=false:=by cases b1<;>simp at m⊢;omega
 rw[o.2 d,this];simp[h];have h:=Int.mul_pos f d;have h1:b1=false:=by cases b1<;>simp at m⊢;omega
 have h2:b2=false:=by cases b2<;>simp at o⊢;omega
 rw[h1,h2];simp;omega
def G3 {b} (h:ku k b s z) (h0:z.natAbs≠0):((!b)=true↔ -z<0):=by have e:=kG h om;cases b<;>simp at e⊢<;>omega
def pD {b} (h:ku k b s z):(b=true/\z<=0)\/(b=false/\0<=z):=by have d:=h.1;unfold Bh at d;cases b;rw[if_neg sp] at d;exact Or.inr ⟨rfl,om⟩;rw[if_pos rfl] at d;exact Or.inl ⟨rfl,om⟩
def Fz {b1 s1 s2} (h1:ku k1 b1 s1 z1) (h2:ku k2 b2 s2 z2) (hb:b1=b2): z1.natAbs+z2.natAbs=(z1+z2).natAbs/\(z1.natAbs+z2.natAbs≠0->(b1=true↔z1+z2<0)):=by subst hb;rcases pD h1 with⟨d,g⟩|⟨d,g⟩<;>rcases pD h2 with⟨e,f⟩|⟨e,f⟩;refine⟨om,λh=> ?_⟩;simp[d];omega;rw[d] at e;cases e;rw[d] at e;cases e;refine⟨om,λh=> ?_⟩;simp[d];omega
def P0 {b1 s1 s2} (h1:ku k1 b1 s1 z1) (h2:ku k2 b2 s2 z2) (hb:b1≠b2) (hlt:z1.natAbs<z2.natAbs): z2.natAbs-z1.natAbs=(z1+z2).natAbs/\(z2.natAbs-z1.natAbs≠0->(b2=true↔z1+z2<0)):=by rcases pD h1 with⟨e,g⟩|⟨e,g⟩<;>rcases pD h2 with⟨d,f⟩|⟨d,f⟩;rw[e,d] at hb;exact absurd rfl hb;refine⟨om,λh=> ?_⟩;simp[d];omega;refine⟨om,λh=> ?_⟩;simp[d];omega;rw[e,d] at hb;exact absurd rfl hb
def PZ {b1 s1 s2} (h1:ku k1 b1 s1 z1) (h2:ku k2 b2 s2 z2) (hb:b1≠b2) (h: ¬z1.natAbs<z2.natAbs): z1.natAbs-z2.natAbs=(z1+z2).natAbs/\(z1.natAbs-z2.natAbs≠0->(b1=true↔z1+z2<0)):=by rcases pD h1 with⟨d,g⟩|⟨d,g⟩<;>rcases pD h2 with⟨e,f⟩|⟨e,f⟩;rw[d,e] at hb;exact absurd rfl hb;refine⟨om,λi=> ?_⟩;simp[d];omega;refine⟨om,λi=> ?_⟩;simp[d];omega;rw[d,e] at hb;exact absurd rfl hb
def pR {y} (h:Sm j y) (h':Sm k z):Sm (j+k+1) (y+z):=(h.mono (by omega:j<=j+k)).add (h'.mono (by omega:k<=j+k))
def Ob (h:Sm k z) (hk:k<=1000000000):(fK WB z.natAbs).length<=1000000000:=tj h om
def l9 {q w A l} (h:Wd q w w.heap.size A l):Wd q w.drew w.drew.heap.size A l:=h
def UU {g:Nat} {x y:Int} {a b:Nat} {t:TypeId} (hx:x=a) (hy:y=b) (d:W.heap[g]? =some (.cells #[.int .u64 x,.int .u64 y] t (0,0))):Wd .u64 W W.heap.size (some ⟨g,0,none⟩) [a,b]:=by subst hx hy;have h:Ow .u64 W g t [a,b]:=d;exact h.wd h.lt
def Ni {m}:val WB [m % WB,m/WB]=m:=by simp[val];exact qi m WB
def R5 {m} (h:m<18446744073709551616):Dl WB [m % WB,m/WB]:=by intro d e;simp at e;rcases e with rfl|rfl;exact fg _ jl;rw[iO];omega
def K6 w d f i o W (g:W=(w.alloc (.cells #[d,f] i)).alloc o): W.cell? ⟨w.heap.size,0,none⟩=some d/\W.cell? ⟨w.heap.size,1,none⟩=some f/\W.frozen? ⟨w.heap.size,0,none⟩=false/\W.frozen? ⟨w.heap.size,1,none⟩=false/\ W.heap[w.heap.size]? =some (.cells #[d,f] i (0,0))/\W.heap[w.heap.size+1]? =some o/\Below w.heap.size w W/\W.heap.size=w.heap.size+2:=by
 have m:W.heap.size=w.heap.size+2:=by rw[g];simp
 have e:W.heap[w.heap.size]? =some (.cells #[d,f] i (0,0)):=by rw[g,Below.heap_alloc _ _ _ sp];exact heap_alloc_new w _
 exact⟨cell_of_row _ _ _ _ _ _ e,cell_of_row _ _ _ _ _ _ e,frozen_of_row _ _ _ _ _ e,frozen_of_row _ _ _ _ _ e,e,by rw[g];have h:=heap_alloc_new (w.alloc (.cells #[d,f] i)) o;simpa using h,
  by rw[g];exact((Below.refl _ w).alloc (ai _) _).alloc sp _,m⟩
def jn {w} neg {x n} (hx:x=(neg&&decide (n≠0))) (e:n=z.natAbs) (hs:n≠0->(neg=true↔z<0)) (d:Sm k z) (hb:Below w.heap.size w w'): iS (k+7) z w (.returned (.agg #[.bool x,.string ⟨(kv n).toArray⟩])) w':=by subst hx;exact lO e hs d hb
end
section
inductive K where
 |b
 |i (k:IntKind)
 |s
def K.fits:K->Value->Prop
 | .b,.bool _=>True
 | .i k,.int j _=>j=k
 | .s,.string _=>True
 |_,_=>False
def Fits:List K->List Value->Prop
 |[],[]=>True
 |k::ks,v::vs=>k.fits v/\Fits ks vs
 |_,_=>False
def Fits.length: ∀{ks vs},Fits ks vs->vs.length=ks.length
 |[],[],_=>rfl
 |_::_,_::_,h=>by simp[Fits.length h.2]
def Fits.append: ∀{ks js vs us},Fits ks vs->Fits js us->Fits (ks++js) (vs++us)
 |[],_,[],_,_,h=>h
 |_::_,_,_::_,_,h,h'=>⟨h.1,Fits.append h.2 h'⟩
def Fits.split: ∀{ks js vs},Fits (ks++js) vs->Fits ks (vs.take (ln ks))/\Fits js (vs.drop (ln ks))
 |[],_,_,h=>⟨trivial,h⟩
 |_::_,_,_::_,h=>⟨⟨h.1,(Fits.split h.2).1⟩,(Fits.split h.2).2⟩
def OY:Nat->List K->List K
 |0,_=>[]
 |n+1,ks=>ks++OY n ks
def Hq n d:(OY n d).length=n*ln d:=by
 induction n with
 |zero=>simp[OY]
 |succ n ih=>rw[OY,aa,ih,my];omega
def Fits.chunk: ∀{n ks vs},Fits (OY n ks) vs-> ∀i,i<n->Fits ks ((vs.drop (i*ln ks)).take (ln ks))
 |0,_,_,_,_,h=>absurd h om
 |n+1,ks,vs,h,0,_=>by simpa using(Fits.split h).1
 |n+1,ks,vs,h,i+1,hi=>by have:=Fits.chunk (Fits.split h).2 i om;rw[sW] at this;rw[my,fu];exact this
def n5 (P:Program) (t:TypeId):Option Bool:=(P.underlying t).map TypeDesc.isRow
def mkV (d:Bool) (e:List Value):Value:=if d then .agg e.toArray else e.headD undef
section
variable {P:Program}
def Al {t b} (h:n5 P t=some b) w:(isAgg t).run P w= .ok b w:=by
 unfold n5 at h
 cases hu:P.underlying t with
 |none=>simp[hu] at h
 |some d=>simp only[hu,dA,Option.some.injEq] at h;unfold isAgg;rw[aX,run_underlying hu w];cases d<;>simp_all [TypeDesc.isRow]
def fw {t b} (h:n5 P t=some b): ∃i,P.info? t=some i:=by
 unfold n5 at h
 cases hu:P.underlying t with
 |none=>simp[hu] at h
 |some d=>exact info_of_underlying hu
def oV {t b} (h:n5 P t=some b) w xs off (hlt:off+P.cellsOf t<=ln xs) (h1:b=false->P.cellsOf t=1): (part t xs.toArray off).run P w= .ok (mkV b ((xs.drop off).take (P.cellsOf t))) w:=by
 obtain⟨i,d⟩:=fw h;unfold part mkV;rw[aX,Al h w]
 cases b with
 |true=>simp[run_sizeOf w d,List.extract]
 |false=>have f:=h1 rfl;have:xs[off]? =some xs[off]:=ae om;rw[f];(have e:List.take 1 (List.drop off xs)=[xs[off]'om]:=by rw[bh om];rfl);simp[this,e]
def kf (P:Program) (g:TypeId->Option (List K)):Nat->List Field->Option (List K)
 |_,[]=>some []
 |off,f::fs=>
  if f.offset=off/\f.name≠ "_" /\(P.info? f.type).isSome=true then
   (match g f.type with
   |some d=>if P.cellsOf f.type=ln d/\0<(ln d) then(match kf P g (off+ln d) fs with|some e=>some (d++e)|none=>none) else none
   |none=>none)
  else none
def lG (P:Program):Nat->TypeId->Option (List K)
 |0,_=>none
 |d+1,t=>
  match P.underlying t with
  |some .bool=>some [.b]
  |some (.int k)=>some [.i k]
  |some .string=>some [.s]
  |some (.array n e)=>(match lG P d e with
   |some f=>if P.cellsOf e=ln f/\0<ln f/\(P.info? e).isSome=true then some (OY n f) else none
   |none=>none)
  |some (.struct fs)=>if P.stoodInHeld t=false then kf P (lG P d) 0 fs.toList else none
  |_=>none
def xe {d t e} (h:lG P d t=some e): ∃b,n5 P t=some b/\(b=false->ln e=1):=by
 cases d with
 |zero=>simp[lG] at h
 |succ d=>
  unfold lG at h;unfold n5
  cases hu:P.underlying t with
  |none=>simp[hu] at h
  |some k=>cases k<;>simp_all [TypeDesc.isRow]<;>(subst h;rfl)
def PA (P:Program) (d:Nat) (t:TypeId) (g:List K):Prop:=∀w e f b,n5 P t=some b->Fits g e->Fits g f-> ∃r:Bool,(Op.equalIn d t (mkV b e) (mkV b f)).run P w= .ok r w/\(r=true↔e=f)
def GB d {e f b} (s:PA P d e f) (hb:n5 P e=some b) (p:P.cellsOf e=ln f) (h1:b=false->ln f=1) w xs o (hl:ln xs=ln o):
  ∀is:List Nat,(∀i∈is,(i+1)*ln f<=ln xs/\Fits f ((xs.drop (i*ln f)).take (ln f))/\Fits f ((o.drop (i*ln f)).take (ln f)))->
   ∃r:Bool,(Op.eqItems d e (P.cellsOf e) xs.toArray o.toArray is).run P w= .ok r w/\(r=true↔ ∀i∈is,(xs.drop (i*ln f)).take (ln f)=(o.drop (i*ln f)).take (ln f))
 |[],_=>⟨true,rfl,sp⟩
 |i::is,h=>by obtain⟨x,A,z⟩:=h i sp;(have B:i*ln f+ln f<=ln xs:=by rw[my] at x;exact x);have p1:=oV hb w xs (i*ln f) (by rw[p];omega) (λh=>by rw[p];exact h1 h);have p2:=oV hb w o (i*ln f) (by rw[p];omega) (λh=>by rw[p];exact h1 h);obtain⟨r,u,g⟩:=s w _ _ b hb A z;obtain⟨y,q,k⟩:=GB d s hb p h1 w xs o hl is (λj m=>h j (by simp[m]));rw[p] at p1 p2 q⊢;cases r;refine⟨false,?_,?_⟩;simp[Op.eqItems,p1,p2,u];simp only[Bool.false_eq_true,false_iff];intro h;exact absurd (g.2 (h i sp)) sp;refine⟨y,?_,?_⟩;simp[Op.eqItems,p1,p2,u,q];rw[k];constructor;intro h j m;rcases br.1 m with rfl|m;exact g.1 rfl;exact h j m;intro h j m;exact h j (by simp[m])
def B6 d {g} (z: ∀t ks,g t=some ks->PA P d t ks/\ ∃b,n5 P t=some b/\(b=false->ln ks=1)) w xs i:
  ∀fs off ks,kf P g off fs=some ks->off+ln ks=ln xs->ln xs=ln i->Fits ks (xs.drop off)->Fits ks (i.drop off)->
   ∃r:Bool,(Op.eqFields d xs.toArray i.toArray fs).run P w= .ok r w/\(r=true↔xs.drop off=i.drop off)
 |[],off,ks,h,hl,hxy,_,_=>by simp[kf] at h;subst h;refine⟨true,by simp[Op.eqFields],?_⟩;simp at hl;simp[ky (show (ln xs)<=off by omega),ky (show (ln i)<=off by omega)]
 |f::fs,off,ks,h,hl,hxy,hx,hy=>by unfold kf at h;split at h;rename_i M;obtain⟨rfl,B,N⟩:=M;split at h;rename_i k q;split at h;rename_i o;split at h;rename_i J u;cases h;obtain⟨E,b,x,p⟩:=z _ _ q;obtain⟨L,A⟩:=Fits.split hx;obtain⟨I,y⟩:=Fits.split hy;rw[sW] at A y;simp only[aa] at hl;have p1:=oV x w xs f.offset (by rw[o.1];omega) (λh=>by rw[o.1];exact p h);have p2:=oV x w i f.offset (by rw[o.1];omega) (λh=>by rw[o.1];exact p h);rw[o.1] at p1 p2;obtain⟨r,D,j⟩:=E w _ _ b x L I;obtain⟨F,s,m⟩:=B6 d z w xs i fs (f.offset+ln k) J u om hxy A y;(have key:xs.drop f.offset=i.drop f.offset↔(xs.drop f.offset).take (ln k)=(i.drop f.offset).take (ln k)/\xs.drop (f.offset+ln k)=i.drop (f.offset+ln k):=by constructor;intro e;refine⟨by rw[e],?_⟩;have:=congrArg (List.drop (ln k)) e;simpa[sW] using this;rintro⟨G,H⟩;rw[<-aF (ln k) (xs.drop f.offset),<-aF (ln k) (i.drop f.offset),sW,sW,G,H]);rw[key];cases r;refine⟨false,by simp[Op.eqFields,B,p1,p2,D],?_⟩;simp only[Bool.false_eq_true,false_iff];rintro⟨p,-⟩;exact absurd (j.2 p) sp;refine⟨F,by simp[Op.eqFields,B,p1,p2,D,s],?_⟩;rw[m,<-j];simp;cases h;cases h;cases h;cases h
def eqK: ∀d t ks,lG P d t=some ks-> ∀m,PA P (m+d) t ks
 |0,_,_,h,_=>by simp[lG] at h
 |d+1,t,ks,h,m=>by
  intro w s u b U p o
  unfold lG at h
  cases hu:P.underlying t with
  |none=>simp[hu] at h
  |some k=>
   have M:k.isRow=b:=by simpa[n5,hu] using U
   subst M
   cases k<;>simp only[hu] at h<;>try (cases h;done)
   case bool=>
    cases h
    match s,u,p,o with
    |[.bool x],[.bool y],_,_=>exact⟨x==y,run_equalIn_bool w (m+d) t x y hu,sp⟩
   case int q=>
    cases h
    match s,u,p,o with
    |[.int j x],[.int j' y],p,o=>
     have Q:j=q:=p.1
     have R:j'=q:=o.1
     subst Q;subst R
     exact⟨x==y,run_equalIn_int w (m+d) t _ _ x y hu,sp⟩
   case string=>
    cases h
    match s,u,p,o with
    |[.string x],[.string y],_,_=>exact⟨x.toList==y.toList,run_equalIn_string w (m+d) t x y hu,by simp[ByteArray.toList_eq,ByteArray.ext_iff,<-Array.toList_inj]⟩
   case array n e=>
    split at h
    ·rename_i H A
     split at h
     ·rename_i O
      cases h
      obtain⟨b,D,T⟩:=xe A
      obtain⟨i,z⟩:=fw D
      have F:=p.length
      have N:=o.length
      rw[Hq] at F N
      obtain⟨r,L,f⟩:=GB (m+d) (eqK d e H A m) D O.1 T w s u om (List.range n) (λi z=>by
       have z:=jG.1 z
       refine⟨?_,p.chunk i z,o.chunk i z⟩
       rw[F];exact gV _ z)
      refine⟨r,?_,?_⟩
      ·show(Op.equalIn (m+d+1) t (.agg s.toArray) (.agg u.toArray)).run P w=_
       rw[run_equalIn_array w (m+d) _ _ hu z];exact L
      ·rw[f]
       constructor
       ·intro B
        apply List.ext_getElem?
        intro j
        by_cases hj:j<s.length
        ·have G:0<H.length:=O.2.1
         have J:j/H.length<n:=Nat.div_lt_of_lt_mul (by rw[eI,<-F];exact hj)
         have:=congrArg (·[j % H.length]?) (B _ (jG.2 J))
         simp only[gb,fg _ G,if_true,List.getElem?_drop] at this
         rw[eI,Nat.div_add_mod] at this
         exact this
        ·rw[bi om,bi om]
       ·intro e i _;rw[e]
     ·cases h
    ·cases h
   case struct fs=>
    split at h
    ·rename_i I
     have E:P.fieldsOf t=fs:=by simp[Program.fieldsOf,hu]
     have F:=p.length
     have N:=o.length
     obtain⟨r,L,f⟩:=B6 (m+d) (g:=lG P d) (λt ks G=>⟨eqK d t ks G m,xe G⟩) w s u fs.toList 0 ks h om om (by simpa using p) (by simpa using o)
     refine⟨r,?_,by simpa using f⟩
     show(Op.equalIn (m+d+1) t (.agg s.toArray) (.agg u.toArray)).run P w=_
     rw[run_equalIn_struct w (m+d) t _ _ (by rw[E];exact hu) I,E];exact L
    ·cases h
end
end
section
variable {nl:Bool} {cap:Nat} {α:Type}
def IR (n:Int):Prop:= -9223372036854775808<=n/\n<=9223372036854775807
instance (n:Int):Decidable (IR n):=inferInstanceAs (Decidable (_/\_))
def IR.wrap n:IR (IntKind.i64.wrap n):=by unfold IR IntKind.wrap;simp[IntKind.bits,IntKind.signed];split<;>omega
def IR.tmod {a:Int} (h:IR a) (b:Int):IR (a.tmod b):=by
 unfold IR at*
 cases a with
 |ofNat m=>(have e:(Y1 m).tmod b=Y1 (m % b.natAbs):=by cases b<;>rfl);have d:=Nat.mod_le m b.natAbs;rw[e];generalize m % b.natAbs=q at*;simp only[Int.ofNat_eq_natCast] at*;omega
 |negSucc m=>(have e:(Int.negSucc m).tmod b= -Y1 ((m+1) % b.natAbs):=by cases b<;>rfl);have d:=Nat.mod_le (m+1) b.natAbs;rw[e];generalize(m+1) % b.natAbs=q at*;simp only[Int.ofNat_eq_natCast,Int.negSucc_eq] at*;omega
def bZ (nl:Bool) (len cap:Nat):Prop:=len<=cap/\cap<=9223372036854775807/\(nl=true->cap=0)
instance (nl:Bool) (len cap:Nat):Decidable (bZ nl len cap):=inferInstanceAs (Decidable (_/\_/\_))
def bZ.ir {len} (h:bZ nl len cap):IR len:=by unfold bZ at h;unfold IR;omega
def bZ.pos {len} (h:bZ nl len cap) {i} (hi:i<len):nl=false:=by cases nl;rfl;have:=h.2.2 rfl;have:=h.1;omega
def bZ.sub {len} (h:bZ nl len cap) {l k m} (f:l<=k/\k<=m/\m<=cap):bZ nl (k-l) (m-l):=by have g:=h.1;have d:=h.2.1;exact⟨om,om,λe=>by have:=h.2.2 e;omega⟩
def IR.fdiv {a} (h:IR a) n:IR (a.fdiv (2^n)):=by have d:(0:Int)<2^n:=Int.pow_pos dc;rw[sS _ (Int.le_of_lt d)];unfold IR at*;have f:=Int.ediv_mul_le a (Int.ne_of_gt d);have e:=Int.lt_ediv_add_one_mul_self a d;generalize a/2^n=q at*;generalize(2:Int)^n=p at*;constructor;by_cases hq:q<0;have:q+1<=0:=om;have:=Int.mul_le_mul_of_nonpos_left (a:=q+1) (b:=p) (c:=1) om om;simp only[Int.mul_one] at this;omega;omega;by_cases hq:0<q;have:=o8 (a:=1) (b:=p) (c:=q) om om;simp only[Int.mul_one] at this;omega;omega
def minI (a b:Int):Int:=if b<a then b else a
def maxI (a b:Int):Int:=if a<b then b else a
def IR.minI {a b} (h:IR a) (h':IR b):IR (minI a b):=by unfold Proofs.YtlgcobafjbajdaaGreatDoor.minI;split<;>assumption
def IR.maxI {a b} (h:IR a) (h':IR b):IR (maxI a b):=by unfold Proofs.YtlgcobafjbajdaaGreatDoor.maxI;split<;>assumption
inductive B1 where
 |val (v:Value)
 |int (n:Int) (h:IR n)
 |wid (k:Nat) (z:Int) (h:Sm k z)
def B1.cells:B1->List Value
 | .val v=>[v]
 | .int n _=>[.int .i64 n]
 | .wid _ z _=>[.bool (decide (z<0)),.string ⟨(kv z.natAbs).toArray⟩]
def IG:List B1->Array Value
 |[]=> #[]
 |x::l=> #[.agg ((x::l).flatMap B1.cells).toArray]
inductive BV where
 |c (x:B1)
 |agg (l:List B1)
def BV.den:BV->Value
 | .c x=>x.cells.headD undef
 | .agg l=> .agg (l.flatMap B1.cells).toArray
inductive C where
 |val (v:Value)
 |int (n:Int) (h:IR n)
 |wid (k:Nat) (z:Int) (h:Sm k z)
 |ptr (b off:Nat)
 |sli (nl:Bool) (b off len cap:Nat) (h:bZ nl len cap)
 |fn (f:FuncId) (bd:List B1) (caps:List (Nat×Nat))
 |mp (b:Nat)
inductive T1 where
 |c (x:C)
 |agg (l:List C)
inductive SV where
 |c (x:C)
 |agg (l:List C)
 |tup (l:List T1)
structure mq where
 a:Nat×Nat
 cs:List C
 ty:TypeId
 tl:Nat
def pg (fam:List mq) (a:Nat×Nat) (cs:List C):Prop:= ∃e,e∈fam/\e.a=a/\e.cs=cs
def pg.left {l m a cs} (h:pg l a cs):pg (l++m) a cs:=let⟨e,h1,h2⟩:=h;⟨e,gc _ h1,h2⟩
def pg.right {l m a cs} (h:pg m a cs):pg (l++m) a cs:=let⟨e,h1,h2⟩:=h;⟨e,gG _ h1,h2⟩
def pg.last {l a cs ty d}:pg (l++[⟨a,cs,ty,d⟩]) a cs:=pg.right ⟨_,bq.2 rfl,rfl,rfl⟩
inductive TyX where
 |t (n:TypeId)
 |m (n:TypeId) (es:List (BV×BV)) (clock:Nat)
 |x (l:List mq)
abbrev TyX.id:TyX->TypeId
 | .t n=>n
 | .m n _ _=>n
 | .x _=>0
instance:Coe TypeId TyX:=⟨.t⟩
instance:CoeOut TyX TypeId:=⟨TyX.id⟩
instance (n:Nat):OfNat TyX n:=⟨.t n⟩
structure aY where
 ty:TyX
 ro:Bool
 cs:List C
 tl:Nat:=0
def aY.void (b:aY):Bool:=match b.ro,b.cs with|true,[]=>true|_,_=>false
def Ee:TyX->Bool->List C->Nat->Option (List (BV×BV)×Nat)
 | .m _ es cl,true,[],1=>some (es,cl)
 |_,_,_,_=>none
def aY.mapOf (b:aY):Option (List (BV×BV)×Nat):=Ee b.ty b.ro b.cs b.tl
def GC:TyX->Bool->Nat->Option (Bool×List mq)
 | .x l,true,2=>some (true,l)
 | .x l,true,3=>some (false,l)
 |_,_,_=>none
def aY.famOf (b:aY):Option (Bool×List mq):=GC b.ty b.ro b.tl
def rV:List aY->Bool
 |[]=>true
 |b::l=>(match b.tl with|0=>rV l|_+1=>false)
def kW (d:List (BV×BV)):Array MapEntry:=((d.zipIdx).map λp=>{key:=p.1.1.den,val:=p.1.2.den,born:=p.2}).toArray
abbrev fF:=Nat->Nat×Nat
def lF (ρ:fF) (b off:Nat):Value:= .pointer (some ⟨(ρ b).1,(ρ b).2+off,none⟩)
def jK (nl:Bool) (a:Addr):Option Addr:=match nl with|true=>none|false=>some a
def C.cells (ρ:fF):C->List Value
 | .val v=>[v]
 | .int n _=>[.int .i64 n]
 | .wid _ z _=>[.bool (decide (z<0)),.string ⟨(kv z.natAbs).toArray⟩]
 | .ptr b off=>[lF ρ b off]
 | .sli nl b off len cap _=>[.slice (jK nl ⟨(ρ b).1,(ρ b).2+off,none⟩) len cap]
 | .fn f e d=>[.func (.func f) (IG e) (d.map λp=>lF ρ p.1 p.2).toArray]
 | .mp b=>[.map (some (ρ b).1)]
def C.n:C->Nat
 | .wid _ _ _=>2
 |_=>1
def C.one:C->Bool
 | .val v=>v.oneCell'
 | .int _ _=>true
 | .wid _ _ _=>true
 | .ptr _ _=>true
 | .sli _ _ _ _ _ _=>true
 | .fn _ _ _=>true
 | .mp _=>true
def af (ρ:fF) (l:List C):List Value:=l.flatMap (C.cells ρ)
def C.den (ρ:fF) (x:C):Value:=(x.cells ρ).headD undef
def T1.den (ρ:fF):T1->Value
 | .c x=>x.den ρ
 | .agg l=> .agg (af ρ l).toArray
def SV.den (ρ:fF):SV->Value
 | .c x=>x.den ρ
 | .agg l=> .agg (af ρ l).toArray
 | .tup l=> .tuple (l.map (T1.den ρ)).toArray
def T1.sv:T1->SV
 | .c x=> .c x
 | .agg l=> .agg l
def uv:SV:= .c (.val undef)
def ij {α:Type} (d:α):List α->Nat->α
 |[],_=>d
 |x::_,0=>x
 |_::l,n+1=>ij d l n
def an {α:Type}:List α->Nat->Option α
 |[],_=>none
 |x::_,0=>some x
 |_::l,n+1=>an l n
def fU {α:Type}:List α->Nat->α->(List α->Prop)->Prop
 |[],_,_,K=>K []
 |_::l,0,v,K=>K (v::l)
 |x::l,n+1,v,K=>fU l n v λl=>K (x::l)
def jQ {α:Type}:List α->α->(List α->Prop)->Prop
 |[],v,K=>K [v]
 |x::l,v,K=>jQ l v λl=>K (x::l)
def pE {α:Type}:List α->(Nat->Prop)->Prop
 |[],K=>K 0
 |_::l,K=>pE l λn=>K (n+1)
def C.force (x:C) (K:C->Prop):Prop:=
 match x with
 | .val v=>K (.val v)
 | .int n h=>K (.int n h)
 | .wid k z h=>K (.wid k z h)
 | .ptr b off=>K (.ptr b off)
 | .sli nl b off len cap h=>K (.sli nl b off len cap h)
 | .fn f bd caps=>K (.fn f bd caps)
 | .mp b=>K (.mp b)
def kE:List C->(List C->Prop)->Prop
 |[],K=>K []
 |x::l,K=>x.force λx=>kE l λl=>K (x::l)
def T1.force (x:T1) (K:T1->Prop):Prop:=
 match x with
 | .c x=>x.force λx=>K (.c x)
 | .agg l=>kE l λl=>K (.agg l)
def DV:List T1->(List T1->Prop)->Prop
 |[],K=>K []
 |x::l,K=>x.force λx=>DV l λl=>K (x::l)
def SV.force (v:SV) (K:SV->Prop):Prop:=
 match v with
 | .c x=>x.force λx=>K (.c x)
 | .agg l=>kE l λl=>K (.agg l)
 | .tup l=>DV l λl=>K (.tup l)
def mX (b:Bool) (X Y:Prop):Prop:=
 match b with
 |true=>X
 |false=>Y
inductive Sh where
 |other
 |struct (fs:List (Nat×Nat×Bool))
 |array (n esz:Nat) (eagg:Bool)
 |slice (e:TypeId) (esz:Nat) (ez:List C)
 |int (k:IntKind)
 |bool
 |string
structure TI where
 size:Nat
 agg:Bool
 zero:List C
 sh:Sh
 eq:Option (List K):=none
def Ep:Value->SV
 | .int .i64 n=>if h:IR n then .c (.int n h) else .c (.val (.int .i64 n))
 | .agg cs=> .agg (cs.toList.map .val)
 |v=> .c (.val v)
def gv (d:List SV):Operand->SV
 | .tmp t=>ij uv d t
 | .const v=>Ep v
 | .func f=> .c (.fn f [] [])
 | .global g=> .c (.val (.pointer (some ⟨g,0,none⟩)))
def B1.c:B1->C
 | .val v=> .val v
 | .int n h=> .int n h
 | .wid k z h=> .wid k z h
def C.b1:C->Option B1
 | .val v=>some (.val v)
 | .int n h=>some (.int n h)
 | .wid k z h=>some (.wid k z h)
 |_=>none
def VO:List C->Option (List B1)
 |[]=>some []
 |x::l=>(match x.b1,VO l with|some b,some m=>some (b::m)|_,_=>none)
def a0H:List B1->List SV
 |[]=>[]
 |x::l=>[.agg ((x::l).map B1.c)]
def B1.c_cells ρ (b:B1):b.c.cells ρ=b.cells:=by cases b<;>rfl
def C.b1_cells ρ {x:C} {b:B1} (h:x.b1=some b):x.cells ρ=b.cells:=by cases x<;>cases h<;>rfl
def yx ρ: ∀{l} {m:List B1},VO l=some m->af ρ l=m.flatMap B1.cells
 |[],_,h=>by cases h;rfl
 |x::l,m,h=>by unfold VO at h;split at h;rename_i b f e d;cases h;have:=yx ρ d;unfold af at this⊢;rw[aL,aL,this,C.b1_cells ρ e];cases h
def QM ρ l:((a0H l).map (SV.den ρ)).toArray=IG l:=by
 cases l with
 |nil=>rfl
 |cons x l=>(have:af ρ ((x::l).map B1.c)=(x::l).flatMap B1.cells:=by unfold af;rw[List.flatMap_map];congr 1;funext b;exact B1.c_cells ρ b);show#[Value.agg (af ρ ((x::l).map B1.c)).toArray]=_;rw[this];rfl
def SV.ch:SV->Option (List C)
 | .c x=>(match x.n,x.one with
  |1,true=>some [x]
  |_,_=>none)
 | .agg l=>some l
 | .tup _=>none
def rp:Nat->List C->Option (List C×List C)
 |0,l=>some ([],l)
 |_+1,[]=>none
 |n+1,x::l=>if x.n<=n+1 then(match rp (n+1-x.n) l with|some (a,b)=>some (x::a,b)|none=>none) else none
def bu:List C->Nat
 |[]=>0
 |x::l=>x.n+bu l
def dk (cs:List C) (off n:Nat):Option (List C):=
 match rp off cs with
 |some (_,r)=>(match rp n r with|some (m,_)=>some m|none=>none)
 |none=>none
def ga (cs:List C) (off:Nat) (new:List C):Option (List C):=
 match rp off cs with
 |some (a,r)=>(match rp (bu new) r with|some (_,b)=>some (a++(new++b))|none=>none)
 |none=>none
def CI (agg:Bool) (m:List C):Option SV:=
 match agg,m with
 |true,m=>some (.agg m)
 |false,[x]=>(match x.n with|1=>some (.c x)|_=>none)
 |false,_=>none
def pT:List C->List C
 |[]=>[]
 | .wid _ z _::l=> .val (.bool (decide (z<0))):: .val (.string ⟨(kv z.natAbs).toArray⟩)::pT l
 |x::l=>x::pT l
def TL (cs:List C) (off:Nat) (new:List C):Option (List C):=
 match ga cs off new with
 |some cs=>some cs
 |none=>ga (pT cs) off new
def jP (agg:Bool) (cs:List C) (off n:Nat):Option SV:=
 match dk cs off n with
 |some m=>CI agg m
 |none=>(match dk (pT cs) off n with
  |some m=>CI agg m
  |none=>none)
def qH (d:Nat->Option (Nat×Nat)) (cs:List C):List (Nat×SV)->Option (List C)
 |[]=>some cs
 |(i,v)::rest=>
  match d i,v.ch with
  |some (e,n),some l=>if bu l=n then(match ga cs e l with|some cs=>qH d cs rest|none=>none) else none
  |_,_=>none
def EF:Nat->List C->List C
 |0,_=>[]
 |n+1,l=>l++EF n l
def gJ:List C->Bool
 |[]=>true
 |x::l=>x.one&&gJ l
inductive Y0 where
 |val (v:SV)
 |new (b:aY) (v:Nat->SV)
 |put (b:Nat) (cs:List C)
def bv (b:Bool):Option Y0:=some (.val (.c (.val (.bool b))))
def iv (n:Int):Option Y0:=some (.val (.c (.int (IntKind.i64.wrap n) (IR.wrap n))))
def A9 (a:Bool) (l:List C) (r:Option Bool):Option Bool:=
 match l,r with
 |[],some _=>some a
 |_,some b=>some (a&&b)
 |_,none=>none
def AZ:List K->List C->List C->Option Bool
 |[],[],[]=>some true
 | .b:: .s::ks,.wid _ y _::l,.wid _ z _::m=>A9 (decide (y=z)) l (AZ ks l m)
 | .b:: .s::ks,.wid _ y _::l,.val (.bool b):: .val (.string s)::m=>A9 (decide (y<0)==b&&decide ((⟨(kv y.natAbs).toArray⟩:ByteArray)=s)) l (AZ ks l m)
 | .b:: .s::ks,.val (.bool b):: .val (.string s)::l,.wid _ z _::m=>A9 (b==decide (z<0)&&decide (s=(⟨(kv z.natAbs).toArray⟩:ByteArray))) l (AZ ks l m)
 | .i .i64::ks,.int a _::l,.int b _::m=>A9 (decide (a=b)) l (AZ ks l m)
 | .i k::ks,.val (.int i a)::l,.val (.int j b)::m=>if i=k/\j=k then A9 (decide (a=b)) l (AZ ks l m) else none
 | .b::ks,.val (.bool a)::l,.val (.bool b)::m=>A9 (a==b) l (AZ ks l m)
 | .s::ks,.val (.string a)::l,.val (.string b)::m=>A9 (decide (a=b)) l (AZ ks l m)
 |_,_,_=>none
def sK:Sem Value->Option Y0
 | .pure v=>some (.val (.c (.val v)))
 |_=>none
def IF (T:TypeId->Option TI) (d:BinOp) (t:TypeId) (x y:SV):Option Y0:=
 match x,y with
 | .c (.int a e),.c (.int b _)=>
  match d with
  | .add=>iv (a+b)
  | .sub=>iv (a-b)
  | .mul=>iv (a*b)
  | .eql=>bv (decide (a=b))
  | .neq=>bv (!decide (a=b))
  | .lss=>bv (decide (a<b))
  | .leq=>bv (decide (a<=b))
  | .gtr=>bv (decide (b<a))
  | .geq=>bv (decide (b<=a))
  | .quo=>if b=0 then none else iv (a.tdiv b)
  | .rem=>if b=0 then none else some (.val (.c (.int (a.tmod b) (e.tmod b))))
  | .and=>iv ((BitVec.ofInt 64 a&&&BitVec.ofInt 64 b).toNat)
  | .or=>iv ((BitVec.ofInt 64 a|||BitVec.ofInt 64 b).toNat)
  | .xor=>iv ((BitVec.ofInt 64 a^^^BitVec.ofInt 64 b).toNat)
  | .andNot=>iv ((BitVec.ofInt 64 a&&& ~~~(BitVec.ofInt 64 b)).toNat)
  | .shl=>if b<0 then none else iv (a*2^(min b.toNat 64))
  | .shr=>if b<0 then none else some (.val (.c (.int (a.fdiv (2^(min b.toNat 64))) (e.fdiv _))))
 | .agg l,.agg m=>
  match T t with
  |some {eq:=some ks, .. }=>(match d,AZ ks l m with| .eql,some b=>bv b| .neq,some b=>bv (!b)|_,_=>none)
  |_=>none
 | .c (.val (.bool a)),.c (.val (.bool b))=>(match T t with
  |some {sh:= .bool, .. }=>(match d with| .eql=>bv (a==b)| .neq=>bv (!(a==b))|_=>none)
  |_=>none)
 | .c (.val (.string a)),.c (.val (.string b))=>sK (binOp d t (.string a) (.string b))
 | .c (.val (.int k a)),.c (.val (.int j b))=>sK (binOp d t (.int k a) (.int j b))
 | .c (.int a e),.c (.val (.int _ b))=>
  match d with
  | .shl=>if b<0 then none else iv (a*2^(min b.toNat 64))
  | .shr=>if b<0 then none else some (.val (.c (.int (a.fdiv (2^(min b.toNat 64))) (e.fdiv _))))
  |_=>none
 | .c (.val (.int k a)),.c (.int b _)=>sK (binOp d t (.int k a) (.int .i64 b))
 |_,_=>none
def J6:List SV->Option (List (Nat×Nat))
 |[]=>some []
 | .c (.ptr b o)::l=>(match J6 l with|some m=>some ((b,o)::m)|none=>none)
 |_=>none
def oH:SV->Option Nat
 | .c (.int (.ofNat i) _)=>some i
 |_=>none
def gP (off d l m:Nat):Nat:=match l with|0=>off|l+1=>if m=l+1 then off else off+(l+1)*d
def lW (x:Option SV) (d:Nat):Option Nat:=match x with|none=>some d|some v=>oH v
def a5B (t:Bool) (x y:SV):SV:=match t with|true=>x|false=>y
def mf (T:TypeId->Option TI) (op:Op) (ev:Operand->SV) (hp:Nat->Option aY):Option Y0:=
 match op with
 | .move x=>some (.val (ev x))
 | .assign x=>some (.val (ev x))
 | .pick c a b=>(match ev c with
  | .c (.val (.bool t))=>(match ev a,ev b with
   | .c (.val (.bool x)),.c (.val (.bool y))=>bv (cond t x y)
   |x,y=>some (.val (a5B t x y)))
  |_=>none)
 | .alloc t=>(match T t with
  |some r=>some (.new {ty:=t,ro:=false,cs:=r.zero} λn=> .c (.ptr n 0))
  |none=>none)
 | .box t x=>(match(ev x).ch with
  |some l=>if gJ l then some (.new {ty:=t,ro:=false,cs:=l} λn=> .c (.ptr n 0)) else none
  |none=>none)
 | .buildSlice t len parts=>(match T t with
  |some {sh:= .slice e esz ez, .. }=>(match qH (λi=>some (i*esz,esz)) (EF len ez) (parts.toList.map λp=>(p.1,ev p.2)) with
   |some j=>if h:bZ false len len/\len*esz<=16777216 then some (.new {ty:=e,ro:=false,cs:=j} λn=> .c (.sli false n 0 len len h.1)) else none
   |none=>none)
  |_=>none)
 | .load t x=>(match ev x,T t with
  | .c (.ptr b g),some r=>(match hp b with
   |some blk=>(match jP r.agg blk.cs g r.size with|some v=>some (.val v)|none=>none)
   |none=>none)
  |_,_=>none)
 | .store t x y=>(match ev x,(ev y).ch,T t with
  | .c (.ptr b g),some l,some r=>if bu l=r.size/\gJ l=true then(match hp b with
   |some blk=>if blk.ro then none else(match TL blk.cs g l with|some j=>some (.put b j)|none=>none)
   |none=>none) else none
  |_,_,_=>none)
 | .build t parts=>(match T t with
  |some {sh:= .struct fs,zero:=z, .. }=>(match qH (λi=>match an fs i with|some (o,n,_)=>some (o,n)|none=>none) z (parts.toList.map λp=>(p.1,ev p.2)) with
   |some j=>some (.val (.agg j))
   |none=>(match qH (λi=>match an fs i with|some (o,n,_)=>some (o,n)|none=>none) (pT z) (parts.toList.map λp=>(p.1,ev p.2)) with
    |some j=>some (.val (.agg j))
    |none=>none))
  |some {sh:= .array _ esz _,zero:=z, .. }=>(match qH (λi=>some (i*esz,esz)) z (parts.toList.map λp=>(p.1,ev p.2)) with
   |some j=>some (.val (.agg j))
   |none=>none)
  |_=>none)
 | .binOp op t x y _=>IF T op t (ev x) (ev y)
 | .unOp op _ x=>(match op,ev x with
  | .not,.c (.val (.bool b))=>bv (!b)
  | .neg,.c (.int a _)=>iv (0-a)
  |op,.c (.val (.int k a))=>sK (Op.unary op (.int k a))
  |_,_=>none)
 | .convert s d x=>(match T s,T d,ev x with
  |some _,some {sh:= .int .i64, .. },.c (.int a _)=>iv a
  |some _,some {sh:= .int .i64, .. },.c (.val (.int _ a))=>iv a
  |some _,some {sh:= .int k, .. },.c (.int a _)=>some (.val (.c (.val (.int k (k.wrap a)))))
  |some _,some {sh:= .int k, .. },.c (.val (.int _ a))=>some (.val (.c (.val (.int k (k.wrap a)))))
  |_,_,_=>none)
 | .fieldAddr t x f=>(match T t,ev x with
  |some {sh:= .struct fs, .. },.c (.ptr b g)=>(match an fs f with
   |some (o,n,_)=>if n=0 then none else some (.val (.c (.ptr b (g+o))))
   |none=>none)
  |_,_=>none)
 | .field t x f=>(match T t,ev x with
  |some {sh:= .struct fs, .. },.agg l=>(match an fs f with
   |some (o,n,a)=>(match jP a l o n with|some v=>some (.val v)|none=>none)
   |none=>none)
  |_,_=>none)
 | .indexAddr t x i=>(match T t,ev x,oH (ev i) with
  |some {sh:= .array n esz _, .. },.c (.ptr b g),some i=>if i<n then some (.val (.c (.ptr b (g+i*esz)))) else none
  |some {sh:= .slice _ esz _, .. },.c (.sli _ b g len _ _),some i=>if i<len then some (.val (.c (.ptr b (g+i*esz)))) else none
  |_,_,_=>none)
 | .index t x i=>(match T t,ev x,oH (ev i) with
  |some {sh:= .array n esz a, .. },.agg l,some i=>if i<n then(match jP a l (i*esz) esz with|some v=>some (.val v)|none=>none) else none
  |some {sh:= .string, .. },.c (.val (.string s)),some i=>if i<s.size then some (.val (.c (.val (.int .u8 ((s.data[i]?.getD 0).toNat))))) else none
  |_,_,_=>none)
 | .slice t x lo hi mx=>(match T t,ev x with
  |some {sh:= .slice _ esz _, .. },.c (.sli nl b g len cap h)=>(match lW (lo.map ev) 0,lW (hi.map ev) len,lW (mx.map ev) cap with
   |some l,some k,some m=>if hc:(l<=k/\k<=m/\m<=cap)/\(hi.isSome||mx.isNone)=true then some (.val (.c (.sli nl b (gP g esz l m) (k-l) (m-l) (h.sub hc.1)))) else none
   |_,_,_=>none)
  |some {sh:= .slice _ _ _, .. },.c (.val (.slice a n c))=>(match lW (lo.map ev) 0,lW (hi.map ev) n,mx with
   |some 0,some k,none=>if k<=c then some (.val (.c (.val (.slice a k c)))) else none
   |_,_,_=>none)
  |some {sh:= .string, .. },.c (.val (.string s))=>(match lW (lo.map ev) 0,lW (hi.map ev) s.size,mx with
   |some l,some k,none=>if l<=k/\k<=s.size then some (.val (.c (.val (.string (s.extract l k))))) else none
   |_,_,_=>none)
  |_,_=>none)
 | .nilCheck x=>(match ev x with
  | .c (.ptr b g)=>some (.val (.c (.ptr b g)))
  | .c (.fn f bd caps)=>some (.val (.c (.fn f bd caps)))
  |_=>none)
 | .extract x i=>(match ev x with
  | .tup l=>(match an l i with|some t=>some (.val t.sv)|none=>none)
  |_=>none)
 | .makeFunc fn first captured=>(match fn,first.toList,J6 (captured.toList.map ev) with
  | .func f,[],some ps=>some (.val (.c (.fn f [] ps)))
  | .func f,[x],some []=>(match ev x with
   | .agg l=>(match VO l with
    |some (b::bs)=>some (.val (.c (.fn f (b::bs) [])))
    |_=>none)
   |_=>none)
  |_,_,_=>none)
 | .call c=>(match c.callee,c.args.toList,c.argTypes.toList with
  | .builtin .len,[x],[t]=>(match T t,ev x with
   |some {sh:= .slice _ _ _, .. },.c (.sli _ _ _ len _ h)=>some (.val (.c (.int len h.ir)))
   |some {sh:= .slice _ _ _, .. },.c (.val (.slice _ len _))=>if h:IR len then some (.val (.c (.int len h))) else none
   |some {sh:= .string, .. },.c (.val (.string s))=>if h:IR s.size then some (.val (.c (.int s.size h))) else none
   |_,_=>none)
  | .builtin .min,[x,y],_=>(match ev x,ev y with
   | .c (.int a q),.c (.int b hb)=>some (.val (.c (.int (minI a b) (q.minI hb))))
   |_,_=>none)
  | .builtin .max,[x,y],_=>(match ev x,ev y with
   | .c (.int a q),.c (.int b hb)=>some (.val (.c (.int (maxI a b) (q.maxI hb))))
   |_,_=>none)
  | .builtin .min,[x,y,z],_=>(match ev x,ev y,ev z with
   | .c (.int a q),.c (.int b hb),.c (.int c hc)=>some (.val (.c (.int (minI (minI a b) c) ((q.minI hb).minI hc))))
   |_,_,_=>none)
  | .builtin .max,[x,y,z],_=>(match ev x,ev y,ev z with
   | .c (.int a q),.c (.int b hb),.c (.int c hc)=>some (.val (.c (.int (maxI (maxI a b) c) ((q.maxI hb).maxI hc))))
   |_,_,_=>none)
  |_,_,_=>none)
 |_=>none
structure ic where
 T:TypeId->Option TI
 un:Nat
 D:FuncId->List SV->(Nat->Option aY)->Option (Option Prop×SV)
 O:Oper->List SV->List aY->(List SV->List aY->Prop)->Prop:=λ_ _ _ _=>False
 n0:Nat:=0
 ord:Nat->Bool:=λ_=>false
 R:FuncId->List (Nat×Nat)->(Nat->Option aY)->(List Nat->List (List SV)->Prop)->Prop:=λ_ _ _ _=>False
 X:FuncId->List SV->(Nat->Option aY)->SV->Prop:=λ_ _ _ _=>False
def fI (d:Option Tmp) (v:SV) (e:List SV) (K:List SV->Prop):Prop:=
 match d with
 |some t=>fU e t v K
 |none=>K e
def callee (ev:Operand->SV) (c:Call):Option (FuncId×List SV):=
 match c.callee with
 | .value f=>(match ev f with
  | .c (.fn f e d)=>some (f,a0H e++(c.args.toList.map ev++d.map λp=> .c (.ptr p.1 p.2)))
  |_=>none)
 |_=>none
inductive sQ (o:Oper) (why:Nat) (ev:List SV):Prop
def kU (o:Oper) (d:List SV):List SV:=o.op.operands.toList.map (gv d)
def wJ (E:ic) (H:FuncId->List SV->List aY->(SV->List aY->Prop)->Prop) (o:Oper) (d:List SV) (hp:List aY) (K:List SV->List aY->Prop):Prop:=
 match mf E.T o.op (gv d) (an hp) with
 |some (.val v)=>v.force λv=>fI o.dst v d λd=>K d hp
 |some (.new ⟨g,ro,e,tl⟩ v)=>kE e λe=>jQ hp ⟨g,ro,e,tl⟩ λh=>pE hp λn=>(v n).force λv=>fI o.dst v d λd=>K d h
 |some (.put b e)=>kE e λe=>(match an hp b with|some ⟨g,ro,_,tl⟩=>fU hp b ⟨g,ro,e,tl⟩ λhp=>fI o.dst uv d λd=>K d hp|none=>sQ o 1 (kU o d))
 |none=>(match o.op with
  | .call c=>(match callee (gv d) c with
   |some (f,args)=>(match E.D f args (an hp) with
    |some (none,v)=>v.force λv=>fI o.dst v d λd=>K d hp
    |some (some p,v)=>p/\v.force λv=>fI o.dst v d λd=>K d hp
    |none=>H f args hp λv hp=>v.force λv=>fI o.dst v d λd=>K d hp)
   |none=>E.O o d hp K)
  |_=>E.O o d hp K)
def lh (all:Array Oper) (j:Nat):Option Tmp:=
 match an all.toList j with
 |some o=>o.dst
 |none=>none
def lV (E:ic) (H:FuncId->List SV->List aY->(SV->List aY->Prop)->Prop) (all:Array Oper):List Oper->List SV->List aY->(List SV->List aY->Prop)->Prop
 |[],d,e,K=>K d e
 |o::os,d,e,K=>
  match o.guard with
  |none=>wJ E H o d e λd e=>lV E H all os d e K
  |some (j,want)=>(match lh all j with
   |some t=>(match ij uv d t with
    | .c (.val (.bool b))=>(match want with
     |true=>mX b (fU d t (.c (.val (.bool true))) λd=>wJ E H o d e λd e=>lV E H all os d e K) (fU d t (.c (.val (.bool false))) λd=>fI o.dst uv d λd=>lV E H all os d e K)
     |false=>mX b (fU d t (.c (.val (.bool true))) λd=>fI o.dst uv d λd=>lV E H all os d e K) (fU d t (.c (.val (.bool false))) λd=>wJ E H o d e λd e=>lV E H all os d e K))
    | .c (.val (.tuple _))=>fI o.dst uv d λd=>lV E H all os d e K
    |_=>sQ o 4 (kU o d))
   |none=>sQ o 5 (kU o d))
inductive SE where
 |normal
 |exit (id:Nat)
 |ret
def tV (b:List SV->List aY->(SE->List SV->List aY->Prop)->Prop) (Q:SE->List SV->List aY->Prop):Nat->List SV->List aY->Prop
 |0,_,_=>False
 |n+1,d,f=>b d f λe d f=>(match e with| .normal=>tV b Q n d f| .exit id=>Q (.exit id) d f| .ret=>Q .ret d f)
def Vf:List Nat->Nat->Bool
 |[],_=>false
 |a::l,i=>a==i||Vf l i
def sq:List Nat->Nat->Nat->Option Nat
 |[],_,_=>none
 |a::l,i,k=>if a=i then some k else sq l i (k+1)
def TS (d:List Nat):List (Nat×Nat)->Option (List (Nat×Nat))
 |[]=>some []
 |p::l=>(match sq d p.1 0,TS d l with|some b,some l=>some ((b,p.2)::l)|_,_=>none)
def C.ren (e:List Nat):C->Option C
 | .ptr b off=>(match sq e b 0 with|some b=>some (.ptr b off)|none=>none)
 | .sli nl b off len cap h=>(match sq e b 0 with|some b=>some (.sli nl b off len cap h)|none=>none)
 | .fn f bd d=>(match TS e d with|some d=>some (.fn f bd d)|none=>none)
 | .mp b=>(match sq e b 0 with|some b=>some (.mp b)|none=>none)
 |x=>some x
def wm (d:List Nat):List C->Option (List C)
 |[]=>some []
 |x::l=>(match x.ren d,wm d l with|some x,some l=>some (x::l)|_,_=>none)
def T1.ren (d:List Nat):T1->Option T1
 | .c x=>(match x.ren d with|some x=>some (.c x)|none=>none)
 | .agg l=>(match wm d l with|some l=>some (.agg l)|none=>none)
def TT (d:List Nat):List T1->Option (List T1)
 |[]=>some []
 |x::l=>(match x.ren d,TT d l with|some x,some l=>some (x::l)|_,_=>none)
def SV.ren (d:List Nat):SV->Option SV
 | .c x=>(match x.ren d with|some x=>some (.c x)|none=>none)
 | .agg l=>(match wm d l with|some l=>some (.agg l)|none=>none)
 | .tup l=>(match TT d l with|some l=>some (.tup l)|none=>none)
def va (d keep:List Nat) (e:Nat->Value):Nat->List SV->(List SV->Prop)->Prop
 |_,[],K=>K []
 |i,x::l,K=>(match Vf keep i with
  |false=>va d keep e (i+1) l λl=>K (.c (.val (e i))::l)
  |true=>(match x.ren d with
   |some y=>va d keep e (i+1) l λl=>K (y::l)
   |none=>va d keep e (i+1) l λl=>K (.c (.val (e i))::l)))
def cC (l:List C):Prop:= ∀e d:fF,l.flatMap (C.cells e)=l.flatMap (C.cells d)
def Am (hp:List aY) (d f:List Nat):Nat->List Nat->(List aY->Prop)->Prop
 |_,[],K=>K []
 |k,a::l,K=>(match an hp a with
  |some ⟨g,ro,e,tl⟩=>(match Vf f k with
   |true=>cC e/\Am hp d f (k+1) l λl=>K (⟨g,ro,e,tl⟩::l)
   |false=>(match wm d e with
    |some e=>Am hp d f (k+1) l λl=>K (⟨g,ro,e,tl⟩::l)
    |none=>False))
  |none=>(match a6d 1000000 a with
   |true=>Am hp d f (k+1) l λl=>K ({ty:= .x [],ro:=true,cs:=[],tl:=2}::l)
   |false=>Am hp d f (k+1) l λl=>K ({ty:= .t ((a-1000) % 1000),ro:=true,cs:=[],tl:=0}::l)))
def Hf:Nat->Nat->List Nat->Bool
 |0,_,_=>true
 |n+1,i,a::l=>a==i&&Hf n (i+1) l
 |_+1,_,[]=>false
def ndL:List Nat->Bool
 |[]=>true
 |a::l=> !Vf l a&&ndL l
def pt (n0:Nat) (d keep g:List Nat) (i:Nat->Value) (h:List SV) (hp:List aY) (K:List SV->List aY->Prop):Prop:=
 match Hf n0 0 d&&ndL d with
 |true=>Am hp d g 0 d λf=>va d keep i 0 h λe=>K e f
 |false=>False
def iw:List SV->List SV->Prop
 |[],[]=>True
 |x::l,y::m=>(∀d,x.den d=y.den d)/\iw l m
 |_,_=>False
def gx:List aY->List aY->Prop
 |[],[]=>True
 |b::l,c::m=>(b.ty=c.ty/\b.ro=c.ro/\b.tl=c.tl/\ ∀d,af d b.cs=af d c.cs)/\gx l m
 |_,_=>False
def lK (n0:Nat) (g:List SV) (hp:List aY) (I:List SV->List aY->Prop):Prop:=∃f keep h:List Nat,∀i,pt n0 f keep h i g hp λg hp=> ∃e d,iw g e/\gx hp d/\I e d
def ZO (un n0:Nat) (b:List SV->List aY->(SE->List SV->List aY->Prop)->Prop) (g:List SV) (hp:List aY) (Q:SE->List SV->List aY->Prop):Prop:=
 match un with
 |n+1=>tV b Q (n+1) g hp
 |0=>(∃n,tV b Q n g hp)\/ ∃(I:Nat->List SV->List aY->Prop),lK n0 g hp (λg hp=> ∃n,I n g hp)/\
  ∀n d f,I n d f->b d f λe d f=>(match e with
   | .normal=>lK n0 d f λg hp=> ∃h,h<n/\I h g hp
   | .exit id=>Q (.exit id) d f
   | .ret=>Q .ret d f)
def vu (o:Oper) (j:Nat):Bool:=o.after.toList.any λe=>decide (e.on=j)&&Region.binds .any e
def gO:Op->Bool
 | .store _ _ _=>true
 |_=>false
def OF:List (Nat×Nat)->Nat->Option Nat
 |[],_=>none
 |(a,b)::l,n=>if a=n then some b else OF l n
def G9 (n0:Nat) (o:Oper) (d:List (Nat×Nat)) (b:Nat):Bool:=decide (b<n0)||(match OF d b with|some j=>vu o j|none=>false)
def Ve (n0:Nat) (o:Oper) (d:List (Nat×Nat)) (hp:List aY):Nat->Option aY:=λb=>if G9 n0 o d b=true then an hp b else none
def wa:List Edge->List Nat->Nat
 |[],_=>0
 |e::es,acc=>(if Region.binds .any e=true then 2^e.on|||ij 0 acc e.on else 0)|||wa es acc
def qU:List Oper->List Nat->List Nat
 |[],acc=>acc
 |o::os,acc=>qU os (acc++[wa o.after.toList acc])
def gY:Op->Bool
 | .load _ _=>true
 | .call c=>(match c.callee with| .builtin _=>false|_=>true)
 | .select _ _=>true
 |_=>false
def L8 (d:List Nat) (e:List (Nat×Nat)) (b n0 i:Nat):Nat->List Oper->Bool
 |_,[]=>true
 |j,a::l=>(decide (i<=j)|| !gY a.op||(ij 0 d i).testBit j||(decide (n0<=b)&&(match OF e b with|some k=> !vu a k|none=>false)))&&L8 d e b n0 i (j+1) l
def Uc {a:Int} (h:0<=a/\a<=1000000):bZ false a.toNat a.toNat:=⟨ai _,om,λh=>by cases h⟩
def mkE (T:TypeId->Option TI) (d:Op) (ev:Operand->SV):Option Y0:=
 match d with
 | .makeSlice t l c=>(match T t,ev l,ev c with
  |some {sh:= .slice e _ [x], .. },.c (.int a _),.c (.int b _)=>if h:(0<=a/\a<=1000000)/\a=b/\x.n=1 then some (.new {ty:=e,ro:=false,cs:=au a.toNat x} λn=> .c (.sli false n 0 a.toNat a.toNat (Uc h.1))) else none
  |_,_,_=>none)
 |_=>none
def U8 (T:TypeId->Option TI) (e:List aY) (m:Op) (ev:Operand->SV) (v:SV):Prop:=
 match m with
 | .indexAddr t x i=>(match T t with
  |some {sh:= .slice _ esz _, .. }=> ∃r d len cap j,ev x= .c (.val (.slice (some ⟨r,d,none⟩) len cap))/\oH (ev i)=some j/\j<len/\v= .c (.val (.pointer (some ⟨r,d+j*esz,none⟩)))
  |some {sh:= .array n esz _, .. }=> ∃r d j,ev x= .c (.val (.pointer (some ⟨r,d,none⟩)))/\oH (ev i)=some j/\j<n/\v= .c (.val (.pointer (some ⟨r,d+j*esz,none⟩)))
  |_=>False)
 | .load t x=>(match T t with
  |some h=> ∃r g d p b o l k,ev x= .c (.val (.pointer (some ⟨r,g+d,none⟩)))/\(an e p=some b/\b.famOf=some (o,l)/\pg l (r,g) k)/\(jP h.agg k d h.size=some v/\ ∀q f:fF,v.den q=v.den f)
  |none=>False)
 |_=>False
def CF (E:ic) (all:Array Oper) (g:List aY) (o:Oper) (i:Nat) (e:List (Nat×Nat)) (d:List SV) (hp:List aY) (K:List (Nat×Nat)->List SV->List aY->Prop):Prop:=
 match gO o.op with
 |true=>(match mf E.T o.op (gv d) (an hp) with
  |some (.put b h)=>if(G9 (ln g) o e b&&L8 (qU all.toList []) e b (ln g) i 0 all.toList)=true then
    (kE h λh=>(match an hp b with|some ⟨k,ro,_,tl⟩=>fU hp b ⟨k,ro,h,tl⟩ λhp=>fI o.dst uv d λd=>K e d hp|none=>sQ o 6 (kU o d))) else sQ o 7 (kU o d)
  |_=>sQ o 8 (kU o d))
 |false=>(match mf E.T o.op (gv d) (Ve (ln g) o e hp) with
  |some (.val v)=>v.force λv=>fI o.dst v d λd=>K e d hp
  |some (.new ⟨k,ro,h,tl⟩ v)=>kE h λh=>jQ hp ⟨k,ro,h,tl⟩ λj=>pE hp λn=>(v n).force λv=>fI o.dst v d λd=>K ((n,i)::e) d j
  |some (.put _ _)=>sQ o 9 (kU o d)
  |none=>(match o.op with
   | .call c=>(match callee (gv d) c with
    |some (f,args)=>(match E.D f args (Ve (ln g) o e hp) with
     |some (none,v)=>v.force λv=>fI o.dst v d λd=>K e d hp
     |some (some p,v)=>p/\v.force λv=>fI o.dst v d λd=>K e d hp
     |none=> ∃v,E.X f args (Ve (ln g) o e hp) v/\v.force λv=>fI o.dst v d λd=>K e d hp)
    |none=>sQ o 11 (kU o d))
   | .makeSlice _ _ _=>(match mkE E.T o.op (gv d) with
    |some (.new ⟨k,ro,h,tl⟩ v)=>kE h λh=>jQ hp ⟨k,ro,h,tl⟩ λj=>pE hp λn=>(v n).force λv=>fI o.dst v d λd=>K ((n,i)::e) d j
    |_=>sQ o 12 (kU o d))
   |_=> ∃v,U8 E.T g o.op (gv d) v/\v.force λv=>fI o.dst v d λd=>K e d hp))
def sB (E:ic) (all:Array Oper) (e:List aY):List Oper->Nat->List (Nat×Nat)->List SV->List aY->(List SV->List aY->Prop)->Prop
 |[],_,_,d,f,K=>K d f
 |o::os,i,g,d,f,K=>
  match o.guard with
  |none=>CF E all e o i g d f λg d f=>sB E all e os (i+1) g d f K
  |some (j,want)=>(match lh all j with
   |some t=>(match ij uv d t with
    | .c (.val (.bool b))=>(match want with
     |true=>mX b (fU d t (.c (.val (.bool true))) λd=>CF E all e o i g d f λg d f=>sB E all e os (i+1) g d f K) (fU d t (.c (.val (.bool false))) λd=>fI o.dst uv d λd=>sB E all e os (i+1) g d f K)
     |false=>mX b (fU d t (.c (.val (.bool true))) λd=>fI o.dst uv d λd=>sB E all e os (i+1) g d f K) (fU d t (.c (.val (.bool false))) λd=>CF E all e o i g d f λg d f=>sB E all e os (i+1) g d f K))
    | .c (.val (.tuple _))=>fI o.dst uv d λd=>sB E all e os (i+1) g d f K
    |_=>sQ o 13 (kU o d))
   |none=>sQ o 14 (kU o d))
def a5V (d:List Nat):Nat->List Oper->Nat
 |0,_=>0
 |_,[]=>0
 |i+1,o::l=>(match o.guard with
  |none=>if(ij 0 d i&&&(2^i-1))=2^i-1 then a5V d i l+1 else 0
  |some _=>0)
def Zz (i:Nat):List Edge->Bool
 |[]=>true
 |e::l=>decide (e.on<i)&&Zz i l
def R6:Nat->List Oper->Bool
 |_,[]=>true
 |i,o::l=>Zz i o.after.toList&&R6 (i+1) l
def Bt (ops:List Oper):Nat:=match R6 0 ops with|true=>a5V (qU ops []) (ln ops) ops.reverse|false=>0
def Vw:List Nat->(Nat->Prop)->Prop
 |[],_=>True
 |i::l,p=>p i/\Vw l p
def Bp (d:List Bool):List Edge->Bool
 |[]=>true
 |e::l=>(!Region.binds .any e||ij false d e.on)&&Bp d l
def xH (d:List Bool):Nat->List Oper->List Nat
 |_,[]=>[]
 |i,o::l=>(match !ij true d i&&Bp d o.after.toList with|true=>i::xH d (i+1) l|false=>xH d (i+1) l)
def xJ:List Bool->Nat->List Bool
 |[],_=>[]
 |_::l,0=>true::l
 |x::l,n+1=>x::xJ l n
def vX:List Oper->List Bool
 |[]=>[]
 |_::l=>false::vX l
def Cl:List Oper->Bool
 |[]=>true
 |o::l=>(match o.op with| .select _ _=>false|_=>Cl l)
def xx (T:TypeId->Option TI) (ops:List Oper) (d:List SV):List Nat->(Nat->Oper->SV->Prop)->Prop->Prop
 |[],_,Z=>Z
 |i::l,K,Z=>(match an ops i with
  |some o=>(match o.guard with
   |none=>(match mf T o.op (gv d) (λ_=>none) with
    |some (.val v)=>K i o v
    |_=>xx T ops d l K Z)
   |some _=>xx T ops d l K Z)
  |none=>xx T ops d l K Z)
def CH (E:ic) (H:FuncId->List SV->List aY->(SV->List aY->Prop)->Prop) (ops:List Oper):List Oper->List Bool->List SV->List aY->(List SV->List aY->Prop)->Prop
 |[],listed,d,e,K=>(match xH listed 0 ops with|[]=>K d e|_=>False)
 |_::fuel,listed,d,e,K=>(match xH listed 0 ops with
  |[]=>K d e
  |i::l=>xx E.T ops d (match Cl ops with|true=>i::l|false=>[]) (λi o v=>v.force λv=>fI o.dst v d λd=>CH E H ops fuel (xJ listed i) d e K) (Vw (i::l) λi=>(match an ops i with
   |some o=>(match o.guard with
    |none=>wJ E H o d e λd e=>CH E H ops fuel (xJ listed i) d e K
    |some _=>False)
   |none=>False)))
def a4F (ops:List Oper) (o:Oper) (j:Nat) (f:Bool) (d:List SV) (e skip:List SV->Prop):Prop:=
 match lh ops.toArray j with
 |some t=>(match ij uv d t with
  | .c (.val (.bool b))=>(match f with
   |true=>mX b (fU d t (.c (.val (.bool true))) e) (fU d t (.c (.val (.bool false))) skip)
   |false=>mX b (fU d t (.c (.val (.bool true))) skip) (fU d t (.c (.val (.bool false))) e))
  | .c (.val (.tuple _))=>skip d
  |_=>sQ o 13 (kU o d))
 |none=>sQ o 14 (kU o d)
def ZS:List Oper->Bool
 |[]=>true
 |o::l=>(match o.guard with|none=>ZS l|some _=>false)
def n8 (E:ic) (H:FuncId->List SV->List aY->(SV->List aY->Prop)->Prop) (ops:List Oper):List Oper->List Bool->List SV->List aY->(List SV->List aY->Prop)->Prop
 |[],listed,d,e,K=>(match xH listed 0 ops with|[]=>K d e|_=>False)
 |_::fuel,listed,d,e,K=>(match xH listed 0 ops with
  |[]=>K d e
  |i::l=>xx E.T ops d (match Cl ops with|true=>i::l|false=>[]) (λi o v=>v.force λv=>fI o.dst v d λd=>n8 E H ops fuel (xJ listed i) d e K) (Vw (i::l) λi=>(match an ops i with
   |some o=>(match o.guard with
    |none=>wJ E H o d e λd e=>n8 E H ops fuel (xJ listed i) d e K
    |some (j,want)=>a4F ops o j want d (λd=>wJ E H o d e λd e=>n8 E H ops fuel (xJ listed i) d e K) (λd=>fI o.dst uv d λd=>n8 E H ops fuel (xJ listed i) d e K))
   |none=>False)))
def Hu:List Tmp->List SV->List SV->(List SV->Prop)->Prop
 |[],[],d,K=>K d
 |p::ps,x::xs,d,K=>fU d p x λd=>Hu ps xs d K
 |_,_,_,_=>False
def kY (f:List Nat) (hp d:List aY):Prop:=
 match f with
 |[]=>True
 |b::l=>(match an hp b,an d b with
  |some ⟨.t g,ro,cs,tl⟩,some ⟨.t ty',ro',cs',tl'⟩=>(ty'=g/\ro'=ro/\tl'=tl)/\(∀e,af e cs=af e cs')/\kY l hp d
  |some ⟨.x l1,true,[],k⟩,some ⟨.x l2,true,[],k'⟩=>k'=k/\(∃m,l2=l1++m)/\kY l hp d
  |_,_=>False)
def Iq (n0:Nat) (hp:List aY) (J:List aY->Prop):Prop:=J hp\/lK n0 [] hp λ_ hp=>J hp
def wk (n0:Nat) (ps:List Tmp) (caps:List Nat) (b:List SV->List aY->(SE->List SV->List aY->Prop)->Prop) (f:List SV) (Q:SE->List SV->List aY->Prop):List (List SV)->List aY->Prop
 |[],hp=>Q .normal f hp
 |x::xs,hp=>Hu ps x f λg=>b g hp λe _ d=>(match e with
  | .normal=>Iq n0 d λd=>kY caps hp d/\wk n0 ps caps b f Q xs d
  | .exit id=>Q (.exit id) f d
  | .ret=>Q .ret f d)
def shE (p:Nat):List Edge->List Edge
 |[]=>[]
 |e::l=>(match a6d p e.on with|true=>{e with on:=e.on-p}::shE p l|false=>shE p l)
def Pq (p:Nat) (o:Oper):Oper:={o with after:=(shE p o.after.toList).toArray,guard:=(match o.guard with|some (j,w)=>some (j-p,w)|none=>none)}
def MI (p:Nat) (ops:List Oper):List Oper:=(ops.drop p).map (Pq p)
def RM (d:List Nat) (p:Nat):Nat->List Oper->Bool
 |_,[]=>true
 |i,o::l=>(match a6d p i with
  |true=>(match o.guard with|none=>true|some (j,_)=>a6d p j)&&Nat.beq (ij 0 d i&&&(2^p-1)) (2^p-1)
  |false=>(match o.guard with|none=>true|some (j,_)=>Nat.blt j p))&&RM d p (i+1) l
def yW:Nat->List Oper->Bool
 |_,[]=>true
 |i,o::os=>(o.after.toList.all λe=> !Region.binds .any e||decide (e.on<i))&&yW (i+1) os
def RL (ops:List Oper) (d:List Nat):Nat->Nat->Option Nat
 |0,_=>none
 |n+1,p=>(match yW 0 (ops.take p)&&RM d p 0 ops with|true=>some p|false=>RL ops d n (p+1))
def WA (ops:List Oper):Option Nat:=
 match R6 0 ops with
 |true=>none
 |false=>(match ops with|[]=>none|_::l=>RL ops (qU ops []) (ln l) 1)
def AK (E:ic) (H:FuncId->List SV->List aY->(SV->List aY->Prop)->Prop) (id:Nat) (ops:List Oper) (d:List SV) (hp:List aY) (K:List SV->List aY->Prop):Prop:=
 match (ln ops)-Bt ops with
 |m=>(match E.ord id with
  |false=>sB E (ops.take m).toArray hp (ops.take m) 0 [] d hp λd hp=>lV E H ops.toArray (ops.drop m) d hp K
  |true=>(match ZS (ops.take m) with
   |true=>CH E H (ops.take m) (ops.take m) (vX (ops.take m)) d hp λd hp=>lV E H ops.toArray (ops.drop m) d hp K
   |false=>n8 E H (ops.take m) (ops.take m) (vX (ops.take m)) d hp λd hp=>lV E H ops.toArray (ops.drop m) d hp K))
def vcR (E:ic) (H:FuncId->List SV->List aY->(SV->List aY->Prop)->Prop) (id:Nat):List Oper->List Oper->List SV->List aY->(List SV->List aY->Prop)->Prop
 |[],ops,d,e,K=>AK E H id ops d e K
 |_::f,ops,d,e,K=>(match WA ops with
  |none=>AK E H id ops d e K
  |some p=>AK E H id (ops.take p) d e λd e=>vcR E H id f (MI p ops) d e K)
def ic.at (E:ic) (n:Nat):ic:={T:=E.T,un:=E.un,D:=E.D,O:=E.O,n0:=n,ord:=E.ord,R:=E.R,X:=E.X}
def Fl (E:ic) (H:FuncId->List SV->List aY->(SV->List aY->Prop)->Prop):Code->List SV->List aY->(SE->List SV->List aY->Prop)->Prop
 | .skip,h,d,Q=>Q .normal h d
 | .ret,h,d,Q=>Q .ret h d
 | .exit id,h,d,Q=>Q (.exit id) h d
 | .seq a b,h,d,Q=>Fl E H a h d λe h d=>(match e with| .normal=>Fl E H b h d Q| .exit id=>Q (.exit id) h d| .ret=>Q .ret h d)
 | .cond c x y,h,d,Q=>(match gv h c with
  | .c (.val (.bool b))=>mX b (Fl E H x h d Q) (Fl E H y h d Q)
  |_=>False)
 | .block id c,h,d,Q=>Fl E H c h d λe h d=>(match e with| .normal=>Q .normal h d| .exit i=>if i=id then Q .normal h d else Q (.exit i) h d| .ret=>Q .ret h d)
 | .loop c,h,d,Q=>ZO E.un E.n0 (λh d Q=>Fl E H c h d Q) h d Q
 | .region id ops draw,h,d,Q=>(match draw with
  |false=>lV E H ops ops.toList h d λh d=>Q .normal h d
  |true=>vcR E H id ops.toList ops.toList h d λh d=>Q .normal h d)
 | .rangeFunc g ps a b,h,d,Q=>(match gv h g with
  | .c (.fn f [] j)=>E.R f j (an d) λk m=>kY k d d/\wk (ln d) ps.toList k (λh d Q=>Fl (E.at (ln d)) H a h d λe h d=>(match e with| .normal=>Fl (E.at (ln d)) H b h d Q|_=>False)) h Q m d
  |_=>False)
 |_,_,_,_=>False
def a2P (T:TypeId->Option TI) (r:ResultVar) (e:List SV) (hp:List aY):Option T1:=
 match r with
 | .tmp t=>(match ij uv e t with| .c x=>some (.c x)| .agg l=>some (.agg l)| .tup _=>none)
 | .cell a t=>(match ij uv e a,T t with
  | .c (.ptr b d),some ti=>(match an hp b with
   |some blk=>(match jP ti.agg blk.cs d ti.size with|some (.c x)=>some (.c x)|some (.agg l)=>some (.agg l)|_=>none)
   |none=>none)
  |_,_=>none)
def Yb (T:TypeId->Option TI):List ResultVar->List SV->List aY->(List T1->Prop)->Prop
 |[],_,_,K=>K []
 |r::rs,tm,hp,K=>(match a2P T r tm hp with|some v=>v.force λv=>Yb T rs tm hp λl=>K (v::l)|none=>False)
def TU (T:TypeId->Option TI) (e:List ResultVar) (d:List SV) (hp:List aY) (K:SV->List aY->Prop):Prop:=Yb T e d hp λl=>(match l with|[v]=>K v.sv hp|l=>K (.tup l) hp)
def XW:Nat->(List SV->Prop)->Prop
 |0,K=>K []
 |n+1,K=>XW n λl=>K (uv::l)
def Vy:List SV->List SV->(List SV->Prop)->Prop
 |[],l,K=>K l
 |x::m,l,K=>Vy m l λl=>K (x::l)
def A5 (E:ic) (H:FuncId->List SV->List aY->(SV->List aY->Prop)->Prop) (fn:Func) (args:List SV) (hp:List aY) (K:SV->List aY->Prop):Prop:=
 match fn.body with
 |some c=>XW (fn.ntmps-ln args) λf=>Vy args f λd=>Fl {T:=E.T,un:=E.un,D:=E.D,O:=E.O,n0:=ln hp,ord:=E.ord,R:=E.R,X:=E.X} H c d hp λe d hp=>(match e with
  | .normal=>TU E.T fn.results.toList d hp K
  | .ret=>TU E.T fn.results.toList d hp K
  | .exit _=>False)
 |none=>False
def inl (E:ic) (F:FuncId->Option Func):Nat->FuncId->List SV->List aY->(SV->List aY->Prop)->Prop
 |0,_,_,_,_=>False
 |n+1,f,args,hp,K=>(match F f with|some fn=>A5 E (inl E F n) fn args hp K|none=>False)
end
end Go.Proofs.YtlgcobafjbajdaaGreatDoor
