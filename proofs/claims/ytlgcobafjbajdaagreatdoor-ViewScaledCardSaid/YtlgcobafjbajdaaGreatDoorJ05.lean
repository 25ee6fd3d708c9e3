/- w -/
import Derived.Test.YtlgcobafjbajdaaGreatDoorJ01
import Derived.Maps.AppendAt
import Derived.RangeFuncBox
import Derived.Test.YtlgcobafjbajdaaGreatDoorJ04
import Derived.Test.YtlgcobafjbajdaaGreatDoorJ03
namespace Go.Proofs.YtlgcobafjbajdaaGreatDoor
open Tryz
open Go.RowKit
open Int renaming natCast_mul→gM
open List renaming drop_zero→it,length→ln,map_append→aV
open Nat renaming mul_add→fa,mul_assoc→gg,pow_succ→eo
set_option linter.all false
set_option maxRecDepth 100000
set_option maxHeartbeats 4000000
def Vm {k1 k2 b1 b2 s1 s2 z1 z2} (h1:ku k1 b1 s1 z1) (h2:ku k2 b2 s2 z2) (hk1:k1<=100000000) (hk2:k2<=100000000) w: Calls prog 56 #[.agg #[.bool b1,.string s1],.agg #[.bool b2,.string s2]] w (iS (k1+k2+7) (z1*z2) w):=by
 have H1:=am h1;have H2:=am h2;clear h1 h2;go_enter func56, ntmps56
 go_wp2_with fail
 have hm1:=H1.out.dig_len om;have hm2:=H2.out.dig_len om;obtain⟨W0,hW0⟩: ∃W0,W0=((w.alloc (.cells #[.bool b1,.string s1] 61)).alloc (.cells #[.bool b2,.string s2] 61)).alloc (.cells #[.bool false,.string ⟨#[]⟩] 61):=⟨_,rfl⟩;rw[<-hW0];obtain⟨f1,f2,f3,f4,f5,f6,f7,f8,hblk,hbel,hsz⟩:=rG _ _ _ _ _ _ _ _ _ _ _ hW0;clear hW0;have HBLK:=am hblk;have HSZ:=am hsz;have HBEL:=am hbel;clear hblk hsz hbel
 go_region_held3 (λw'=>w'.cell? ⟨w.heap.size,0,none⟩=some (.bool b1)/\w'.cell? ⟨w.heap.size,1,none⟩=some (.string s1)/\w'.cell? ⟨w.heap.size+1,0,none⟩=some (.bool b2)/\w'.cell? ⟨w.heap.size+1,1,none⟩=some (.string s2))
  (first
   |(go_keep;done)
   |((try go_split_ands);(try dsimp only);(repeat' apply And.intro)<;>first|assumption|exact ar aq aq|exact eQ (eQ aq du) du|go_keep))
  (first
   |(go_at_call_of 86 (Value.agg #[.bool b1,.string s1]);refine(rz H1.out om _).mono ?_;rintro e wA ⟨A1,n1,c1,rfl,hl1,hn1,hc1,hw1,hb1⟩)
   |(go_at_call_of 86 (Value.agg #[.bool b2,.string s2]);refine(rz H2.out om _).mono ?_;rintro e wB ⟨A2,n2,c2,rfl,hl2,hn2,hc2,hw2,hb2⟩)
   |(go_at_call 87;refine(XI (fK WB z1.natAbs) (fK WB z2.natAbs) A1 A2 n1 n2 c1 c2 _ (eT eJ _) (eT eJ _) (lZ hb2 hw1) hw2 hl1 hl2 om om).mono ?_;rintro e wC ⟨A3,n3,c3,rfl,hl3,hn3,hc3,hw3,hb3⟩)
   |(go_at_call 88;rw[dm eJ,dm eJ] at hl3 hw3;refine(rv (z1.natAbs*z2.natAbs) A3 n3 c3 _ _ hw3 hl3 (by have:=Ga H1.out H2.out hk1 hk2;omega) hn3 (aC hc3 dc)).mono ?_;rintro e wD ⟨rfl,hb4⟩;unfold wv;have hr1:=ar hb4 (ar hb3 (ar hb2 (ar hb1 f5)));have hr2:=ar hb4 (ar hb3 (ar hb2 (ar hb1 f6)));have hr3:=bz hb4 (ar hb3 (ar hb2 (ar hb1 f5))) (bz hb3 (ar hb2 (ar hb1 f5)) (bz hb2 (ar hb1 f5) (bz hb1 f5 f7)));have hr4:=bz hb4 (ar hb3 (ar hb2 (ar hb1 f6))) (bz hb3 (ar hb2 (ar hb1 f6)) (bz hb2 (ar hb1 f6) (bz hb1 f6 f8)))))
 go_wp2
 have hblk:=fS (x:=Value.bool (!b1==b2&& !decide (z1.natAbs*z2.natAbs=0))) (y:= .string ⟨(kv (z1.natAbs*z2.natAbs)).toArray⟩) (dB hb4 (dB hb3 (dB hb2 (dB hb1 HBLK.out))));refine bodyPost_ret (results_cell_row rfl _ _ (w.heap.size+2) 61 _ (0,0) _ rfl hblk underlying61 rfl kr) rfl ?_;have e:(!b1==b2&& !decide (z1.natAbs*z2.natAbs=0))=((b1 !=b2)&&decide (z1.natAbs*z2.natAbs≠0)):=by cases b1<;>cases b2<;>simp
 rw[e];refine lO (by rw[sU]) (GZ H1.out H2.out) (H1.out.sm.mul H2.out.sm) ?_;have hsz:=HSZ.out;have h1:w.heap.size+3<=wA.heap.size:=by have:=hb1.size;rw[<-hsz];exact this
 have h2:=hb2.size;have h3:=hb3.size;exact((de hb4 (de hb3 (de hb2 (de hb1 HBEL.out.drew (by show _<=W0.heap.size;omega)) om) om) om).setCell (p:=⟨w.heap.size+2,0,none⟩) sp _).setCell (p:=⟨w.heap.size+2,1,none⟩) sp _
def CV {k1 b1 s1 z1} (h1:ku k1 b1 s1 z1) (hk1:k1<=1000000000) w: Calls prog 96 #[.agg #[.bool b1,.string s1]] w (iS (k1+7) (-z1) w):=by
 have H1:=am h1;clear h1;go_enter func96, ntmps96
 go_wp2_with fail
 have hm1:=H1.out.dig_len om;obtain⟨W0,hW0⟩: ∃W0,W0=(w.alloc (.cells #[.bool b1,.string s1] 61)).alloc (.cells #[.bool false,.string ⟨#[]⟩] 61):=⟨_,rfl⟩;rw[<-hW0];obtain⟨f1,f2,f5,f6,f7,f8,hblk,hbel,hsz⟩:=Dg _ _ _ _ _ _ _ _ hW0;clear hW0;have HBLK:=am hblk;have HSZ:=am hsz;have HBEL:=am hbel;clear hblk hsz hbel
 go_region_held3 (λw'=>w'.cell? ⟨w.heap.size,0,none⟩=some (.bool b1)/\w'.cell? ⟨w.heap.size,1,none⟩=some (.string s1))
  (first
   |(go_keep;done)
   |((try go_split_ands);(try dsimp only);(repeat' apply And.intro)<;>first|assumption|exact ar aq aq|exact eQ (eQ aq du) du|go_keep))
  (first
   |(go_at_call 86;refine(rz H1.out om _).mono ?_;rintro e wA ⟨A1,n1,c1,rfl,hl1,hn1,hc1,hw1,hb1⟩)
   |(go_at_call 88;refine(rv z1.natAbs A1 n1 c1 _ _ hw1 hl1 om hn1 (aC hc1 dc)).mono ?_;rintro e wD ⟨rfl,hb4⟩;unfold wv;have hr1:=ar hb4 (ar hb1 f5);have hr2:=ar hb4 (ar hb1 f6);have hr3:=bz hb4 (ar hb1 f5) (bz hb1 f5 f7);have hr4:=bz hb4 (ar hb1 f6) (bz hb1 f6 f8)))
 go_wp2
 have hblk:=fS (x:=Value.bool (!b1&& !decide (z1=0))) (y:= .string ⟨(kv z1.natAbs).toArray⟩) (dB hb4 (dB hb1 HBLK.out));refine bodyPost_ret (results_cell_row rfl _ _ (w.heap.size+1) 61 _ (0,0) _ rfl hblk underlying61 rfl kr) rfl ?_;have e:(!b1&& !decide (z1=0))=((!b1)&&decide (z1.natAbs≠0)):=by cases b1<;>simp
 rw[e];refine lO (by rw[Int.natAbs_neg]) (G3 H1.out) H1.out.sm.neg ?_;have hsz:=HSZ.out;have h1:w.heap.size+2<=wA.heap.size:=by have:=hb1.size;rw[<-hsz];exact this
 exact((de hb4 (de hb1 HBEL.out.drew (by show _<=W0.heap.size;omega)) om).setCell (p:=⟨w.heap.size+1,0,none⟩) sp _).setCell (p:=⟨w.heap.size+1,1,none⟩) sp _
def KL {k1 k2 b1 b2 s1 s2 z1 z2} (h1:ku k1 b1 s1 z1) (h2:ku k2 b2 s2 z2) (hk1:k1<=100000000) (hk2:k2<=100000000) w: Calls prog 72 #[.agg #[.bool b1,.string s1],.agg #[.bool b2,.string s2]] w (iS (k1+k2+8) (z1+z2) w):=by
 have H1:=am h1
 have H2:=am h2
 clear h1 h2
 go_enter func72, ntmps72
 go_wp2_with fail
 have hm1:=H1.out.dig_len om
 have hm2:=H2.out.dig_len om
 have HLS:=am (Ob (pR H1.out.sm H2.out.sm) om)
 have HSM:=am (pR H1.out.sm H2.out.sm)
 obtain⟨W0,hW0⟩: ∃W0,W0=((w.alloc (.cells #[.bool b1,.string s1] 61)).alloc (.cells #[.bool b2,.string s2] 61)).alloc (.cells #[.bool false,.string ⟨#[]⟩] 61):=⟨_,rfl⟩
 rw[<-hW0]
 obtain⟨f1,f2,f3,f4,f5,f6,f7,f8,hblk,hbel,hsz⟩:=rG _ _ _ _ _ _ _ _ _ _ _ hW0
 clear hW0
 have HBLK:=am hblk
 have HSZ:=am hsz
 have HBEL:=am hbel
 clear hblk hsz hbel
 go_region_held3 (λw'=>w'.cell? ⟨w.heap.size,0,none⟩=some (.bool b1)/\w'.cell? ⟨w.heap.size,1,none⟩=some (.string s1)/\w'.cell? ⟨w.heap.size+1,0,none⟩=some (.bool b2)/\w'.cell? ⟨w.heap.size+1,1,none⟩=some (.string s2))
  (first
   |(go_keep;done)
   |((try go_split_ands);(try dsimp only);(repeat' apply And.intro)<;>first|assumption|exact ar aq aq|exact eQ (eQ aq du) du|go_keep))
  (first
   |(go_at_call_of 86 (Value.agg #[.bool b1,.string s1]);refine(rz H1.out om _).mono ?_;rintro e wA ⟨A1,n1,c1,rfl,hl1,hn1,hc1,hw1,hb1⟩)
   |(go_at_call_of 86 (Value.agg #[.bool b2,.string s2]);refine(rz H2.out om _).mono ?_;rintro e wB ⟨A2,n2,c2,rfl,hl2,hn2,hc2,hw2,hb2⟩))
 have g1:=ar hb2 (ar hb1 f1)
 have g2:=ar hb2 (ar hb1 f2)
 have g3:=ar hb2 (ar hb1 f3)
 have g4:=ar hb2 (ar hb1 f4)
 have g5:=ar hb2 (ar hb1 f5)
 have g6:=ar hb2 (ar hb1 f6)
 have g7:=bz hb2 (ar hb1 f5) (bz hb1 f5 f7)
 have g8:=bz hb2 (ar hb1 f6) (bz hb1 f6 f8)
 have HB2:=am (de hb2 (de hb1 HBEL.out.drew (by have:=HSZ.out;show _<=W0.heap.size;omega)) (by have:=HSZ.out;have:=hb1.size;have h3:W0.heap.size<=wA.heap.size:=this;omega))
 have HK2:=am (dB hb2 (dB hb1 HBLK.out))
 have hsB:w.heap.size+3<=wB.heap.size:=by have h1:=HSZ.out;have h2:W0.heap.size<=wA.heap.size:=hb1.size;have h3:=hb2.size;omega
 have HW1:=am (lZ hb2 hw1)
 have HW2:=am hw2
 have HL1:=am hl1
 have HL2:=am hl2
 clear f1 f2 f3 f4 f5 f6 f7 f8 HBLK HBEL HSZ hw1 hw2 hb1 hb2
 have hn1':n1<=1000000000:=om
 have hn2':n2<=1000000000:=om
 clear hl1 hl2 hm1 hm2
 by_cases hbb:b1=b2
 ·have hbt:(b1==b2)=true:=by simpa using hbb
  have HA:=am (Fz H1.out H2.out hbb)
  clear hbb
  go_wp2_with fail
  go_region_held3 (λw'=>w'.cell? ⟨w.heap.size,0,none⟩=some (.bool b1)/\w'.cell? ⟨w.heap.size,1,none⟩=some (.string s1)/\w'.cell? ⟨w.heap.size+1,0,none⟩=some (.bool b2)/\w'.cell? ⟨w.heap.size+1,1,none⟩=some (.string s2))
   (first
      |(go_keep;done)
      |((try go_split_ands);(try dsimp only);(repeat' apply And.intro)<;>first|assumption|exact ar aq aq|exact eQ (eQ aq du) du|go_keep))
   (first
    |(go_at_call 97;refine(Vv (fK WB z1.natAbs) (fK WB z2.natAbs) A1 A2 n1 n2 c1 c2 _ (eT eJ _) (eT eJ _) (l9 HW1.out) (l9 HW2.out) HL1.out HL2.out hn1' hn2').mono ?_;rintro e wC ⟨A3,n3,c3,rfl,hl3,hn3,hc3,hw3,hb3⟩)
    |(go_at_call 88;rw[dm eJ,dm eJ,HA.out.1] at hl3 hw3;refine(rv (z1+z2).natAbs A3 n3 c3 _ _ hw3 hl3 (by have:=HLS.out;omega) hn3 (aC hc3 dc)).mono ?_;rintro e wD ⟨rfl,hb4⟩;unfold wv;have hr1:=ar hb4 (ar hb3 g5);have hr2:=ar hb4 (ar hb3 g6);have hr3:=bz hb4 (ar hb3 g5) (bz hb3 g5 g7);have hr4:=bz hb4 (ar hb3 g6) (bz hb3 g6 g8)))
  go_wp2
  have hblk:=fS (x:=Value.bool (b1&& !decide (z1+z2=0))) (y:= .string ⟨(kv (z1+z2).natAbs).toArray⟩) (dB hb4 (dB hb3 HK2.out))
  refine bodyPost_ret (results_cell_row rfl _ _ (w.heap.size+2) 61 _ (0,0) _ rfl hblk underlying61 rfl kr) rfl ?_
  have e:(b1&& !decide (z1+z2=0))=(b1&&decide ((z1+z2).natAbs≠0)):=by cases b1<;>simp
  rw[e]
  refine lO rfl (λh0=>HA.out.2 (by rw[HA.out.1];exact h0)) HSM.out ?_
  have h3:=hb3.size
  have h3':wB.heap.size<=wC.heap.size:=h3
  exact((de hb4 (de hb3 HB2.out.drew (by show _<=wB.heap.size;omega)) om).setCell (p:=⟨w.heap.size+2,0,none⟩) sp _).setCell (p:=⟨w.heap.size+2,1,none⟩) sp _
 ·have hbt:(b1==b2)=false:=by simpa using hbb
  by_cases hlt:z1.natAbs<z2.natAbs
  ·have HA:=am (P0 H1.out H2.out hbb hlt)
   have HCM:=am (show uA z1.natAbs z2.natAbs<0 by rw[rJ hlt];omega)
   have HLE:=am (bw hlt)
   have HLEN:Hid (n1<=n2):=by show n1<=n2;rw[<-HL1.out,<-HL2.out];exact mE eJ (bw hlt)
   clear hbb hlt
   go_wp2_with (go_at_call 98;refine(Lp z1.natAbs z2.natAbs A1 A2 n1 n2 c1 c2 _ HW1.out HW2.out HL1.out HL2.out hn1' hn2').mono ?_;rintro e wE ⟨rfl,hbE⟩;have hcm:=HCM.out)
   have g7:=bz hbE g5 g7
   have g8:=bz hbE g6 g8
   have g1:=ar hbE g1
   have g2:=ar hbE g2
   have g3:=ar hbE g3
   have g4:=ar hbE g4
   have g5:=ar hbE g5
   have g6:=ar hbE g6
   have HB2:=am (de hbE HB2.out om)
   have HK2:=am (dB hbE HK2.out)
   have hsE:w.heap.size+3<=wE.heap.size:=aC hsB hbE.size
   have HW1:=am (lZ hbE HW1.out)
   have HW2:=am (lZ hbE HW2.out)
   clear hbE
   go_region_held3 (λw'=>w'.cell? ⟨w.heap.size,0,none⟩=some (.bool b1)/\w'.cell? ⟨w.heap.size,1,none⟩=some (.string s1)/\w'.cell? ⟨w.heap.size+1,0,none⟩=some (.bool b2)/\w'.cell? ⟨w.heap.size+1,1,none⟩=some (.string s2))
    (first
       |(go_keep;done)
       |((try go_split_ands);(try dsimp only);(repeat' apply And.intro)<;>first|assumption|exact ar aq aq|exact eQ (eQ aq du) du|go_keep))
    (first
     |(go_at_call 99;refine(M0 (fK WB z2.natAbs) (fK WB z1.natAbs) A2 A1 n2 n1 c2 c1 _ (eT eJ _) (eT eJ _) (l9 HW2.out) (l9 HW1.out) HL2.out HL1.out hn2' HLEN.out (by rw[dm eJ,dm eJ];exact HLE.out)).mono ?_;rintro e wC ⟨A3,n3,c3,rfl,hl3,hn3,hc3,hw3,hb3⟩)
     |(go_at_call 88;rw[dm eJ,dm eJ,HA.out.1] at hl3 hw3;refine(rv (z1+z2).natAbs A3 n3 c3 _ _ hw3 hl3 (by have:=HLS.out;omega) hn3 (aC hc3 dc)).mono ?_;rintro e wD ⟨rfl,hb4⟩;unfold wv;have hr1:=ar hb4 (ar hb3 g5);have hr2:=ar hb4 (ar hb3 g6);have hr3:=bz hb4 (ar hb3 g5) (bz hb3 g5 g7);have hr4:=bz hb4 (ar hb3 g6) (bz hb3 g6 g8)))
   go_wp2
   have hblk:=fS (x:=Value.bool (b2&& !decide (z1+z2=0))) (y:= .string ⟨(kv (z1+z2).natAbs).toArray⟩) (dB hb4 (dB hb3 HK2.out))
   refine bodyPost_ret (results_cell_row rfl _ _ (w.heap.size+2) 61 _ (0,0) _ rfl hblk underlying61 rfl kr) rfl ?_
   have e:(b2&& !decide (z1+z2=0))=(b2&&decide ((z1+z2).natAbs≠0)):=by cases b2<;>simp
   rw[e]
   refine lO rfl (λh0=>HA.out.2 (by rw[HA.out.1];exact h0)) HSM.out ?_
   have h3:=hb3.size
   have h3':wE.heap.size<=wC.heap.size:=h3
   exact((de hb4 (de hb3 HB2.out.drew (by show _<=wE.heap.size;omega)) om).setCell (p:=⟨w.heap.size+2,0,none⟩) sp _).setCell (p:=⟨w.heap.size+2,1,none⟩) sp _
  ·have HA:=am (PZ H1.out H2.out hbb hlt)
   have HCM:=am (show¬uA z1.natAbs z2.natAbs<0 by rcases cj z2.natAbs z1.natAbs with h|h;rw[rI h];omega;rw[bo h om,rK];omega)
   have HLE:=am (show z2.natAbs<=z1.natAbs by omega)
   have HLEN:Hid (n2<=n1):=by show n2<=n1;rw[<-HL1.out,<-HL2.out];exact mE eJ om
   clear hbb hlt
   go_wp2_with (go_at_call 98;refine(Lp z1.natAbs z2.natAbs A1 A2 n1 n2 c1 c2 _ HW1.out HW2.out HL1.out HL2.out hn1' hn2').mono ?_;rintro e wE ⟨rfl,hbE⟩;have hcm:=HCM.out)
   have g7:=bz hbE g5 g7
   have g8:=bz hbE g6 g8
   have g1:=ar hbE g1
   have g2:=ar hbE g2
   have g3:=ar hbE g3
   have g4:=ar hbE g4
   have g5:=ar hbE g5
   have g6:=ar hbE g6
   have HB2:=am (de hbE HB2.out om)
   have HK2:=am (dB hbE HK2.out)
   have hsE:w.heap.size+3<=wE.heap.size:=aC hsB hbE.size
   have HW1:=am (lZ hbE HW1.out)
   have HW2:=am (lZ hbE HW2.out)
   clear hbE
   go_region_held3 (λw'=>w'.cell? ⟨w.heap.size,0,none⟩=some (.bool b1)/\w'.cell? ⟨w.heap.size,1,none⟩=some (.string s1)/\w'.cell? ⟨w.heap.size+1,0,none⟩=some (.bool b2)/\w'.cell? ⟨w.heap.size+1,1,none⟩=some (.string s2))
    (first
       |(go_keep;done)
       |((try go_split_ands);(try dsimp only);(repeat' apply And.intro)<;>first|assumption|exact ar aq aq|exact eQ (eQ aq du) du|go_keep))
    (first
     |(go_at_call 99;refine(M0 (fK WB z1.natAbs) (fK WB z2.natAbs) A1 A2 n1 n2 c1 c2 _ (eT eJ _) (eT eJ _) (l9 HW1.out) (l9 HW2.out) HL1.out HL2.out hn1' HLEN.out (by rw[dm eJ,dm eJ];exact HLE.out)).mono ?_;rintro e wC ⟨A3,n3,c3,rfl,hl3,hn3,hc3,hw3,hb3⟩)
     |(go_at_call 88;rw[dm eJ,dm eJ,HA.out.1] at hl3 hw3;refine(rv (z1+z2).natAbs A3 n3 c3 _ _ hw3 hl3 (by have:=HLS.out;omega) hn3 (aC hc3 dc)).mono ?_;rintro e wD ⟨rfl,hb4⟩;unfold wv;have hr1:=ar hb4 (ar hb3 g5);have hr2:=ar hb4 (ar hb3 g6);have hr3:=bz hb4 (ar hb3 g5) (bz hb3 g5 g7);have hr4:=bz hb4 (ar hb3 g6) (bz hb3 g6 g8)))
   go_wp2
   have hblk:=fS (x:=Value.bool (b1&& !decide (z1+z2=0))) (y:= .string ⟨(kv (z1+z2).natAbs).toArray⟩) (dB hb4 (dB hb3 HK2.out))
   refine bodyPost_ret (results_cell_row rfl _ _ (w.heap.size+2) 61 _ (0,0) _ rfl hblk underlying61 rfl kr) rfl ?_
   have e:(b1&& !decide (z1+z2=0))=(b1&&decide ((z1+z2).natAbs≠0)):=by cases b1<;>simp
   rw[e]
   refine lO rfl (λh0=>HA.out.2 (by rw[HA.out.1];exact h0)) HSM.out ?_
   have h3:=hb3.size
   have h3':wE.heap.size<=wC.heap.size:=h3
   exact((de hb4 (de hb3 HB2.out.drew (by show _<=wE.heap.size;omega)) om).setCell (p:=⟨w.heap.size+2,0,none⟩) sp _).setCell (p:=⟨w.heap.size+2,1,none⟩) sp _
def CZ {k1 k2 b1 b2 s1 s2 z1 z2} (h1:ku k1 b1 s1 z1) (h2:ku k2 b2 s2 z2) (hk1:k1<=90000000) (hk2:k2<=90000000) w: Calls prog 71 #[.agg #[.bool b1,.string s1],.agg #[.bool b2,.string s2]] w (iS (k1+k2+15) (z1-z2) w):=by
 have H1:=am h1;have H2:=am h2;clear h1 h2;go_enter func71, ntmps71
 go_wp2_with fail
 obtain⟨W0,hW0⟩: ∃W0,W0=((w.alloc (.cells #[.bool b1,.string s1] 61)).alloc (.cells #[.bool b2,.string s2] 61)).alloc (.cells #[.bool false,.string ⟨#[]⟩] 61):=⟨_,rfl⟩;rw[<-hW0];obtain⟨f1,f2,f3,f4,f5,f6,f7,f8,hblk,hbel,hsz⟩:=rG _ _ _ _ _ _ _ _ _ _ _ hW0;clear hW0;have HBLK:=am hblk;have HSZ:=am hsz;have HBEL:=am hbel;clear hblk hsz hbel
 go_region_held3 (λw'=>w'.cell? ⟨w.heap.size,0,none⟩=some (.bool b1)/\w'.cell? ⟨w.heap.size,1,none⟩=some (.string s1)/\w'.cell? ⟨w.heap.size+1,0,none⟩=some (.bool b2)/\w'.cell? ⟨w.heap.size+1,1,none⟩=some (.string s2))
  (first
   |(go_keep;done)
   |((try go_split_ands);(try dsimp only);(repeat' apply And.intro)<;>first|assumption|exact ar aq aq|exact eQ (eQ aq du) du|go_keep))
  (first
   |(go_at_call 96;refine(CV H2.out om _).mono ?_;rintro e wA ⟨b3,s3,rfl,hc3,hn3,hb1⟩)
   |(go_at_call 72;refine(KL H1.out hn3 om om _).mono ?_;rintro e wD ⟨b4,s4,rfl,hc4,hn4,hb4⟩;have hr1:=ar hb4 (ar hb1 f5);have hr2:=ar hb4 (ar hb1 f6);have hr3:=bz hb4 (ar hb1 f5) (bz hb1 f5 f7);have hr4:=bz hb4 (ar hb1 f6) (bz hb1 f6 f8)))
 go_wp2
 have hblk:=fS (x:=Value.bool b4) (y:= .string s4) (dB hb4 (dB hb1 HBLK.out));refine bodyPost_ret (results_cell_row rfl _ _ (w.heap.size+2) 61 _ (0,0) _ rfl hblk underlying61 rfl kr) rfl ?_;have hsz:=HSZ.out;have h1:w.heap.size+3<=wA.heap.size:=by have:=hb1.size;rw[<-hsz];exact this
 refine⟨b4,s4,rfl,by rw[ph];exact hc4,by rw[ph];exact hn4.mono om,?_⟩;exact((de hb4 (de hb1 HBEL.out.drew (by show _<=W0.heap.size;omega)) om).setCell (p:=⟨w.heap.size+2,0,none⟩) sp _).setCell (p:=⟨w.heap.size+2,1,none⟩) sp _
def PB n (hn1: -9223372036854775808<=n) (hn2:n<=9223372036854775807) w: Calls prog 58 #[.int .i64 n] w (iS 71 n w):=by
 by_cases h0:n<0
 ·have hm:(IntKind.u64.wrap (-IntKind.u64.wrap n))=((n.natAbs:Nat):Int):=by simp only[IntKind.wrap_u64];omega
  have HM:=am hm
  clear hm
  go_enter func58, ntmps58
  go_wp2_with fail
  have hlt:n.natAbs<18446744073709551616:=om
  obtain⟨W0,hW0⟩: ∃W0,W0=(w.alloc (.cells #[.bool false,.string ⟨#[]⟩] 61)).alloc (.cells #[.int .u64 (bits .and .u64 (IntKind.u64.wrap (-IntKind.u64.wrap n)) 4294967295),.int .u64 ((IntKind.u64.wrap (-IntKind.u64.wrap n))/4294967296)] 110):=⟨_,rfl⟩
  rw[<-hW0]
  obtain⟨f5,f6,f7,f8,hblk,hblk2,hbel,hsz⟩:=K6 _ _ _ _ _ _ hW0
  clear hW0
  refine(H9 [n.natAbs % WB,n.natAbs/WB] _ 2 2 _ _ (R5 hlt) (UU (mT _ n.natAbs HM.out hlt) (qE _ n.natAbs HM.out) hblk2) rfl om om om).mono ?_
  rintro e wD ⟨rfl,hb4⟩
  rw[Ni]
  unfold wv
  have hr1:=ar hb4 f5
  have hr2:=ar hb4 f6
  have hr3:=bz hb4 f5 f7
  have hr4:=bz hb4 f6 f8
  have HB4:=am (de hb4 hbel om)
  have HBLK:=am (dB hb4 hblk)
  clear f5 f6 f7 f8 hblk hblk2 hbel hsz hb4
  go_wp2
  refine bodyPost_ret (results_cell_row rfl _ _ w.heap.size 61 _ (0,0) _ rfl (fS HBLK.out) underlying61 rfl kr) rfl ?_
  have hz:Sm 64 n:=Sm.int hn1 hn2
  exact jn (k:=64) true (n:=n.natAbs) sp rfl (λh=>by simp;omega) hz ((HB4.out.setCell (p:=⟨w.heap.size,0,none⟩) (ai _) _).setCell (p:=⟨w.heap.size,1,none⟩) (ai _) _)
 ·have hm:n=((n.natAbs:Nat):Int):=om
  have HM:=am hm
  clear hm
  go_enter func58, ntmps58
  go_wp2_with fail
  have hlt:n.natAbs<18446744073709551616:=om
  obtain⟨W0,hW0⟩: ∃W0,W0=(w.alloc (.cells #[.bool false,.string ⟨#[]⟩] 61)).alloc (.cells #[.int .u64 (bits .and .u64 n 4294967295),.int .u64 (n/4294967296)] 110):=⟨_,rfl⟩
  rw[<-hW0]
  obtain⟨f5,f6,f7,f8,hblk,hblk2,hbel,hsz⟩:=K6 _ _ _ _ _ _ hW0
  clear hW0
  refine(H9 [n.natAbs % WB,n.natAbs/WB] _ 2 2 _ _ (R5 hlt) (UU (mT _ n.natAbs HM.out hlt) (qE _ n.natAbs HM.out) hblk2) rfl om om om).mono ?_
  rintro e wD ⟨rfl,hb4⟩
  rw[Ni]
  unfold wv
  have hr1:=ar hb4 f5
  have hr2:=ar hb4 f6
  have hr3:=bz hb4 f5 f7
  have hr4:=bz hb4 f6 f8
  have HB4:=am (de hb4 hbel om)
  have HBLK:=am (dB hb4 hblk)
  clear f5 f6 f7 f8 hblk hblk2 hbel hsz hb4
  go_wp2
  refine bodyPost_ret (results_cell_row rfl _ _ w.heap.size 61 _ (0,0) _ rfl (fS HBLK.out) underlying61 rfl kr) rfl ?_
  have hz:Sm 64 n:=Sm.int hn1 hn2
  exact jn (k:=64) false (n:=n.natAbs) sp rfl (λh=>by simp;omega) hz ((HB4.out.setCell (p:=⟨w.heap.size,0,none⟩) (ai _) _).setCell (p:=⟨w.heap.size,1,none⟩) (ai _) _)
def vp l A n c B w (hn:ln l=n) (hnc:n<=c) (hc:c<=9223372036854775807) (h:Wd .i64 w B A l): Calls prog 92 #[.slice A n c] w λe w'=>e= .returned (.slice A (fT l) c)/\w=w':=by
 have H:=am h
 clear h
 go_enter func92, ntmps92
 go_wp2
 go_loop [0] (λa=> ∃k:Nat,k<=n/\a= .slice A k c/\ ∀j,k<=j->l[j]?.getD 0=0) (λa=>match a with| .slice _ k _=>k|_=>0)
 case atStart=>exact⟨n,ai _,rfl,λj hj=>by rw[bi om];rfl⟩
 case round=>
  obtain⟨k,hk,rfl,hz⟩:=hrel
  have HZ:=am hz
  clear hz
  by_cases hk0:k=0
  ·subst hk0
   go_wp2
   go_ret
   exact⟨by rw[pU (k:=0) om (λj hj=>by rw[ao];exact HZ.out j hj) (Or.inl rfl)];rfl,rfl⟩
  ·obtain⟨ad,rfl,hcell⟩:=H.out.get (k:=k-1) om
   by_cases hx:l[k-1]?.getD 0=0
   ·go_wp2
    go_round
    case rel=>exact⟨k-1,om,rfl,λj hj=>by
     by_cases e:j=k-1
     ·rw[e];exact hx
     ·exact HZ.out j om⟩
    case measure=>show k-1<k;omega
   ·go_wp2
    go_ret
    exact⟨by rw[pU (k:=k) om (λj hj=>by rw[ao];exact HZ.out j hj) (Or.inr (by rw[ao];exact hx))];rfl,rfl⟩
section
variable {A:Option Addr} {q:IntKind} {e:TypeId} {xs:List Value}
def RB:Nat:=65536
def dS:RB=65536:=rfl
def cT:2<=RB:=by rw[dS];omega
def fv:0<RB:=by rw[dS];omega
def qN:(prog.info? 3).map (λi=>(i.zero,i.size,i.bytes))=some (some (.int .i64 0),1,8):=kr
def qq (n:Nat) (w:World) (e:Ending) (w':World):Prop:=∃A k c,e= .returned (.slice A k c)/\(fK RB n).length=k/\k<=c/\c<=9223372036854775807/\Wd .i64 w' w'.heap.size A (fK RB n)/\Below w.heap.size w w'
def tv {w w' l c} (hb:Below w.heap.size w w') (d:Wd .i64 w' w'.heap.size A l) (g:Dl RB l) (j:ln l<=c) (h:c<=9223372036854775807): qq (val RB l) w (.returned (.slice A (fT l) c)) w':=by
 have f:=jE cT g
 have i:=iI l
 refine⟨A,fT l,c,rfl,?_,om,h,?_,hb⟩
 ·rw[<-f,aO];omega
 ·rw[<-f];exact d.take _
def z7 {w base c l} (h:w.ownsRow base e 1 (.slice A (ln l) c) (ln l) (l.map λd:Nat=>Value.int q (d:Int))):Wd q w w.heap.size A l:=λu=>by
 rcases h.2 with⟨f,_⟩|⟨g,p,k,f,s,j,_⟩
 ·simp at f;omega
 ·have o:A=some ⟨g,0,none⟩:=by injection f
  subst o
  refine⟨_,rfl,(aE.1 j).1,λi r=> ?_⟩
  have m:(Addr.add ⟨g,0,none⟩ i)=⟨g,i,none⟩:=by unfold Addr.add;split<;>simp_all
  rw[m,h.cellAt i om]
  simp[ae r]
def u7 {w:World} {base:Nat} {n c:Nat} {size:Nat} (h:w.ownsRow base e size (.slice A n c) n xs):n<=c/\c<=9223372036854775807:=by
 rcases h.2 with⟨d,o⟩|⟨g,i,f,d,m,k,p,j,_⟩
 ·simp at d;omega
 ·simp at d
  unfold maxLen at j
  omega
def dT {w:World} {base:Nat} {size n k:Nat} {v:Value} (h:w.ownsRow base e size v n xs) (hk:v.ownBlock=some k):base<=k:=by
 rcases h.2 with⟨rfl,_⟩|⟨g,d,f,rfl,i,_⟩
 ·simp[Value.ownBlock] at hk
 ·simp[Value.ownBlock] at hk;omega
def iP {w:World} {base n d:Nat} {v:Value} {l:List Nat} {z:Int} (h:w.ownsRow base e 1 v n (l.map (λd:Nat=>Value.int q (d:Int))++[.int q z])) (f:z=d): w.ownsRow base e 1 v n ((l++[d]).map λd:Nat=>Value.int q (d:Int)):=by subst f;rw[aV];exact h
def yA (s:ByteArray) i (h:i<s.size):s.data.toList[i]? =some s[i]:=by rw[Array.getElem?_toList,aM (by exact h)];rfl
def UY (x y:UInt8):wrap64 (wrap64 (x.toNat:Int)+wrap64 (256*wrap64 (y.toNat:Int)))=((x.toNat+256*y.toNat:Nat):Int):=by have f:=UInt8.toNat_lt x;have d:=UInt8.toNat_lt y;simp only[wrap64];omega
def UX (x:UInt8):wrap64 (x.toNat:Int)=((x.toNat:Nat):Int):=by have d:=UInt8.toNat_lt x;simp only[wrap64];omega
def Kz (x y:UInt8):x.toNat+256*y.toNat<RB:=by have f:=UInt8.toNat_lt x;have d:=UInt8.toNat_lt y;rw[dS];omega
def JY (x:UInt8):x.toNat<RB:=by have d:=UInt8.toNat_lt x;rw[dS];omega
def Jr neg (s:ByteArray) w (hs:s.size<=1000000000): Calls prog 62 #[.agg #[.bool neg,.string s]] w (qq (fB s.data.toList) w):=by
 obtain⟨i0,hi,hz0,hz1,hz2⟩:=info_parts qN
 go_enter func62, ntmps62
 go_wp2
 go_loopw [3,5] (λv i wr=> ∃(j c:Nat) (A:_) (l:List Nat),2*j<=s.size+1/\i= .int .i64 ((s.size:Int)-2*(j:Int))/\v= .slice A j c/\wr.cell? ⟨w.heap.size,1,none⟩=some (.string s)/\
   wr.ownsRow (w.heap.size+1) 3 1 (.slice A j c) j (l.map λd:Nat=>Value.int .i64 (d:Int))/\Hid (ln l=j)/\Dl RB l/\
   Hid (val RB l=fB (s.data.toList.drop (s.size-2*j)))/\Below (w.heap.size+1) (w.alloc (.cells #[.bool neg,.string s] 61)) wr) (λ_ i _=>(intOf i+1).toNat)
 case atStart=>exact⟨0,0,none,[],om,by go_num,rfl,by simp[go_sem],⟨rfl,.inl ⟨rfl,rfl⟩⟩,rfl,Dl.nil _,by rw[Hid,ft sp];rfl,Below.refl _ _⟩
 case round=>
  obtain⟨j,c,A,l,hj,rfl,rfl,hstr,hown,Hlen,dl,Hv,hbel⟩:=hrel
  have hsz:=hbel.size
  rw[fG] at hsz
  by_cases h0:s.size<=2*j
  ·have HV:Hid (val RB l=fB s.data.toList):=by have h:=Hv.out;rw[show s.size-2*j=0 from by omega,it] at h;exact h
   have HCAP:=am (u7 hown)
   have HWD:Hid (Wd .i64 wr wr.heap.size A l):=by have h:=hown;rw[<-Hlen.out] at h;exact z7 h
   have HB:Hid (Below w.heap.size w wr):=((Below.refl _ w).alloc (ai _) _).trans (hbel.mono om)
   clear hown hbel hstr
   go_wp2_with (go_at_call 92;refine(vp l A j c _ _ Hlen.out HCAP.out.1 HCAP.out.2 HWD.out).mono ?_;rintro e w' ⟨rfl,rfl⟩)
   go_ret
   rw[<-HV.out]
   exact tv HB.out HWD.out dl (by rw[Hlen.out];exact HCAP.out.1) HCAP.out.2
  ·by_cases h1:s.size<=2*j+1
   ·go_wp2_with (at_builtin;refine wpList_append_own _ rfl _ _ 22 rfl (w.heap.size+1) 3 i0 (.int .i64 0) 1 8 underlying22 hi hz0 hz1 hz2 rfl dc _ _ _ rfl (hown.alloc _) ⟨wr.heap.size,0,none⟩ 1 1 [_] rfl rfl (cell_one_new _ _ _) (by simp[Value.oneCell']) (by unfold maxLen;omega) om su ?_;intro v' w1 hown' hgrow _;obtain⟨g',cap',rfl⟩:=ownsRow_succ hown';have hb1:=hbel.trans (((Below.refl _ wr).alloc hsz _).grown hgrow su (by intro k hk;exact dT hown hk)))
    go_roundw
    case rel=>
     have hs2:ln s.data.toList=s.size:=sp
     have hx:=yA s (s.size-2*j-1) om
     refine⟨j+1,cap',_,l++[(s[s.size-2*j-1]'om).toNat],om,by go_num,rfl,(hb1.cell (p:=⟨w.heap.size,1,none⟩) sp).trans (by simp[go_sem]),iP hown' (UX _),?_,dl.append (Dl.one (JY _)),?_,hb1⟩
     ·rw[Hid,aa,Hlen.out];rfl
     ·have h:=Hv.out
      rw[dS] at h
      rw[Hid,dS]
      exact yR hs2 Hlen.out om (by rw[<-hx];congr 1;omega) h
    case measure=>simp[intOf];omega
   ·go_wp2_with (at_builtin;refine wpList_append_own _ rfl _ _ 22 rfl (w.heap.size+1) 3 i0 (.int .i64 0) 1 8 underlying22 hi hz0 hz1 hz2 rfl dc _ _ _ rfl (hown.alloc _) ⟨wr.heap.size,0,none⟩ 1 1 [_] rfl rfl (cell_one_new _ _ _) (by simp[Value.oneCell']) (by unfold maxLen;omega) om su ?_;intro v' w1 hown' hgrow _;obtain⟨g',cap',rfl⟩:=ownsRow_succ hown';have hb1:=hbel.trans (((Below.refl _ wr).alloc hsz _).grown hgrow su (by intro k hk;exact dT hown hk)))
    go_roundw
    case rel=>
     have hs2:ln s.data.toList=s.size:=sp
     have hx:=yA s (s.size-2*j-1) om
     have hy:=yA s (s.size-2*j-2) om
     refine⟨j+1,cap',_,l++[(s[s.size-2*j-1]'om).toNat+256*(s[s.size-2*j-2]'om).toNat],om,by go_num,rfl,(hb1.cell (p:=⟨w.heap.size,1,none⟩) sp).trans (by simp[go_sem]),iP hown' (UY _ _),?_,dl.append (Dl.one (Kz _ _)),?_,hb1⟩
     ·rw[Hid,aa,Hlen.out];rfl
     ·have h:=Hv.out
      rw[dS] at h
      rw[Hid,dS]
      exact yS hs2 Hlen.out om hx hy h
    case measure=>simp[intOf];omega
end
section
variable {e:TypeId} {bs:List UInt8} {k:Nat}
def UP {d:Nat} (h:d<65536):(d:Int)/256=((UInt8.ofNat (d/256)).toNat:Int):=by rw[UInt8.toNat_ofNat'];omega
def KA (d:Nat):(d:Int) % 256=((UInt8.ofNat (d % 256)).toNat:Int):=by rw[UInt8.toNat_ofNat'];omega
def wh {w:World} {base n:Nat} {b:UInt8} {v:Value} {l:List UInt8} {z:Int} (h:w.ownsRow base e 1 v n (l.map (λb:UInt8=>Value.int .u8 (b.toNat:Int))++[.int .u8 z])) (d:z=b.toNat): w.ownsRow base e 1 v n ((l++[b]).map λb:UInt8=>Value.int .u8 (b.toNat:Int)):=by subst d;rw[aV];exact h
def xp {w:World} {base n:Nat} {b:UInt8} {v x:Value} {l:List UInt8} {z:Int} (h:w.ownsRow base e 1 v n (l.map (λb:UInt8=>Value.int .u8 (b.toNat:Int))++[.int .u8 z]++[x])) (d:z=b.toNat): w.ownsRow base e 1 v n ((l++[b]).map (λb:UInt8=>Value.int .u8 (b.toNat:Int))++[x]):=by subst d;rw[aV];exact h
def CC {zs} (h0:0<k) (hk:k<=ln zs) (d:Dl RB zs) (h:fB bs=val RB (zs.drop k)): fB (bs++[UInt8.ofNat (zs[k-1]?.getD 0/256)]++[UInt8.ofNat (zs[k-1]?.getD 0 % 256)])=val RB (zs.drop (k-1)):=by have f:=d.get (k-1) om;rw[vr RB zs (k-1) om,show k-1+1=k from by omega,rW,rW,h,oy (show k-1<(ln zs) by omega)];rw[dS] at f⊢;rw[UInt8.toNat_ofNat',UInt8.toNat_ofNat'];omega
def Tv {zs} (h0:0<k) (hk:k<=ln zs) (hl:zs[k-1]?.getD 0<256) (hb:bs=[]) (h:fB bs=val RB (zs.drop k)): fB (bs++[UInt8.ofNat (zs[k-1]?.getD 0 % 256)])=val RB (zs.drop (k-1)):=by rw[oy (show k-1<(ln zs) by omega)] at hl⊢;rw[vr RB zs (k-1) om,show k-1+1=k from by omega,rW,<-h,hb];simp[fB,val];omega
def G8 {d:Nat} (h:0<d) (h2:d<256):UInt8.ofNat d≠0:=λe=>by have:=congrArg UInt8.toNat e;rw[UInt8.toNat_ofNat'] at this;simp at this;omega
def GL {zs:List Nat} {f:Nat} (h0:0<k) (_hh:(k<f->bs≠[]/\bs.head?≠some 0)/\(k=f->bs=[])) (i:k<=f/\zs[k-1]?.getD 0<65536) (hb:bs=[]->256<=zs[k-1]?.getD 0): (k-1<f->bs++[UInt8.ofNat (zs[k-1]?.getD 0/256)]++[UInt8.ofNat (zs[k-1]?.getD 0 % 256)]≠[]/\(bs++[UInt8.ofNat (zs[k-1]?.getD 0/256)]++[UInt8.ofNat (zs[k-1]?.getD 0 % 256)]).head?≠some 0)/\ (k-1=f->bs++[UInt8.ofNat (zs[k-1]?.getD 0/256)]++[UInt8.ofNat (zs[k-1]?.getD 0 % 256)]=[]):=by
 refine⟨λ_=>⟨sp,?_⟩,λh=>by omega⟩
 cases bs with
 |nil=>have:=hb rfl;simpa using G8 (d:=zs[k-1]?.getD 0/256) om om
 |cons b bs=>
  have g:k<f:=by
   rcases cj k f with h|h
   ·exact h
   ·have:=_hh.2 om;cases this
  have:=(_hh.1 g).2;simpa using this
def SF {zs:List Nat} {f:Nat} (h0:0<k) (_hh:(k<f->bs≠[]/\bs.head?≠some 0)/\(k=f->bs=[])) (hk:k=f) (g:0<f->zs[f-1]?.getD 0≠0) (hl:zs[k-1]?.getD 0<256): (k-1<f->bs++[UInt8.ofNat (zs[k-1]?.getD 0 % 256)]≠[]/\(bs++[UInt8.ofNat (zs[k-1]?.getD 0 % 256)]).head?≠some 0)/\(k-1=f->bs++[UInt8.ofNat (zs[k-1]?.getD 0 % 256)]=[]):=by refine⟨λ_=>⟨sp,?_⟩,λh=>by omega⟩;rw[_hh.2 hk];have:=g om;rw[<-hk] at this;simpa using G8 (d:=zs[k-1]?.getD 0 % 256) om om
def mP la A (na ca:Nat) neg (w:World) (da:Dl RB la) (ha:Wd .i64 w w.heap.size A la) (hna:ln la=na) (hsa:na<=1000000000) (hca:na<=ca) (hca2:ca<=9223372036854775807): Calls prog 63 #[.bool neg,.slice A na ca] w λe w'=>e= .returned (wv (neg&&decide (val RB la≠0)) (val RB la))/\Below w.heap.size w w':=by
 obtain⟨i0,hi,hz0,hz1,hz2⟩:=info_parts D9
 have HX:=am ha
 have Hnx:=am hna
 have htl:=iI la
 have hlk:fT la<=na:=om
 obtain⟨zs,hzs⟩: ∃zs,zs=la.take (fT la):=⟨_,rfl⟩
 have HZL:Hid (ln zs=fT la):=by rw[Hid,hzs,aO];omega
 have HZD:Hid (zs=fK RB (val RB la)):=by rw[Hid,hzs];exact jE cT da
 have HZB:Hid (Dl RB zs):=by rw[Hid,hzs];exact da.take _
 have HZV:Hid (val RB zs=val RB la):=by rw[Hid,HZD.out,dm cT]
 have hzl0:Hid (fT la=0↔val RB la=0):=by rw[Hid,<-HZL.out,HZD.out,mF cT]
 have HZW0:Hid (Wd .i64 w w.heap.size A zs):=by rw[Hid,hzs];exact ha.take _
 clear ha hna hzs htl
 have HTRIM:Hid (∀W:World,Below w.heap.size w W->Calls prog 92 #[.slice A na ca] W λe w'=>e= .returned (.slice A (fT la) ca)/\W=w'):=λW hb=>
  vp la A na ca w.heap.size W Hnx.out hca hca2 (HX.out.below hb)
 obtain⟨nz,hnz⟩: ∃nz,fT la=nz:=⟨_,rfl⟩
 rw[hnz] at HZL hlk hzl0 HTRIM
 obtain⟨V,hV⟩: ∃V,val RB la=V:=⟨_,rfl⟩
 rw[hV] at HZV HZD hzl0⊢
 have HTOP:Hid (0<nz->zs[nz-1]?.getD 0≠0):=λh=>by have h1:=HZD.out;have h2:=R3 cT V (by rcases cX V with h3|h3;have:=hzl0.out.2 h3;omega;exact h3);rw[<-h1,HZL.out,ao] at h2;exact h2
 clear hnz hV
 by_cases h0:nz=0
 ·have HV0:=am (hzl0.out.1 h0)
  have hnb:((nz:Int)==0)=true:=by simpa using h0
  clear h0
  go_enter func63, ntmps63
  go_wp2_with (go_at_call 92;refine(HTRIM.out _ ((Below.refl _ w).alloc (ai _) _)).mono ?_;rintro e w' ⟨rfl,rfl⟩)
  refine bodyPost_ret (results_cell_row rfl _ _ w.heap.size 61 _ (0,0) _ rfl (heap_alloc_new w _) underlying61 rfl kr) rfl ?_
  refine⟨?_,(Below.refl _ w).alloc (ai _) _⟩
  rw[HV0.out]
  simp[wv,qQ]
 ·have hnb:((nz:Int)==0)=false:=by simpa using h0
  have HVN:Hid (V≠0):=λh=>h0 (hzl0.out.2 h)
  have hnz0:0<nz:=om
  clear h0 hzl0
  go_enter func63, ntmps63
  go_wp2_with (go_at_call 92;refine(HTRIM.out _ ((Below.refl _ w).alloc (ai _) _)).mono ?_;rintro e w' ⟨rfl,rfl⟩)
  go_loopw [5,6] (λv i wr=> ∃(k cap m:Nat) (B:_) (bs:List UInt8),k<=nz/\i= .int .i64 ((k:Int)-1)/\v= .slice B m cap/\
   wr.ownsRow (w.heap.size+1) 5 1 (.slice B m cap) m (bs.map λb:UInt8=>Value.int .u8 (b.toNat:Int))/\Hid (ln bs=m)/\m<=2*(nz-k)/\
   Hid (fB bs=val RB (zs.drop k))/\Hid ((k<nz->bs≠[]/\bs.head?≠some 0)/\(k=nz->bs=[]))/\Below (w.heap.size+1) (w.alloc (.cells #[.bool false,.string ⟨#[]⟩] 61)) wr) (λ_ i _=>(intOf i+1).toNat)
  case atStart=>exact⟨nz,0,0,none,[],ai _,rfl,rfl,⟨rfl,.inl ⟨rfl,rfl⟩⟩,rfl,om,by rw[Hid,ft (by have:=HZL.out;omega)];rfl,⟨λh=>absurd h (Nat.lt_irrefl _),fr⟩,Below.refl _ _⟩
  case round=>
   obtain⟨k,cap,m,B,bs,hk,rfl,rfl,hown,Hbl,hm,Hv,HH,hbel⟩:=hrel
   have HBEL:=am hbel
   have hsz:=hbel.size
   rw[fG] at hsz
   clear hbel
   rcases cX k with h0|h0
   ·subst h0
    have HB2:Hid (Below w.heap.size w wr):=((Below.refl _ w).alloc (ai _) _).trans (HBEL.out.mono om)
    have hconv:=rj (P:= prog) wr 150 9 5 (w.heap.size+1) _ _ bs underlying150 underlying5 underlying9 hown
    have hblk:wr.heap[w.heap.size]? =some (.cells #[.bool false,.string ⟨#[]⟩] 61 (0,0)):=(HBEL.out.block _ om).trans (heap_alloc_new w _)
    have g5:=cell_of_row _ _ 0 _ _ _ hblk
    have g6:=cell_of_row _ _ 1 _ _ _ hblk
    have g7:=frozen_of_row _ _ 0 _ _ hblk
    have g8:=frozen_of_row _ _ 1 _ _ hblk
    have HBLK:=am hblk
    clear hown hblk
    go_wp2
    refine bodyPost_ret (results_cell_row rfl _ _ w.heap.size 61 _ (0,0) _ rfl (fS HBLK.out) underlying61 rfl kr) rfl ?_
    refine⟨?_,(HB2.out.setCell (p:=⟨w.heap.size,0,none⟩) (ai _) _).setCell (p:=⟨w.heap.size,1,none⟩) (ai _) _⟩
    have hv:=Hv.out
    rw[it,HZV.out] at hv
    have hb:=zt (HH.out.1 hnz0).2
    rw[hv] at hb
    rw[<-hb]
    have hvn:=HVN.out
    simp[wv,hvn,hb]
   ·obtain⟨ad,rfl,hcx0⟩:=(HZW0.out).get (k:=k-1) (by have:=HZL.out;omega)
    have HC0:Hid (∀W,Below (w.heap.size+1) (w.alloc (.cells #[.bool false,.string ⟨#[]⟩] 61)) W->W.cell? (ad.add (k-1))=some (.int .i64 ((zs[k-1]?.getD 0:Nat):Int))):=λW hb=>by rw[(((Below.refl w.heap.size w).alloc (ai _) _).trans (hb.mono om)).cell (AX _ _ hcx0)];exact hcx0
    have hcx:=HC0.out _ HBEL.out
    clear hcx0
    have hbx:=HZB.out.getD fv (k-1)
    rw[ao,dS] at hbx
    by_cases h1:k<nz
    ·have HBIG:Hid (bs=[]->256<=zs[k-1]?.getD 0):=λh=>absurd h (HH.out.1 h1).1
     go_wp2_with (first|(at_builtin;refine wpList_append_own _ rfl (.tmp 32) (.tmp 39) 150 rfl (w.heap.size+1) 5 i0 (.int .u8 0) 1 1 underlying150 hi hz0 hz1 hz2 rfl dc _ _ _ rfl (hown.alloc _) ⟨wr.heap.size,0,none⟩ 1 1 [_] rfl rfl (cell_one_new _ _ _) (by simp[Value.oneCell']) (by unfold maxLen;omega) om su ?_;intro v1 w1 hown1 hgrow _;obtain⟨g1,cap1,rfl⟩:=ownsRow_succ hown1;have hb1:=HBEL.out.trans (((Below.refl _ wr).alloc hsz _).grown hgrow su (by intro k hk;exact dT hown hk));have hszw1:w.heap.size+1<=w1.heap.size:=(by have h:=hb1.size;rw[fG] at h;exact h);clear hgrow;have hcx1:=HC0.out _ hb1)|(at_builtin;refine wpList_append_own _ rfl (.tmp 41) (.tmp 48) 150 rfl (w.heap.size+1) 5 i0 (.int .u8 0) 1 1 underlying150 hi hz0 hz1 hz2 rfl dc _ _ _ rfl (hown1.alloc _) ⟨w1.heap.size,0,none⟩ 1 1 [_] rfl rfl (cell_one_new _ _ _) (by simp[Value.oneCell']) (by unfold maxLen;omega) om su ?_;intro v2 w2 hown2 hgrow _;obtain⟨g2,cap2,rfl⟩:=ownsRow_succ hown2;have hb2:=hb1.trans (((Below.refl _ w1).alloc hszw1 _).grown hgrow su (by intro k hk;exact dT hown1 hk));have hszw2:w.heap.size+1<=w2.heap.size:=(by have h:=hb2.size;rw[fG] at h;exact h);clear hgrow))
     go_roundw
     case rel=>
      refine⟨k-1,cap2,m+1+1,_,bs++[UInt8.ofNat (zs[k-1]?.getD 0/256)]++[UInt8.ofNat (zs[k-1]?.getD 0 % 256)],om,by go_num,rfl,wh (xp hown2 (UP hbx)) (KA _),by rw[Hid,aa,aa,Hbl.out];rfl,om,?_,?_,hb2⟩
      ·exact CC h0 (by have:=HZL.out;omega) HZB.out Hv.out
      ·exact GL h0 HH.out ⟨hk,hbx⟩ HBIG.out
     case measure=>simp[intOf];omega
    ·by_cases h2:256<=zs[k-1]?.getD 0
     ·have HBIG:Hid (bs=[]->256<=zs[k-1]?.getD 0):=λ_=>h2
      go_wp2_with (first|(at_builtin;refine wpList_append_own _ rfl (.tmp 32) (.tmp 39) 150 rfl (w.heap.size+1) 5 i0 (.int .u8 0) 1 1 underlying150 hi hz0 hz1 hz2 rfl dc _ _ _ rfl (hown.alloc _) ⟨wr.heap.size,0,none⟩ 1 1 [_] rfl rfl (cell_one_new _ _ _) (by simp[Value.oneCell']) (by unfold maxLen;omega) om su ?_;intro v1 w1 hown1 hgrow _;obtain⟨g1,cap1,rfl⟩:=ownsRow_succ hown1;have hb1:=HBEL.out.trans (((Below.refl _ wr).alloc hsz _).grown hgrow su (by intro k hk;exact dT hown hk));have hszw1:w.heap.size+1<=w1.heap.size:=(by have h:=hb1.size;rw[fG] at h;exact h);clear hgrow;have hcx1:=HC0.out _ hb1)|(at_builtin;refine wpList_append_own _ rfl (.tmp 41) (.tmp 48) 150 rfl (w.heap.size+1) 5 i0 (.int .u8 0) 1 1 underlying150 hi hz0 hz1 hz2 rfl dc _ _ _ rfl (hown1.alloc _) ⟨w1.heap.size,0,none⟩ 1 1 [_] rfl rfl (cell_one_new _ _ _) (by simp[Value.oneCell']) (by unfold maxLen;omega) om su ?_;intro v2 w2 hown2 hgrow _;obtain⟨g2,cap2,rfl⟩:=ownsRow_succ hown2;have hb2:=hb1.trans (((Below.refl _ w1).alloc hszw1 _).grown hgrow su (by intro k hk;exact dT hown1 hk));have hszw2:w.heap.size+1<=w2.heap.size:=(by have h:=hb2.size;rw[fG] at h;exact h);clear hgrow))
      go_roundw
      case rel=>
       refine⟨k-1,cap2,m+1+1,_,bs++[UInt8.ofNat (zs[k-1]?.getD 0/256)]++[UInt8.ofNat (zs[k-1]?.getD 0 % 256)],om,by go_num,rfl,wh (xp hown2 (UP hbx)) (KA _),by rw[Hid,aa,aa,Hbl.out];rfl,om,?_,?_,hb2⟩
       ·exact CC h0 (by have:=HZL.out;omega) HZB.out Hv.out
       ·exact GL h0 HH.out ⟨hk,hbx⟩ HBIG.out
      case measure=>simp[intOf];omega
     ·go_wp2_with (at_builtin;refine wpList_append_own _ rfl (.tmp 41) (.tmp 48) 150 rfl (w.heap.size+1) 5 i0 (.int .u8 0) 1 1 underlying150 hi hz0 hz1 hz2 rfl dc _ _ _ rfl (hown.alloc _) ⟨wr.heap.size,0,none⟩ 1 1 [_] rfl rfl (cell_one_new _ _ _) (by simp[Value.oneCell']) (by unfold maxLen;omega) om su ?_;intro v2 w2 hown2 hgrow _;obtain⟨g2,cap2,rfl⟩:=ownsRow_succ hown2;have hb2:=HBEL.out.trans (((Below.refl _ wr).alloc hsz _).grown hgrow su (by intro k hk;exact dT hown hk));have hszw2:w.heap.size+1<=w2.heap.size:=(by have h:=hb2.size;rw[fG] at h;exact h);clear hgrow)
      go_roundw
      case rel=>
       refine⟨k-1,cap2,m+1,_,bs++[UInt8.ofNat (zs[k-1]?.getD 0 % 256)],om,by go_num,rfl,wh hown2 (KA _),by rw[Hid,aa,Hbl.out];rfl,om,?_,?_,hb2⟩
       ·exact Tv h0 (by have:=HZL.out;omega) om (HH.out.2 om) Hv.out
       ·exact SF h0 HH.out om HTOP.out om
      case measure=>simp[intOf];omega
end
def OZ {x y u c:Nat} (hx:x<65536) (hy:y<65536) (d:u<65536) (f:c<65536):(x:Int)*y<=4294836225/\u+x*y+c<4294967296/\0<=(x:Int)*y:=by
 have h:x*y<=65535*65535:=gd om om;have e:(x:Int)*y=((x*y:Nat):Int):=by rw[gM]
 rw[e];omega
def Pb la lb Aa Ab na nb ca cb w (da:Dl RB la) (db:Dl RB lb) (ha:Wd .i64 w w.heap.size Aa la) (hb:Wd .i64 w w.heap.size Ab lb) (hna:ln la=na) (hnb:ln lb=nb) (hsa:na<=1000000000) (hsb:nb<=1000000000): Calls prog 89 #[.slice Aa na ca,.slice Ab nb cb] w (qq (val RB la*val RB lb) w):=by
 have HX:=am ha
 have HY:=am hb
 have Hnx:=am hna
 have Hny:=am hnb
 clear ha hb hna hnb
 have hmk:=kK (P:= prog) 22 3 underlying22 qN ((na:Int)+nb) (na+nb) om om
 go_enter func89, ntmps89
 go_wp2
 clear hmk
 go_loopw [6] (λi wr=> ∃k lo,k<=na/\i= .int .i64 k/\Ow .i64 wr w.heap.size 3 lo/\Hid (ln lo=na+nb)/\Dl RB lo/\
   Hid (val RB lo=val RB (la.take k)*val RB lb)/\Hid (∀j,k+nb<=j->lo[j]?.getD 0=0)/\Below w.heap.size w wr) (λi _=>na-(intOf i).toNat)
 case atStart=>exact⟨0,List.replicate (na+nb) 0,ah _,rfl,Ow.new _ _ _ _,bb,Dl.replicate fv _,by simp[Hid,val,jS],λj _=>by rw[gT];split<;>rfl,(Below.refl _ _).alloc (ai _) _⟩
 case round=>
  obtain⟨i,lo,hi,rfl,how,Hlen,dlo,Hv,Hz,hbel⟩:=hrel
  by_cases hlt:i<na
  ·obtain⟨ax,rfl,hcx⟩:=(HX.out.below hbel).get (k:=i) (by have:=Hnx.out;omega)
   have hbx:=da.getD fv i
   rw[ao,dS] at hbx
   have HOW:=am how
   have HBEL:=am hbel
   have HDL:=am dlo
   clear how hbel dlo
   obtain⟨wo,rfl⟩: ∃wo:World,wo=wr:=⟨_,rfl⟩
   go_wp2
   go_loopw [7,8] (λcr i2 wr=> ∃(k c:Nat) (lo:_),k<=nb/\c<65536/\i2= .int .i64 k/\cr= .int .i64 c/\Ow .i64 wr w.heap.size 3 lo/\Hid (ln lo=na+nb)/\Dl RB lo/\
    Hid (val RB lo+RB^(i+k)*c=val RB (la.take i)*val RB lb+(la[i]?.getD 0)*val RB (lb.take k)*RB^i)/\Hid (∀j,i+nb<=j->lo[j]?.getD 0=0)/\Below w.heap.size w wr) (λ_ i2 _=>nb-(intOf i2).toNat)
   case atStart=>exact⟨0,0,lo,ah _,om,rfl,rfl,HOW.out,Hlen,HDL.out,by have:=Hv.out;simp[Hid,val,this],Hz,HBEL.out⟩
   case round=>
    clear HOW HBEL HDL Hv Hz hcx Hlen
    obtain⟨k,c,l2,hk,hc,rfl,rfl,how,Hlen,dl2,Hv,Hz,hbel⟩:=hrel
    have HOW:=am how
    have HBEL:=am hbel
    clear how hbel
    by_cases hlk:k<nb
    ·obtain⟨ax',eax,hcx⟩:=(HX.out.below HBEL.out).get (k:=i) (by have:=Hnx.out;omega)
     obtain rfl:ax=ax':=by injection eax
     clear eax
     obtain⟨ay,rfl,hcy⟩:=(HY.out.below HBEL.out).get (k:=k) (by have:=Hny.out;omega)
     have hby:=db.getD fv k
     rw[ao,dS] at hby
     have hbu:=dl2.getD fv (i+k)
     rw[ao,dS] at hbu
     obtain⟨hm1,hm2,hm3⟩:=OZ hbx hby hbu hc
     have hfo:=HOW.out.free (i+k)
     have hco:=HOW.out.cell (i+k) (by have:=Hlen.out;omega)
     go_wp2
     go_region
     go_wp2
     go_roundw
     case rel=>
      have e1:(((l2[i+k]?.getD 0:Nat):Int)+(la[i]?.getD 0:Nat)*(lb[k]?.getD 0:Nat)+(c:Nat)) % 65536=(((l2[i+k]?.getD 0+la[i]?.getD 0*lb[k]?.getD 0+c) % RB:Nat):Int):=by rw[dS,Int.natCast_emod,jW,jW,gM];rfl
      have e2:(((l2[i+k]?.getD 0:Nat):Int)+(la[i]?.getD 0:Nat)*(lb[k]?.getD 0:Nat)+(c:Nat))/65536=(((l2[i+k]?.getD 0+la[i]?.getD 0*lb[k]?.getD 0+c)/RB:Nat):Int):=by rw[dS,Int.natCast_ediv,jW,jW,gM];rfl
      have hl:=Hlen.out
      refine⟨k+1,_,l2.set (i+k) ((l2[i+k]?.getD 0+la[i]?.getD 0*lb[k]?.getD 0+c) % RB),om,?_,by go_num,by rw[e2],by rw[e1];exact HOW.out.set _ _,by rw[aZ];exact hl,dl2.set _ (fg _ fv),zy om Hv.out,λj hj=>by rw[eF om];exact Hz.out j hj,HBEL.out.drew.setCell (ai _) _⟩
      rw[dS];omega
     case measure=>simp[intOf];omega
    ·obtain rfl:k=nb:=om
     have hfo:=HOW.out.free (i+k)
     have hco:=HOW.out.cell (i+k) (by have:=Hlen.out;omega)
     go_wp2
     go_roundw
     case rel=>
      have hl:=Hlen.out
      have hnb:=Hny.out
      refine⟨i+1,l2.set (i+k) c,om,by go_num,HOW.out.set _ _,by rw[aZ];exact hl,dl2.set _ (by rw[dS];exact hc),?_,λj hj=>by rw[eF om];exact Hz.out j om,HBEL.out.setCell (ai _) _⟩
      have hv:=Hv.out
      have hz:=Hz.out (i+k) (ai _)
      subst hnb
      exact Ei om hz hv
     case measure=>simp[intOf];omega
  ·obtain rfl:i=na:=om
   have HOW:=am how
   have HBEL:=am hbel
   clear how hbel
   have hval:val RB lo=val RB la*val RB lb:=by have h2:=Hv.out;rwa[bX (l:=la) (by have:=Hnx.out;omega)] at h2
   have HVAL:=am hval
   clear hval
   go_wp2_with (go_at_call 92;refine(vp lo _ _ _ wr.heap.size _ Hlen.out om om (HOW.out.wd HOW.out.lt)).mono ?_;rintro e w' ⟨rfl,rfl⟩)
   go_ret
   rw[<-HVAL.out]
   exact tv HBEL.out (HOW.out.wd HOW.out.lt) dlo (by have:=Hlen.out;omega) om
section
variable {k:Nat}
def Np (n K:Nat) (w:World) (e:Ending) (w':World):Prop:=∃A c l,e= .returned (.slice A (ln l) c)/\val RB l=n/\Dl RB l/\ln l<=K/\ln l<=c/\c<=9223372036854775807/\Wd .i64 w' w'.heap.size A l/\Below w.heap.size w w'
def r4 {B:Nat} {a b l:List Nat} {c x y:Nat} (hk:ln l=k) (hx:a[k]?.getD 0=x) (hy:b[k]?.getD 0=y) (h:val B l+B^k*c=val B (a.take k)+val B (b.take k)): val B (l++[(x+c+y) % B])+B^(k+1)*((x+c+y)/B)=val B (a.take (k+1))+val B (b.take (k+1)):=by
 rw[rt,hk,eZ,eZ,hx,hy,eo,gg];have:B^k*((x+c+y) % B)+B^k*(B*((x+c+y)/B))=B^k*x+B^k*c+B^k*y:=by rw[<-fa,qi,fa,fa]
 omega
def pH {B:Nat} {a b l:List Nat} {c x y d e:Nat} (hk:ln l=k) (hx:a[k]?.getD 0=x) (hy:b[k]?.getD 0=y) (f:d+c+y=x+B*e) (h:val B l+val B (b.take k)=val B (a.take k)+B^k*c): val B (l++[d])+val B (b.take (k+1))=val B (a.take (k+1))+B^(k+1)*e:=by rw[rt,hk,eZ,eZ,hx,hy,eo,gg];have:=congrArg (B^k* ·) f;simp only[fa] at this;omega
def IP {j lb g c e d} (hv:val RB g+RB^k*c=val RB (j.take k)+val RB (lb.take k)) (_dlo:Dl RB g) (o:Dl RB j) (r:Dl RB lb) (hl:ln g=k) (i:ln j=e) (f:ln lb=d) (x:e<=k) (hb:d<=k) (q:0<c):k<e+d+1:=by
 rcases cj k (e+d+1) with h|h
 ·exact h
 ·rw[bX om,bX om] at hv
  have p:=t4 o
  have m:=t4 r
  rw[i] at p
  rw[f] at m
  have z:RB^e<=RB^(k-1):=dJ fv om
  have y:RB^d<=RB^(k-1):=dJ fv om
  have u:RB^k=RB^(k-1)*RB:=by rw[<-eo,show(k-1).succ=k from by omega]
  have A:RB^k*1<=RB^k*c:=eu _ q
  have s:RB^(k-1)*2<=RB^(k-1)*RB:=eu _ cT
  omega
def TE la lb Aa Ab (na nb ca cb:Nat) (w:World) (da:Dl RB la) (db:Dl RB lb) (ha:Wd .i64 w w.heap.size Aa la) (hb:Wd .i64 w w.heap.size Ab lb) (hna:ln la=na) (hnb:ln lb=nb) (hsa:na<=1000000000) (hsb:nb<=1000000000): Calls prog 64 #[.slice Aa na ca,.slice Ab nb cb] w (Np (val RB la+val RB lb) (na+nb+1) w):=by
 obtain⟨i0,hi,hz0,hz1,hz2⟩:=info_parts qN
 have HX:=am ha
 have HY:=am hb
 have Hnx:=am hna
 have Hny:=am hnb
 clear ha hb hna hnb
 go_enter func64, ntmps64
 go_wp2
 go_loopw [5,6,7] (λv cr i wr=> ∃(k c cap:Nat) (A:_) (lo:List Nat),k<=na+nb+1/\c<=1/\i= .int .i64 k/\cr= .int .i64 c/\v= .slice A k cap/\
   wr.ownsRow w.heap.size 3 1 (.slice A k cap) k (lo.map λd:Nat=>Value.int .i64 (d:Int))/\Hid (ln lo=k)/\Dl RB lo/\
   Hid (val RB lo+RB^k*c=val RB (la.take k)+val RB (lb.take k))/\Below w.heap.size w wr) (λ_ _ i _=>na+nb+1-(intOf i).toNat)
 case atStart=>exact⟨0,0,0,none,[],om,om,rfl,rfl,rfl,⟨rfl,.inl ⟨rfl,rfl⟩⟩,rfl,Dl.nil _,by simp[Hid,val],Below.refl _ _⟩
 case round=>
  obtain⟨k,c,cap,A,lo,hk,hc,rfl,rfl,rfl,hown,Hlen,dlo,Hv,hbel⟩:=hrel
  have HBEL:=am hbel
  have hsz:=hbel.size
  clear hbel
  by_cases h1:k<na/\k<nb
  ·obtain⟨h1,h2⟩:=h1
   obtain⟨ax,rfl,hcx⟩:=(HX.out.below HBEL.out).get (k:=k) (by have:=Hnx.out;omega)
   have hbx:=da.getD fv k
   rw[ao,dS] at hbx
   obtain⟨ay,rfl,hcy⟩:=(HY.out.below HBEL.out).get (k:=k) (by have:=Hny.out;omega)
   have hby:=db.getD fv k
   rw[ao,dS] at hby
   go_wp2_with (at_builtin;refine wpList_append_own _ rfl _ _ 22 rfl w.heap.size 3 i0 (.int .i64 0) 1 8 underlying22 hi hz0 hz1 hz2 rfl dc _ _ _ rfl (hown.alloc _) ⟨wr.heap.size,0,none⟩ 1 1 [_] rfl rfl (cell_one_new _ _ _) (by simp[Value.oneCell']) (by unfold maxLen;omega) om su ?_;intro v' w1 hown' hgrow _;obtain⟨g',cap',rfl⟩:=ownsRow_succ hown';have hb1:=HBEL.out.trans (((Below.refl _ wr).alloc hsz _).grown hgrow su (by intro k hk;exact dT hown hk)))
   go_roundw
   case rel=>
    have e1:(((c:Nat):Int)+((la[k]?.getD 0:Nat):Int)+((lb[k]?.getD 0:Nat):Int)) % 65536=(((la[k]?.getD 0+c+lb[k]?.getD 0) % RB:Nat):Int):=by rw[dS];omega
    have e2:(((c:Nat):Int)+((la[k]?.getD 0:Nat):Int)+((lb[k]?.getD 0:Nat):Int))/65536=(((la[k]?.getD 0+c+lb[k]?.getD 0)/RB:Nat):Int):=by rw[dS];omega
    refine⟨k+1,(la[k]?.getD 0+c+lb[k]?.getD 0)/RB,cap',_,lo++[(la[k]?.getD 0+c+lb[k]?.getD 0) % RB],om,?_,by go_num,by rw[e2],rfl,iP hown' e1,?_,dlo.append (Dl.one (fg _ fv)),r4 Hlen.out rfl rfl Hv.out,hb1⟩
    ·rw[dS];omega
    ·rw[Hid,aa,Hlen.out];rfl
   case measure=>simp[intOf];omega
  by_cases h2:k<na
  ·have h3: ¬k<nb:=λh=>h1 ⟨h2,h⟩
   clear h1
   obtain⟨ax,rfl,hcx⟩:=(HX.out.below HBEL.out).get (k:=k) (by have:=Hnx.out;omega)
   have hbx:=da.getD fv k
   rw[ao,dS] at hbx
   have HY0:Hid (lb[k]?.getD 0=0):=by rw[Hid,bi (by have:=Hny.out;omega)];rfl
   go_wp2_with (at_builtin;refine wpList_append_own _ rfl _ _ 22 rfl w.heap.size 3 i0 (.int .i64 0) 1 8 underlying22 hi hz0 hz1 hz2 rfl dc _ _ _ rfl (hown.alloc _) ⟨wr.heap.size,0,none⟩ 1 1 [_] rfl rfl (cell_one_new _ _ _) (by simp[Value.oneCell']) (by unfold maxLen;omega) om su ?_;intro v' w1 hown' hgrow _;obtain⟨g',cap',rfl⟩:=ownsRow_succ hown';have hb1:=HBEL.out.trans (((Below.refl _ wr).alloc hsz _).grown hgrow su (by intro k hk;exact dT hown hk)))
   go_roundw
   case rel=>
    have e1:(((c:Nat):Int)+((la[k]?.getD 0:Nat):Int)) % 65536=(((la[k]?.getD 0+c+0) % RB:Nat):Int):=by rw[dS];omega
    have e2:(((c:Nat):Int)+((la[k]?.getD 0:Nat):Int))/65536=(((la[k]?.getD 0+c+0)/RB:Nat):Int):=by rw[dS];omega
    refine⟨k+1,(la[k]?.getD 0+c+0)/RB,cap',_,lo++[(la[k]?.getD 0+c+0) % RB],om,?_,by go_num,by rw[e2],rfl,iP hown' e1,?_,dlo.append (Dl.one (fg _ fv)),r4 Hlen.out rfl HY0.out Hv.out,hb1⟩
    ·rw[dS];omega
    ·rw[Hid,aa,Hlen.out];rfl
   case measure=>simp[intOf];omega
  by_cases h3:k<nb
  ·clear h1
   have HX0:Hid (la[k]?.getD 0=0):=by rw[Hid,bi (by have:=Hnx.out;omega)];rfl
   obtain⟨ay,rfl,hcy⟩:=(HY.out.below HBEL.out).get (k:=k) (by have:=Hny.out;omega)
   have hby:=db.getD fv k
   rw[ao,dS] at hby
   go_wp2_with (at_builtin;refine wpList_append_own _ rfl _ _ 22 rfl w.heap.size 3 i0 (.int .i64 0) 1 8 underlying22 hi hz0 hz1 hz2 rfl dc _ _ _ rfl (hown.alloc _) ⟨wr.heap.size,0,none⟩ 1 1 [_] rfl rfl (cell_one_new _ _ _) (by simp[Value.oneCell']) (by unfold maxLen;omega) om su ?_;intro v' w1 hown' hgrow _;obtain⟨g',cap',rfl⟩:=ownsRow_succ hown';have hb1:=HBEL.out.trans (((Below.refl _ wr).alloc hsz _).grown hgrow su (by intro k hk;exact dT hown hk)))
   go_roundw
   case rel=>
    have e1:(((c:Nat):Int)+((lb[k]?.getD 0:Nat):Int)) % 65536=(((0+c+lb[k]?.getD 0) % RB:Nat):Int):=by rw[dS];omega
    have e2:(((c:Nat):Int)+((lb[k]?.getD 0:Nat):Int))/65536=(((0+c+lb[k]?.getD 0)/RB:Nat):Int):=by rw[dS];omega
    refine⟨k+1,(0+c+lb[k]?.getD 0)/RB,cap',_,lo++[(0+c+lb[k]?.getD 0) % RB],om,?_,by go_num,by rw[e2],rfl,iP hown' e1,?_,dlo.append (Dl.one (fg _ fv)),r4 Hlen.out HX0.out rfl Hv.out,hb1⟩
    ·rw[dS];omega
    ·rw[Hid,aa,Hlen.out];rfl
   case measure=>simp[intOf];omega
  clear h1
  by_cases h4:0<c
  ·have hkk:k<na+nb+1:=IP Hv.out dlo da db Hlen.out Hnx.out Hny.out om om h4
   have HX0:Hid (la[k]?.getD 0=0):=by rw[Hid,bi (by have:=Hnx.out;omega)];rfl
   have HY0:Hid (lb[k]?.getD 0=0):=by rw[Hid,bi (by have:=Hny.out;omega)];rfl
   go_wp2_with (at_builtin;refine wpList_append_own _ rfl _ _ 22 rfl w.heap.size 3 i0 (.int .i64 0) 1 8 underlying22 hi hz0 hz1 hz2 rfl dc _ _ _ rfl (hown.alloc _) ⟨wr.heap.size,0,none⟩ 1 1 [_] rfl rfl (cell_one_new _ _ _) (by simp[Value.oneCell']) (by unfold maxLen;omega) om su ?_;intro v' w1 hown' hgrow _;obtain⟨g',cap',rfl⟩:=ownsRow_succ hown';have hb1:=HBEL.out.trans (((Below.refl _ wr).alloc hsz _).grown hgrow su (by intro k hk;exact dT hown hk)))
   go_roundw
   case rel=>
    have e1:(((c:Nat):Int)) % 65536=(((0+c+0) % RB:Nat):Int):=by rw[dS];omega
    have e2:(((c:Nat):Int))/65536=(((0+c+0)/RB:Nat):Int):=by rw[dS];omega
    refine⟨k+1,(0+c+0)/RB,cap',_,lo++[(0+c+0) % RB],om,?_,by go_num,by rw[e2],rfl,iP hown' e1,?_,dlo.append (Dl.one (fg _ fv)),r4 Hlen.out HX0.out HY0.out Hv.out,hb1⟩
    ·rw[dS];omega
    ·rw[Hid,aa,Hlen.out];rfl
   case measure=>simp[intOf];omega
  ·obtain rfl:c=0:=om
   have HCAP:=am (u7 hown)
   have HWD:Hid (Wd .i64 wr wr.heap.size A lo):=by have h:=hown;rw[<-Hlen.out] at h;exact z7 h
   clear hown
   go_wp2
   go_ret
   have hv:=Hv.out
   rw[bX (l:=la) (by have:=Hnx.out;omega),bX (l:=lb) (by have:=Hny.out;omega),Vn,fM] at hv
   have hl:=Hlen.out
   exact⟨A,cap,lo,by rw[hl];rfl,hv,dlo,om,by rw[hl];exact HCAP.out.1,HCAP.out.2,HWD.out,HBEL.out⟩
end
def Cj la lb Aa Ab (na nb ca cb:Nat) (w:World) (da:Dl RB la) (db:Dl RB lb) (ha:Wd .i64 w w.heap.size Aa la) (hb:Wd .i64 w w.heap.size Ab lb) (hna:ln la=na) (hnb:ln lb=nb) (hsa:na<=1000000000) (hsb:nb<=na) (hle:val RB lb<=val RB la): Calls prog 66 #[.slice Aa na ca,.slice Ab nb cb] w (qq (val RB la-val RB lb) w):=by
 obtain⟨i0,hi,hz0,hz1,hz2⟩:=info_parts qN
 have HX:=am ha
 have HY:=am hb
 have Hnx:=am hna
 have Hny:=am hnb
 have Hle:=am hle
 clear ha hb hna hnb hle
 go_enter func66, ntmps66
 go_wp2
 go_loopw [5,6,7] (λv cr i wr=> ∃(k c cap:Nat) (A:_) (lo:List Nat),k<=na/\c<=1/\i= .int .i64 k/\cr= .int .i64 c/\v= .slice A k cap/\
   wr.ownsRow w.heap.size 3 1 (.slice A k cap) k (lo.map λd:Nat=>Value.int .i64 (d:Int))/\Hid (ln lo=k)/\Dl RB lo/\
   Hid (val RB lo+val RB (lb.take k)=val RB (la.take k)+RB^k*c)/\Below w.heap.size w wr) (λ_ _ i _=>na-(intOf i).toNat)
 case atStart=>exact⟨0,0,0,none,[],om,om,rfl,rfl,rfl,⟨rfl,.inl ⟨rfl,rfl⟩⟩,rfl,Dl.nil _,by simp[Hid,val],Below.refl _ _⟩
 case round=>
  obtain⟨k,c,cap,A,lo,hk,hc,rfl,rfl,rfl,hown,Hlen,dlo,Hv,hbel⟩:=hrel
  have HBEL:=am hbel
  have hsz:=hbel.size
  clear hbel
  by_cases h1:k<na
  ·obtain⟨ax,rfl,hcx⟩:=(HX.out.below HBEL.out).get (k:=k) (by have:=Hnx.out;omega)
   have hbx:=da.getD fv k
   rw[ao,dS] at hbx
   by_cases h2:k<nb
   ·obtain⟨ay,rfl,hcy⟩:=(HY.out.below HBEL.out).get (k:=k) (by have:=Hny.out;omega)
    have hby:=db.getD fv k
    rw[ao,dS] at hby
    by_cases h3:la[k]?.getD 0<c+lb[k]?.getD 0
    ·go_wp2_with (at_builtin;refine wpList_append_own _ rfl _ _ 22 rfl w.heap.size 3 i0 (.int .i64 0) 1 8 underlying22 hi hz0 hz1 hz2 rfl dc _ _ _ rfl (hown.alloc _) ⟨wr.heap.size,0,none⟩ 1 1 [_] rfl rfl (cell_one_new _ _ _) (by simp[Value.oneCell']) (by unfold maxLen;omega) om su ?_;intro v' w1 hown' hgrow _;obtain⟨g',cap',rfl⟩:=ownsRow_succ hown';have hb1:=HBEL.out.trans (((Below.refl _ wr).alloc hsz _).grown hgrow su (by intro k hk;exact dT hown hk)))
     go_roundw
     case rel=>
      refine⟨k+1,1,cap',_,lo++[(la[k]?.getD 0+65536-c-lb[k]?.getD 0)],om,om,by go_num,rfl,rfl,iP hown' om,?_,dlo.append (Dl.one (by rw[dS];omega)),pH Hlen.out rfl rfl (by rw[dS];omega) Hv.out,hb1⟩
      rw[Hid,aa,Hlen.out];rfl
     case measure=>simp[intOf];omega
    ·go_wp2_with (at_builtin;refine wpList_append_own _ rfl _ _ 22 rfl w.heap.size 3 i0 (.int .i64 0) 1 8 underlying22 hi hz0 hz1 hz2 rfl dc _ _ _ rfl (hown.alloc _) ⟨wr.heap.size,0,none⟩ 1 1 [_] rfl rfl (cell_one_new _ _ _) (by simp[Value.oneCell']) (by unfold maxLen;omega) om su ?_;intro v' w1 hown' hgrow _;obtain⟨g',cap',rfl⟩:=ownsRow_succ hown';have hb1:=HBEL.out.trans (((Below.refl _ wr).alloc hsz _).grown hgrow su (by intro k hk;exact dT hown hk)))
     go_roundw
     case rel=>
      refine⟨k+1,0,cap',_,lo++[(la[k]?.getD 0-c-lb[k]?.getD 0)],om,om,by go_num,rfl,rfl,iP hown' om,?_,dlo.append (Dl.one (by rw[dS];omega)),pH Hlen.out rfl rfl (by rw[dS];omega) Hv.out,hb1⟩
      rw[Hid,aa,Hlen.out];rfl
     case measure=>simp[intOf];omega
   ·have HY0:Hid (lb[k]?.getD 0=0):=by rw[Hid,bi (by have:=Hny.out;omega)];rfl
    by_cases h3:la[k]?.getD 0<c
    ·go_wp2_with (at_builtin;refine wpList_append_own _ rfl _ _ 22 rfl w.heap.size 3 i0 (.int .i64 0) 1 8 underlying22 hi hz0 hz1 hz2 rfl dc _ _ _ rfl (hown.alloc _) ⟨wr.heap.size,0,none⟩ 1 1 [_] rfl rfl (cell_one_new _ _ _) (by simp[Value.oneCell']) (by unfold maxLen;omega) om su ?_;intro v' w1 hown' hgrow _;obtain⟨g',cap',rfl⟩:=ownsRow_succ hown';have hb1:=HBEL.out.trans (((Below.refl _ wr).alloc hsz _).grown hgrow su (by intro k hk;exact dT hown hk)))
     go_roundw
     case rel=>
      refine⟨k+1,1,cap',_,lo++[(la[k]?.getD 0+65536-c-0)],om,om,by go_num,rfl,rfl,iP hown' om,?_,dlo.append (Dl.one (by rw[dS];omega)),pH Hlen.out rfl HY0.out (by rw[dS];omega) Hv.out,hb1⟩
      rw[Hid,aa,Hlen.out];rfl
     case measure=>simp[intOf];omega
    ·go_wp2_with (at_builtin;refine wpList_append_own _ rfl _ _ 22 rfl w.heap.size 3 i0 (.int .i64 0) 1 8 underlying22 hi hz0 hz1 hz2 rfl dc _ _ _ rfl (hown.alloc _) ⟨wr.heap.size,0,none⟩ 1 1 [_] rfl rfl (cell_one_new _ _ _) (by simp[Value.oneCell']) (by unfold maxLen;omega) om su ?_;intro v' w1 hown' hgrow _;obtain⟨g',cap',rfl⟩:=ownsRow_succ hown';have hb1:=HBEL.out.trans (((Below.refl _ wr).alloc hsz _).grown hgrow su (by intro k hk;exact dT hown hk)))
     go_roundw
     case rel=>
      refine⟨k+1,0,cap',_,lo++[(la[k]?.getD 0-c-0)],om,om,by go_num,rfl,rfl,iP hown' om,?_,dlo.append (Dl.one (by rw[dS];omega)),pH Hlen.out rfl HY0.out (by rw[dS];omega) Hv.out,hb1⟩
      rw[Hid,aa,Hlen.out];rfl
     case measure=>simp[intOf];omega
  ·obtain rfl:k=na:=om
   have HCAP:=am (u7 hown)
   have HWD:Hid (Wd .i64 wr wr.heap.size A lo):=by have h:=hown;rw[<-Hlen.out] at h;exact z7 h
   have HVAL:Hid (val RB lo=val RB la-val RB lb):=by
    have hv:=Hv.out
    rw[bX (l:=la) (by have:=Hnx.out;omega),bX (l:=lb) (by have:=Hny.out;omega)] at hv
    have h3:=Hle.out
    have h4:=t4 dlo
    rw[Hlen.out] at h4
    rcases cX c with h0|h0
    ·subst h0;show _=_;omega
    ·obtain rfl:c=1:=om
     show _=_;omega
   clear hown
   go_wp2_with (go_at_call 92;refine(vp lo A k cap _ _ Hlen.out HCAP.out.1 HCAP.out.2 HWD.out).mono ?_;rintro e w' ⟨rfl,rfl⟩)
   go_ret
   rw[<-HVAL.out]
   exact tv HBEL.out HWD.out dlo (by rw[Hlen.out];exact HCAP.out.1) HCAP.out.2
def qA m n Aa Ab na nb ca cb w (ha:Wd .i64 w w.heap.size Aa (fK RB m)) (hb:Wd .i64 w w.heap.size Ab (fK RB n)) (hna:(fK RB m).length=na) (hnb:(fK RB n).length=nb) (hsa:na<=1000000000) (hsb:nb<=1000000000): Calls prog 65 #[.slice Aa na ca,.slice Ab nb cb] w λe w'=>e= .returned (.int .i64 (uA m n))/\Below w.heap.size w w':=by
 by_cases h1:na<nb
 ·have hlt:m<n:=mJ cT om
  clear ha hb hna hnb
  go_enter func65, ntmps65
  go_wp2
  go_ret
  exact⟨iF (by rw[rJ hlt];rfl),Below.refl _ _⟩
 ·by_cases h2:nb<na
  ·have hlt:n<m:=mJ cT om
   clear ha hb hna hnb
   go_enter func65, ntmps65
   go_wp2
   go_ret
   exact⟨iF (by rw[rI hlt];rfl),Below.refl _ _⟩
  ·obtain rfl:na=nb:=om
   have HX:=am ha
   have HY:=am hb
   have Hnx:=am hna
   have Hny:=am hnb
   have dx:=eT cT m
   have dy:=eT cT n
   have HM:=am (dm cT m)
   have HN:=am (dm cT n)
   clear ha hb hna hnb
   generalize fK RB m=la at*
   generalize fK RB n=lb at*
   go_enter func65, ntmps65
   go_wp2
   go_loopw [5] (λi wr=> ∃(k:Nat),k<=na/\i= .int .i64 ((k:Int)-1)/\Hid (la.drop k=lb.drop k)/\Below w.heap.size w wr) (λi _=>(intOf i+1).toNat)
   case atStart=>exact⟨na,ai _,rfl,by rw[Hid,ft (by have:=Hnx.out;omega),ft (by have:=Hny.out;omega)],Below.refl _ _⟩
   case round=>
    obtain⟨k,hk,rfl,Hd,hbel⟩:=hrel
    have HBEL:=am hbel
    clear hbel
    rcases cX k with h0|h0
    ·subst h0
     go_wp2
     go_ret
     have e:=Hd.out
     rw[it,it] at e
     have hmn:m=n:=by rw[<-HM.out,<-HN.out,e]
     exact⟨iF (by rw[hmn,rK];rfl),HBEL.out⟩
    ·obtain⟨ax,rfl,hcx⟩:=(HX.out.below HBEL.out).get (k:=k-1) (by have:=Hnx.out;omega)
     obtain⟨ay,rfl,hcy⟩:=(HY.out.below HBEL.out).get (k:=k-1) (by have:=Hny.out;omega)
     have HLEN:=am (Hnx.out.trans Hny.out.symm)
     have HKL:Hid (k<=ln la):=by have:=Hnx.out;show k<=ln la;omega
     have HKM:Hid (k<=ln lb):=by have:=Hny.out;show k<=ln lb;omega
     by_cases hxy:la[k-1]?.getD 0<lb[k-1]?.getD 0
     ·have hlt:m<n:=by
       rw[<-HM.out,<-HN.out]
       exact kP dx HLEN.out h0 HKL.out Hd.out hxy
      have hne:(((la[k-1]?.getD 0:Nat):Int)!=((lb[k-1]?.getD 0:Nat):Int))=true:=by rw[bne_iff_ne];omega
      go_wp2
      go_region
      go_wp2
      go_region
      go_wp2
      go_ret
      exact⟨iF (by rw[rJ hlt];rfl),HBEL.out.drew.drew⟩
     ·by_cases hyx:lb[k-1]?.getD 0<la[k-1]?.getD 0
      ·have hlt:n<m:=by
        rw[<-HM.out,<-HN.out]
        exact kP dy HLEN.out.symm h0 HKM.out Hd.out.symm hyx
       have hne:(((la[k-1]?.getD 0:Nat):Int)!=((lb[k-1]?.getD 0:Nat):Int))=true:=by rw[bne_iff_ne];omega
       go_wp2
       go_region
       go_wp2
       go_region
       go_wp2
       go_ret
       exact⟨iF (by rw[rI hlt];rfl),HBEL.out.drew.drew⟩
      ·have hd:=B3 HLEN.out h0 HKL.out Hd.out om
       have HD:=am hd
       clear hd
       have hne:(((la[k-1]?.getD 0:Nat):Int)!=((lb[k-1]?.getD 0:Nat):Int))=false:=by rw[bne_eq_false_iff_eq];omega
       go_wp2
       go_region
       go_wp2
       go_roundw
       case rel=>exact⟨k-1,om,by go_num,HD.out,HBEL.out.drew⟩
       case measure=>simp[intOf];omega
section
variable {k k1 k2:Nat} {s:ByteArray} {z z1 z2:Int} {b2:Bool}
def lS {n K} (h:n<2^k) (hk:k<=16*K):(fK RB n).length<=K:=by
 apply iR cT;have e:RB=2^16:=by rw[dS]
 rw[e,<-Nat.pow_mul];exact dh h (dJ om hk)
def ku.rdig_len {b} (h:ku k b s z) (hk:k<=1000000000):(fK RB z.natAbs).length<=1000000000:=lS h.sm om
def Ae (h:Sm k z) (hk:k<=1000000000):(fK RB z.natAbs).length<=1000000000:=lS h om
def ld {b} (h:ku k b s z) (hk:k<=1000000000) w: Calls prog 62 #[.agg #[.bool b,.string s]] w (qq z.natAbs w):=by have:=Jr b s w (h.size hk);rwa[h.natAbs] at this
def sd m A f g neg w (p:Wd .i64 w w.heap.size A (fK RB m)) (j:(fK RB m).length=f) (o:f<=1000000000) (i:f<=g) (d:g<=9223372036854775807): Calls prog 63 #[.bool neg,.slice A f g] w λe w'=>e= .returned (wv (neg&&decide (m≠0)) m)/\Below w.heap.size w w':=by have h:=mP (fK RB m) A f g neg w (eT cT m) p j o i d;rwa[dm cT] at h
def PQ {b1 s1 s2} (h1:ku k1 b1 s1 z1) (h2:ku k2 b2 s2 z2) (hk1:k1<=100000000) (hk2:k2<=100000000) w: Calls prog 59 #[.agg #[.bool b1,.string s1],.agg #[.bool b2,.string s2]] w (iS (k1+k2+7) (z1*z2) w):=by
 have H1:=am h1;have H2:=am h2;clear h1 h2;go_enter func59, ntmps59
 go_wp2_with fail
 have hm1:=H1.out.rdig_len om;have hm2:=H2.out.rdig_len om;obtain⟨W0,hW0⟩: ∃W0,W0=((w.alloc (.cells #[.bool b1,.string s1] 61)).alloc (.cells #[.bool b2,.string s2] 61)).alloc (.cells #[.bool false,.string ⟨#[]⟩] 61):=⟨_,rfl⟩;rw[<-hW0];obtain⟨f1,f2,f3,f4,f5,f6,f7,f8,hblk,hbel,hsz⟩:=rG _ _ _ _ _ _ _ _ _ _ _ hW0;clear hW0;have HBLK:=am hblk;have HSZ:=am hsz;have HBEL:=am hbel;clear hblk hsz hbel
 go_region_held3 (λw'=>w'.cell? ⟨w.heap.size,0,none⟩=some (.bool b1)/\w'.cell? ⟨w.heap.size,1,none⟩=some (.string s1)/\w'.cell? ⟨w.heap.size+1,0,none⟩=some (.bool b2)/\w'.cell? ⟨w.heap.size+1,1,none⟩=some (.string s2))
  (first
   |(go_keep;done)
   |((try go_split_ands);(try dsimp only);(repeat' apply And.intro)<;>first|assumption|exact ar aq aq|exact eQ (eQ aq du) du|go_keep))
  (first
   |(go_at_call_of 62 (Value.agg #[.bool b1,.string s1]);refine(ld H1.out om _).mono ?_;rintro e wA ⟨A1,n1,c1,rfl,hl1,hn1,hc1,hw1,hb1⟩)
   |(go_at_call_of 62 (Value.agg #[.bool b2,.string s2]);refine(ld H2.out om _).mono ?_;rintro e wB ⟨A2,n2,c2,rfl,hl2,hn2,hc2,hw2,hb2⟩)
   |(go_at_call 89;refine(Pb (fK RB z1.natAbs) (fK RB z2.natAbs) A1 A2 n1 n2 c1 c2 _ (eT cT _) (eT cT _) (lZ hb2 hw1) hw2 hl1 hl2 om om).mono ?_;rintro e wC ⟨A3,n3,c3,rfl,hl3,hn3,hc3,hw3,hb3⟩)
   |(go_at_call 63;rw[dm cT,dm cT] at hl3 hw3;refine(sd (z1.natAbs*z2.natAbs) A3 n3 c3 _ _ hw3 hl3 (by have:=Ae (H1.out.sm.mul H2.out.sm) om;rw[sU] at this;omega) hn3 hc3).mono ?_;rintro e wD ⟨rfl,hb4⟩;unfold wv;have hr1:=ar hb4 (ar hb3 (ar hb2 (ar hb1 f5)));have hr2:=ar hb4 (ar hb3 (ar hb2 (ar hb1 f6)));have hr3:=bz hb4 (ar hb3 (ar hb2 (ar hb1 f5))) (bz hb3 (ar hb2 (ar hb1 f5)) (bz hb2 (ar hb1 f5) (bz hb1 f5 f7)));have hr4:=bz hb4 (ar hb3 (ar hb2 (ar hb1 f6))) (bz hb3 (ar hb2 (ar hb1 f6)) (bz hb2 (ar hb1 f6) (bz hb1 f6 f8)))))
 go_wp2
 have hblk:=fS (x:=Value.bool (!b1==b2&& !decide (z1.natAbs*z2.natAbs=0))) (y:= .string ⟨(kv (z1.natAbs*z2.natAbs)).toArray⟩) (dB hb4 (dB hb3 (dB hb2 (dB hb1 HBLK.out))));refine bodyPost_ret (results_cell_row rfl _ _ (w.heap.size+2) 61 _ (0,0) _ rfl hblk underlying61 rfl kr) rfl ?_;have e:(!b1==b2&& !decide (z1.natAbs*z2.natAbs=0))=((b1 !=b2)&&decide (z1.natAbs*z2.natAbs≠0)):=by cases b1<;>cases b2<;>simp
 rw[e];refine lO (by rw[sU]) (GZ H1.out H2.out) (H1.out.sm.mul H2.out.sm) ?_;have hsz:=HSZ.out;have h1:w.heap.size+3<=wA.heap.size:=by have:=hb1.size;rw[<-hsz];exact this
 have h2:=hb2.size;have h3:=hb3.size;exact((de hb4 (de hb3 (de hb2 (de hb1 HBEL.out.drew (by show _<=W0.heap.size;omega)) om) om) om).setCell (p:=⟨w.heap.size+2,0,none⟩) sp _).setCell (p:=⟨w.heap.size+2,1,none⟩) sp _
def Ft {b1 s1} (h1:ku k1 b1 s1 z1) (hk1:k1<=1000000000) w: Calls prog 120 #[.agg #[.bool b1,.string s1]] w (iS (k1+7) (-z1) w):=by
 have H1:=am h1;clear h1;go_enter func120, ntmps120
 go_wp2_with fail
 have hm1:=H1.out.rdig_len om;obtain⟨W0,hW0⟩: ∃W0,W0=(w.alloc (.cells #[.bool b1,.string s1] 61)).alloc (.cells #[.bool false,.string ⟨#[]⟩] 61):=⟨_,rfl⟩;rw[<-hW0];obtain⟨f1,f2,f5,f6,f7,f8,hblk,hbel,hsz⟩:=Dg _ _ _ _ _ _ _ _ hW0;clear hW0;have HBLK:=am hblk;have HSZ:=am hsz;have HBEL:=am hbel;clear hblk hsz hbel
 go_region_held3 (λw'=>w'.cell? ⟨w.heap.size,0,none⟩=some (.bool b1)/\w'.cell? ⟨w.heap.size,1,none⟩=some (.string s1))
  (first
   |(go_keep;done)
   |((try go_split_ands);(try dsimp only);(repeat' apply And.intro)<;>first|assumption|exact ar aq aq|exact eQ (eQ aq du) du|go_keep))
  (first
   |(go_at_call 62;refine(ld H1.out om _).mono ?_;rintro e wA ⟨A1,n1,c1,rfl,hl1,hn1,hc1,hw1,hb1⟩)
   |(go_at_call 63;refine(sd z1.natAbs A1 n1 c1 _ _ hw1 hl1 om hn1 hc1).mono ?_;rintro e wD ⟨rfl,hb4⟩;unfold wv;have hr1:=ar hb4 (ar hb1 f5);have hr2:=ar hb4 (ar hb1 f6);have hr3:=bz hb4 (ar hb1 f5) (bz hb1 f5 f7);have hr4:=bz hb4 (ar hb1 f6) (bz hb1 f6 f8)))
 go_wp2
 have hblk:=fS (x:=Value.bool (!b1&& !decide (z1=0))) (y:= .string ⟨(kv z1.natAbs).toArray⟩) (dB hb4 (dB hb1 HBLK.out));refine bodyPost_ret (results_cell_row rfl _ _ (w.heap.size+1) 61 _ (0,0) _ rfl hblk underlying61 rfl kr) rfl ?_;have e:(!b1&& !decide (z1=0))=((!b1)&&decide (z1.natAbs≠0)):=by cases b1<;>simp
 rw[e];refine lO (by rw[Int.natAbs_neg]) (G3 H1.out) H1.out.sm.neg ?_;have hsz:=HSZ.out;have h1:w.heap.size+2<=wA.heap.size:=by have:=hb1.size;rw[<-hsz];exact this
 exact((de hb4 (de hb1 HBEL.out.drew (by show _<=W0.heap.size;omega)) om).setCell (p:=⟨w.heap.size+1,0,none⟩) sp _).setCell (p:=⟨w.heap.size+1,1,none⟩) sp _
def Fs {b1 s1 s2} (h1:ku k1 b1 s1 z1) (h2:ku k2 b2 s2 z2) (hk1:k1<=100000000) (hk2:k2<=100000000) w: Calls prog 40 #[.agg #[.bool b1,.string s1],.agg #[.bool b2,.string s2]] w (iS (k1+k2+8) (z1+z2) w):=by
 have H1:=am h1
 have H2:=am h2
 clear h1 h2
 go_enter func40, ntmps40
 go_wp2_with fail
 have hm1:(fK RB z1.natAbs).length<=100000000:=lS H1.out.sm om
 have hm2:(fK RB z2.natAbs).length<=100000000:=lS H2.out.sm om
 have HLS:=am (Ae (pR H1.out.sm H2.out.sm) om)
 have HSM:=am (pR H1.out.sm H2.out.sm)
 obtain⟨W0,hW0⟩: ∃W0,W0=((w.alloc (.cells #[.bool b1,.string s1] 61)).alloc (.cells #[.bool b2,.string s2] 61)).alloc (.cells #[.bool false,.string ⟨#[]⟩] 61):=⟨_,rfl⟩
 rw[<-hW0]
 obtain⟨f1,f2,f3,f4,f5,f6,f7,f8,hblk,hbel,hsz⟩:=rG _ _ _ _ _ _ _ _ _ _ _ hW0
 clear hW0
 have HBLK:=am hblk
 have HSZ:=am hsz
 have HBEL:=am hbel
 clear hblk hsz hbel
 refine(ld H1.out om _).mono ?_
 rintro e wA ⟨A1,n1,c1,rfl,hl1,hn1,hc1,hw1,hb1⟩
 have q3:=ar hb1 f3
 have q4:=ar hb1 f4
 go_wp2_with fail
 refine(ld H2.out om _).mono ?_
 rintro e wB ⟨A2,n2,c2,rfl,hl2,hn2,hc2,hw2,hb2⟩
 clear q3 q4
 have g1:=ar hb2 (ar hb1 f1)
 have g2:=ar hb2 (ar hb1 f2)
 have g3:=ar hb2 (ar hb1 f3)
 have g4:=ar hb2 (ar hb1 f4)
 have g5:=ar hb2 (ar hb1 f5)
 have g6:=ar hb2 (ar hb1 f6)
 have g7:=bz hb2 (ar hb1 f5) (bz hb1 f5 f7)
 have g8:=bz hb2 (ar hb1 f6) (bz hb1 f6 f8)
 have HB2:=am (de hb2 (de hb1 HBEL.out (by have:=HSZ.out;show _<=W0.heap.size;omega)) (by have:=HSZ.out;have:=hb1.size;have h3:W0.heap.size<=wA.heap.size:=this;omega))
 have HK2:=am (dB hb2 (dB hb1 HBLK.out))
 have hsB:w.heap.size+3<=wB.heap.size:=by have h1:=HSZ.out;have h2:W0.heap.size<=wA.heap.size:=hb1.size;have h3:=hb2.size;omega
 have HW1:=am (lZ hb2 hw1)
 have HW2:=am hw2
 have HL1:=am hl1
 have HL2:=am hl2
 clear f1 f2 f3 f4 f5 f6 f7 f8 HBLK HBEL HSZ hw1 hw2 hb1 hb2
 have hn1':n1<=1000000000:=om
 have hn1b:n1<=100000000:=om
 have hn2b:n2<=100000000:=om
 have hn2':n2<=1000000000:=om
 clear hl1 hl2 hm1 hm2
 by_cases hbb:b1=b2
 ·have hbt:(b1==b2)=true:=by simpa using hbb
  have HA:=am (Fz H1.out H2.out hbb)
  clear hbb
  go_wp2_with fail
  go_region_held3 (λw'=>w'.cell? ⟨w.heap.size,0,none⟩=some (.bool b1)/\w'.cell? ⟨w.heap.size,1,none⟩=some (.string s1)/\w'.cell? ⟨w.heap.size+1,0,none⟩=some (.bool b2)/\w'.cell? ⟨w.heap.size+1,1,none⟩=some (.string s2))
   (first
      |(go_keep;done)
      |((try go_split_ands);(try dsimp only);(repeat' apply And.intro)<;>first|assumption|exact ar aq aq|exact eQ (eQ aq du) du|go_keep))
   (first
    |(go_at_call 64;refine(TE (fK RB z1.natAbs) (fK RB z2.natAbs) A1 A2 n1 n2 c1 c2 _ (eT cT _) (eT cT _) (l9 HW1.out) (l9 HW2.out) HL1.out HL2.out hn1' hn2').mono ?_;rintro e wC ⟨A3,c3,l3,rfl,hl3,dl3,hn3,hc3,hc3',hw3,hb3⟩;rw[dm cT,dm cT,HA.out.1] at hl3)
    |(go_at_call 63;refine(mP l3 A3 _ c3 _ _ dl3 hw3 rfl om hc3 hc3').mono ?_;rintro e wD ⟨rfl,hb4⟩;rw[hl3];unfold wv;have hr1:=ar hb4 (ar hb3 g5);have hr2:=ar hb4 (ar hb3 g6);have hr3:=bz hb4 (ar hb3 g5) (bz hb3 g5 g7);have hr4:=bz hb4 (ar hb3 g6) (bz hb3 g6 g8)))
  go_wp2
  refine bodyPost_ret (results_cell_row rfl _ _ (w.heap.size+2) 61 _ (0,0) _ rfl (fS (dB hb4 (dB hb3 HK2.out))) underlying61 rfl kr) rfl ?_
  have h3:=hb3.size
  have h3':wB.heap.size<=wC.heap.size:=h3
  exact jn b1 sp rfl (λh0=>HA.out.2 (by rw[HA.out.1];exact h0)) HSM.out (((de hb4 (de hb3 HB2.out.drew (by show _<=wB.heap.size;omega)) om).setCell (p:=⟨w.heap.size+2,0,none⟩) sp _).setCell (p:=⟨w.heap.size+2,1,none⟩) sp _)
 ·have hbt:(b1==b2)=false:=by simpa using hbb
  by_cases hlt:z1.natAbs<z2.natAbs
  ·have HA:=am (P0 H1.out H2.out hbb hlt)
   have HCM:=am (show uA z1.natAbs z2.natAbs<0 by rw[rJ hlt];omega)
   have HLE:=am (bw hlt)
   have HLEN:Hid (n1<=n2):=by show n1<=n2;rw[<-HL1.out,<-HL2.out];exact mE cT (bw hlt)
   clear hbb hlt
   go_wp2_with (go_at_call 65;refine(qA z1.natAbs z2.natAbs A1 A2 n1 n2 c1 c2 _ HW1.out HW2.out HL1.out HL2.out hn1' hn2').mono ?_;rintro e wE ⟨rfl,hbE⟩;have hcm:=HCM.out)
   have g7:=bz hbE g5 g7
   have g8:=bz hbE g6 g8
   have g1:=ar hbE g1
   have g2:=ar hbE g2
   have g3:=ar hbE g3
   have g4:=ar hbE g4
   have g5:=ar hbE g5
   have g6:=ar hbE g6
   have HB2:=am (de hbE HB2.out om)
   have HK2:=am (dB hbE HK2.out)
   have hsE:w.heap.size+3<=wE.heap.size:=aC hsB hbE.size
   have HW1:=am (lZ hbE HW1.out)
   have HW2:=am (lZ hbE HW2.out)
   clear hbE
   go_region_held3 (λw'=>w'.cell? ⟨w.heap.size,0,none⟩=some (.bool b1)/\w'.cell? ⟨w.heap.size,1,none⟩=some (.string s1)/\w'.cell? ⟨w.heap.size+1,0,none⟩=some (.bool b2)/\w'.cell? ⟨w.heap.size+1,1,none⟩=some (.string s2))
    (first
       |(go_keep;done)
       |((try go_split_ands);(try dsimp only);(repeat' apply And.intro)<;>first|assumption|exact ar aq aq|exact eQ (eQ aq du) du|go_keep))
    (first
     |(go_at_call 66;refine(Cj (fK RB z2.natAbs) (fK RB z1.natAbs) A2 A1 n2 n1 c2 c1 _ (eT cT _) (eT cT _) (l9 HW2.out) (l9 HW1.out) HL2.out HL1.out hn2' HLEN.out (by rw[dm cT,dm cT];exact HLE.out)).mono ?_;rintro e wC ⟨A3,n3,c3,rfl,hl3,hn3,hc3,hw3,hb3⟩)
     |(go_at_call 63;rw[dm cT,dm cT,HA.out.1] at hl3 hw3;refine(sd (z1+z2).natAbs A3 n3 c3 _ _ hw3 hl3 (by have:=HLS.out;omega) hn3 hc3).mono ?_;rintro e wD ⟨rfl,hb4⟩;unfold wv;have hr1:=ar hb4 (ar hb3 g5);have hr2:=ar hb4 (ar hb3 g6);have hr3:=bz hb4 (ar hb3 g5) (bz hb3 g5 g7);have hr4:=bz hb4 (ar hb3 g6) (bz hb3 g6 g8)))
   go_wp2
   refine bodyPost_ret (results_cell_row rfl _ _ (w.heap.size+2) 61 _ (0,0) _ rfl (fS (dB hb4 (dB hb3 HK2.out))) underlying61 rfl kr) rfl ?_
   have h3:=hb3.size
   have h3':wE.heap.size<=wC.heap.size:=h3
   exact jn b2 sp rfl (λh0=>HA.out.2 (by rw[HA.out.1];exact h0)) HSM.out (((de hb4 (de hb3 HB2.out.drew (by show _<=wE.heap.size;omega)) om).setCell (p:=⟨w.heap.size+2,0,none⟩) sp _).setCell (p:=⟨w.heap.size+2,1,none⟩) sp _)
  ·have HA:=am (PZ H1.out H2.out hbb hlt)
   have HCM:=am (show¬uA z1.natAbs z2.natAbs<0 by rcases cj z2.natAbs z1.natAbs with h|h;rw[rI h];omega;rw[bo h om,rK];omega)
   have HLE:=am (show z2.natAbs<=z1.natAbs by omega)
   have HLEN:Hid (n2<=n1):=by show n2<=n1;rw[<-HL1.out,<-HL2.out];exact mE cT om
   clear hbb hlt
   go_wp2_with (go_at_call 65;refine(qA z1.natAbs z2.natAbs A1 A2 n1 n2 c1 c2 _ HW1.out HW2.out HL1.out HL2.out hn1' hn2').mono ?_;rintro e wE ⟨rfl,hbE⟩;have hcm:=HCM.out)
   have g7:=bz hbE g5 g7
   have g8:=bz hbE g6 g8
   have g1:=ar hbE g1
   have g2:=ar hbE g2
   have g3:=ar hbE g3
   have g4:=ar hbE g4
   have g5:=ar hbE g5
   have g6:=ar hbE g6
   have HB2:=am (de hbE HB2.out om)
   have HK2:=am (dB hbE HK2.out)
   have hsE:w.heap.size+3<=wE.heap.size:=aC hsB hbE.size
   have HW1:=am (lZ hbE HW1.out)
   have HW2:=am (lZ hbE HW2.out)
   clear hbE
   go_region_held3 (λw'=>w'.cell? ⟨w.heap.size,0,none⟩=some (.bool b1)/\w'.cell? ⟨w.heap.size,1,none⟩=some (.string s1)/\w'.cell? ⟨w.heap.size+1,0,none⟩=some (.bool b2)/\w'.cell? ⟨w.heap.size+1,1,none⟩=some (.string s2))
    (first
       |(go_keep;done)
       |((try go_split_ands);(try dsimp only);(repeat' apply And.intro)<;>first|assumption|exact ar aq aq|exact eQ (eQ aq du) du|go_keep))
    (first
     |(go_at_call 66;refine(Cj (fK RB z1.natAbs) (fK RB z2.natAbs) A1 A2 n1 n2 c1 c2 _ (eT cT _) (eT cT _) (l9 HW1.out) (l9 HW2.out) HL1.out HL2.out hn1' HLEN.out (by rw[dm cT,dm cT];exact HLE.out)).mono ?_;rintro e wC ⟨A3,n3,c3,rfl,hl3,hn3,hc3,hw3,hb3⟩)
     |(go_at_call 63;rw[dm cT,dm cT,HA.out.1] at hl3 hw3;refine(sd (z1+z2).natAbs A3 n3 c3 _ _ hw3 hl3 (by have:=HLS.out;omega) hn3 hc3).mono ?_;rintro e wD ⟨rfl,hb4⟩;unfold wv;have hr1:=ar hb4 (ar hb3 g5);have hr2:=ar hb4 (ar hb3 g6);have hr3:=bz hb4 (ar hb3 g5) (bz hb3 g5 g7);have hr4:=bz hb4 (ar hb3 g6) (bz hb3 g6 g8)))
   go_wp2
   refine bodyPost_ret (results_cell_row rfl _ _ (w.heap.size+2) 61 _ (0,0) _ rfl (fS (dB hb4 (dB hb3 HK2.out))) underlying61 rfl kr) rfl ?_
   have h3:=hb3.size
   have h3':wE.heap.size<=wC.heap.size:=h3
   exact jn b1 sp rfl (λh0=>HA.out.2 (by rw[HA.out.1];exact h0)) HSM.out (((de hb4 (de hb3 HB2.out.drew (by show _<=wE.heap.size;omega)) om).setCell (p:=⟨w.heap.size+2,0,none⟩) sp _).setCell (p:=⟨w.heap.size+2,1,none⟩) sp _)
def Fu {b1 s1 s2} (h1:ku k1 b1 s1 z1) (h2:ku k2 b2 s2 z2) (hk1:k1<=90000000) (hk2:k2<=90000000) w: Calls prog 91 #[.agg #[.bool b1,.string s1],.agg #[.bool b2,.string s2]] w (iS (k1+k2+15) (z1-z2) w):=by
 have H1:=am h1;have H2:=am h2;clear h1 h2;go_enter func91, ntmps91
 go_wp2_with fail
 obtain⟨W0,hW0⟩: ∃W0,W0=((w.alloc (.cells #[.bool b1,.string s1] 61)).alloc (.cells #[.bool b2,.string s2] 61)).alloc (.cells #[.bool false,.string ⟨#[]⟩] 61):=⟨_,rfl⟩;rw[<-hW0];obtain⟨f1,f2,f3,f4,f5,f6,f7,f8,hblk,hbel,hsz⟩:=rG _ _ _ _ _ _ _ _ _ _ _ hW0;clear hW0;have HBLK:=am hblk;have HSZ:=am hsz;have HBEL:=am hbel;clear hblk hsz hbel
 go_region_held3 (λw'=>w'.cell? ⟨w.heap.size,0,none⟩=some (.bool b1)/\w'.cell? ⟨w.heap.size,1,none⟩=some (.string s1)/\w'.cell? ⟨w.heap.size+1,0,none⟩=some (.bool b2)/\w'.cell? ⟨w.heap.size+1,1,none⟩=some (.string s2))
  (first
   |(go_keep;done)
   |((try go_split_ands);(try dsimp only);(repeat' apply And.intro)<;>first|assumption|exact ar aq aq|exact eQ (eQ aq du) du|go_keep))
  (first
   |(go_at_call 120;refine(Ft H2.out om _).mono ?_;rintro e wA ⟨b3,s3,rfl,hc3,hn3,hb1⟩)
   |(go_at_call 40;refine(Fs H1.out hn3 om om _).mono ?_;rintro e wD ⟨b4,s4,rfl,hc4,hn4,hb4⟩;have hr1:=ar hb4 (ar hb1 f5);have hr2:=ar hb4 (ar hb1 f6);have hr3:=bz hb4 (ar hb1 f5) (bz hb1 f5 f7);have hr4:=bz hb4 (ar hb1 f6) (bz hb1 f6 f8)))
 go_wp2
 have hblk:=fS (x:=Value.bool b4) (y:= .string s4) (dB hb4 (dB hb1 HBLK.out));refine bodyPost_ret (results_cell_row rfl _ _ (w.heap.size+2) 61 _ (0,0) _ rfl hblk underlying61 rfl kr) rfl ?_;have hsz:=HSZ.out;have h1:w.heap.size+3<=wA.heap.size:=by have:=hb1.size;rw[<-hsz];exact this
 refine⟨b4,s4,rfl,by rw[ph];exact hc4,by rw[ph];exact hn4.mono om,?_⟩;exact((de hb4 (de hb1 HBEL.out.drew (by show _<=W0.heap.size;omega)) om).setCell (p:=⟨w.heap.size+2,0,none⟩) sp _).setCell (p:=⟨w.heap.size+2,1,none⟩) sp _
end
section
variable {m:Nat}
def GE {V j n} (h:V+RB^j*m=n) (g:n<18446744073709551616) (hm:0<m):j<=4:=by
 rcases cj 4 j with d|d
 ·have i:RB^4<=RB^j:=dJ fv om
  have e:RB^j*1<=RB^j*m:=eu _ hm
  have f:RB^4=18446744073709551616:=by rw[dS]
  omega
 ·exact d
def GD (m:Nat):Value.int .u64 ((m:Int)/65536)= .int .u64 ((m/RB:Nat):Int):=by rw[dS,Int.natCast_ediv];rfl
def GF (m:Nat):(m:Int) % 65536=((m % RB:Nat):Int):=by rw[dS,Int.natCast_emod];rfl
def LP (h:m<18446744073709551616):m/RB<18446744073709551616:=em (Nat.div_le_self _ _) h
def B8 {l j n} (hl:ln l=j) (h:val RB l+RB^j*m=n):val RB (l++[m % RB])+RB^(j+1)*(m/RB)=n:=by rw[rt,hl,eo,gg,Nat.add_assoc,<-fa,qi,h]
def Ns n (hn1: -9223372036854775808<=n) (hn2:n<=9223372036854775807) w: Calls prog 41 #[.int .i64 n] w (iS 71 n w):=by
 obtain⟨i0,hi,hz0,hz1,hz2⟩:=info_parts qN
 by_cases h0:n<0
 ·have hm:(IntKind.u64.wrap (-IntKind.u64.wrap n))=((n.natAbs:Nat):Int):=by simp only[IntKind.wrap_u64];omega
  have HM:=am hm
  clear hm
  have hlt:n.natAbs<18446744073709551616:=om
  have HLT:=am hlt
  clear hlt
  go_enter func41, ntmps41
  go_wp2
  go_loopw [3,4] (λv mv wr=> ∃(j m cap:Nat) (A l:_),mv= .int .u64 (m:Int)/\v= .slice A j cap/\m<18446744073709551616/\
    wr.ownsRow (w.heap.size+1) 3 1 (.slice A j cap) j (l.map λd:Nat=>Value.int .i64 (d:Int))/\Hid (ln l=j)/\Dl RB l/\Hid (val RB l+RB^j*m=n.natAbs)/\(0<m\/j<=5)/\
    Below (w.heap.size+1) (w.alloc (.cells #[.bool false,.string ⟨#[]⟩] 61)) wr) (λ_ mv _=>(intOf mv).toNat)
  case atStart=>exact⟨0,n.natAbs,0,none,[],by rw[<-HM.out],rfl,HLT.out,⟨rfl,.inl ⟨rfl,rfl⟩⟩,rfl,Dl.nil _,by simp[Hid,val],om,Below.refl _ _⟩
  case round=>
   obtain⟨j,m,cap,A,l,rfl,rfl,hm64,hown,Hlen,dl,Hv,hj,hbel⟩:=hrel
   have HBEL:=am hbel
   have hsz:=hbel.size
   rw[fG] at hsz
   clear hbel
   by_cases h0:0<m
   ·have hj4:j<=4:=GE Hv.out HLT.out h0
    go_wp2_with (at_builtin;refine wpList_append_own _ rfl _ _ 22 rfl (w.heap.size+1) 3 i0 (.int .i64 0) 1 8 underlying22 hi hz0 hz1 hz2 rfl dc _ _ _ rfl (hown.alloc _) ⟨wr.heap.size,0,none⟩ 1 1 [_] rfl rfl (cell_one_new _ _ _) (by simp[Value.oneCell']) (by unfold maxLen;omega) om su ?_;intro v' w1 hown' hgrow _;obtain⟨g',cap',rfl⟩:=ownsRow_succ hown';have hb1:=HBEL.out.trans (((Below.refl _ wr).alloc hsz _).grown hgrow su (by intro k hk;exact dT hown hk)))
    go_roundw
    case rel=>
     refine⟨j+1,m/RB,cap',_,l++[m % RB],GD m,rfl,LP hm64,iP hown' (GF m),by rw[Hid,aa,Hlen.out];rfl,dl.append (Dl.one (fg _ fv)),B8 Hlen.out Hv.out,om,hb1⟩
    case measure=>simp[intOf];omega
   ·obtain rfl:m=0:=om
    have HCAP:=am (u7 hown)
    have HWD:Hid (Wd .i64 wr wr.heap.size A l):=by have h:=hown;rw[<-Hlen.out] at h;exact z7 h
    have hblk:wr.heap[w.heap.size]? =some (.cells #[.bool false,.string ⟨#[]⟩] 61 (0,0)):=(HBEL.out.block _ om).trans (heap_alloc_new w _)
    have HB2:Hid (Below w.heap.size w wr):=((Below.refl _ w).alloc (ai _) _).trans (HBEL.out.mono om)
    have HVV:Hid (val RB l=n.natAbs):=by have h:=Hv.out;rw[Vn,fM] at h;exact h
    clear hown
    go_wp2_with fail
    refine(mP l A j cap _ _ dl HWD.out Hlen.out om HCAP.out.1 HCAP.out.2).mono ?_
    rintro e wD ⟨rfl,hb4⟩
    rw[HVV.out]
    unfold wv
    have hblk2:=dB hb4 hblk
    have g5:=cell_of_row _ _ 0 _ _ _ hblk2
    have g6:=cell_of_row _ _ 1 _ _ _ hblk2
    have g7:=frozen_of_row _ _ 0 _ _ hblk2
    have g8:=frozen_of_row _ _ 1 _ _ hblk2
    have HB4:=am (de hb4 HB2.out om)
    have HBLK:=am hblk2
    clear hblk hblk2 hb4
    go_wp2
    refine bodyPost_ret (results_cell_row rfl _ _ w.heap.size 61 _ (0,0) _ rfl (fS HBLK.out) underlying61 rfl kr) rfl ?_
    have hz:Sm 64 n:=Sm.int hn1 hn2
    exact jn (k:=64) true (n:=n.natAbs) sp rfl (λh=>by simp;omega) hz ((HB4.out.setCell (p:=⟨w.heap.size,0,none⟩) (ai _) _).setCell (p:=⟨w.heap.size,1,none⟩) (ai _) _)
 ·have hm:n=((n.natAbs:Nat):Int):=om
  have HM:=am hm
  clear hm
  have hlt:n.natAbs<18446744073709551616:=om
  have HLT:=am hlt
  clear hlt
  go_enter func41, ntmps41
  go_wp2
  go_loopw [3,4] (λv mv wr=> ∃(j m cap:Nat) (A l:_),mv= .int .u64 (m:Int)/\v= .slice A j cap/\m<18446744073709551616/\
    wr.ownsRow (w.heap.size+1) 3 1 (.slice A j cap) j (l.map λd:Nat=>Value.int .i64 (d:Int))/\Hid (ln l=j)/\Dl RB l/\Hid (val RB l+RB^j*m=n.natAbs)/\(0<m\/j<=5)/\
    Below (w.heap.size+1) (w.alloc (.cells #[.bool false,.string ⟨#[]⟩] 61)) wr) (λ_ mv _=>(intOf mv).toNat)
  case atStart=>exact⟨0,n.natAbs,0,none,[],by rw[<-HM.out],rfl,HLT.out,⟨rfl,.inl ⟨rfl,rfl⟩⟩,rfl,Dl.nil _,by simp[Hid,val],om,Below.refl _ _⟩
  case round=>
   obtain⟨j,m,cap,A,l,rfl,rfl,hm64,hown,Hlen,dl,Hv,hj,hbel⟩:=hrel
   have HBEL:=am hbel
   have hsz:=hbel.size
   rw[fG] at hsz
   clear hbel
   by_cases h0:0<m
   ·have hj4:j<=4:=GE Hv.out HLT.out h0
    go_wp2_with (at_builtin;refine wpList_append_own _ rfl _ _ 22 rfl (w.heap.size+1) 3 i0 (.int .i64 0) 1 8 underlying22 hi hz0 hz1 hz2 rfl dc _ _ _ rfl (hown.alloc _) ⟨wr.heap.size,0,none⟩ 1 1 [_] rfl rfl (cell_one_new _ _ _) (by simp[Value.oneCell']) (by unfold maxLen;omega) om su ?_;intro v' w1 hown' hgrow _;obtain⟨g',cap',rfl⟩:=ownsRow_succ hown';have hb1:=HBEL.out.trans (((Below.refl _ wr).alloc hsz _).grown hgrow su (by intro k hk;exact dT hown hk)))
    go_roundw
    case rel=>
     refine⟨j+1,m/RB,cap',_,l++[m % RB],GD m,rfl,LP hm64,iP hown' (GF m),by rw[Hid,aa,Hlen.out];rfl,dl.append (Dl.one (fg _ fv)),B8 Hlen.out Hv.out,om,hb1⟩
    case measure=>simp[intOf];omega
   ·obtain rfl:m=0:=om
    have HCAP:=am (u7 hown)
    have HWD:Hid (Wd .i64 wr wr.heap.size A l):=by have h:=hown;rw[<-Hlen.out] at h;exact z7 h
    have hblk:wr.heap[w.heap.size]? =some (.cells #[.bool false,.string ⟨#[]⟩] 61 (0,0)):=(HBEL.out.block _ om).trans (heap_alloc_new w _)
    have HB2:Hid (Below w.heap.size w wr):=((Below.refl _ w).alloc (ai _) _).trans (HBEL.out.mono om)
    have HVV:Hid (val RB l=n.natAbs):=by have h:=Hv.out;rw[Vn,fM] at h;exact h
    clear hown
    go_wp2_with fail
    refine(mP l A j cap _ _ dl HWD.out Hlen.out om HCAP.out.1 HCAP.out.2).mono ?_
    rintro e wD ⟨rfl,hb4⟩
    rw[HVV.out]
    unfold wv
    have hblk2:=dB hb4 hblk
    have g5:=cell_of_row _ _ 0 _ _ _ hblk2
    have g6:=cell_of_row _ _ 1 _ _ _ hblk2
    have g7:=frozen_of_row _ _ 0 _ _ hblk2
    have g8:=frozen_of_row _ _ 1 _ _ hblk2
    have HB4:=am (de hb4 HB2.out om)
    have HBLK:=am hblk2
    clear hblk hblk2 hb4
    go_wp2
    refine bodyPost_ret (results_cell_row rfl _ _ w.heap.size 61 _ (0,0) _ rfl (fS HBLK.out) underlying61 rfl kr) rfl ?_
    have hz:Sm 64 n:=Sm.int hn1 hn2
    exact jn (k:=64) false (n:=n.natAbs) su rfl (λh=>by simp;omega) hz ((HB4.out.setCell (p:=⟨w.heap.size,0,none⟩) (ai _) _).setCell (p:=⟨w.heap.size,1,none⟩) (ai _) _)
end
section
variable {f:FuncId} {k j:Nat} {z y:Int}
abbrev Dn:=List SV->Option (Option Prop×SV)
def dW (P:Program) (f:FuncId) (d:Dn):Prop:=eK P f/\ ∀g p v,d g=some (p,v)->(∀h i,v.den h=v.den i)/\
 ((∀q,p=some q->q)-> ∀h w,Calls P f (g.map (SV.den h)).toArray w λe m=>e= .returned (v.den h)/\Below w.heap.size w m)
def ZM:List (FuncId×Dn)->FuncId->Dn
 |[],_,_=>none
 |(g,d)::l,f,args=>if f=g then d args else ZM l f args
def vA (un:Nat) (l:List (FuncId×Dn)):ic where
 T:=qo
 un:=un
 D:=λf d _=>ZM l f d
 O:=rY qo
def dU (l:List (FuncId×Dn)):Prop:= ∀x∈l,dW prog x.1 x.2
def dU.nil:dU []:=λx d=>by simp at d
def dU.cons {d l} (h:dW prog f d) (hl:dU l):dU ((f,d)::l):=λx e=>by rcases br.1 e with rfl|e;exact h;exact hl x e
def SZ {l} (hl:dU l): ∀{f:FuncId} {args:List SV} {r},ZM l f args=some r-> ∃d,dW prog f d/\d args=some r:=by
 intro f args r h
 induction l with
 |nil=>simp[ZM] at h
 |cons x l ih=>obtain⟨g,d⟩:=x;unfold ZM at h;split at h;rename_i e;rw[e];exact⟨d,hl (g,d) aP,h⟩;exact ih (λy i=>hl y (aD _ i)) h
def cm {l} (hl:dU l) un:iU prog (vA un l) where
 T:=eD
 D f args hf p v h:=by obtain⟨d,i,o⟩:=SZ hl h;obtain⟨r,m⟩:=i.2 args p v o;exact⟨i.1,λe g _=>r e g,λq e w _=>m q e w⟩
 O:=pK eD
def bj: prog.follows .mixedOrders=true:=kr
def m5 {w e w'} (h:iS k z w e w') ρ g:e= .returned ((SV.agg [.wid j z g]).den ρ)/\Below w.heap.size w w':=by obtain⟨b,s,i,⟨rfl,rfl⟩,-,d⟩:=h;exact⟨i,d⟩
def nG (h:Sm k z):ku (k+7) (decide (z<0)) ⟨(kv z.natAbs).toArray⟩ z:=Can.num ⟨rfl,rfl⟩ h
def cp (h:Sm j y) (h':Sm k z):Sm (j+k+1) (y+z):=(h.mono (by omega:j<=j+k)).add (h'.mono (by omega:k<=j+k))
def aH (h:Sm j y) (h':Sm k z):Sm (j+k+1) (y-z):=(h.mono (by omega:j<=j+k)).sub (h'.mono (by omega:k<=j+k))
def Lx:Dn
 |[.c (.int n h)]=>some (none,.agg [.wid 64 n (Sm.int h.1 h.2)])
 |_=>none
def WI:Dn
 |[.agg [.wid j y hy],.agg [.wid k z hz]]=>if j<=80000000/\k<=80000000 then some (none,.agg [.wid (j+k) (y*z) (hy.mul hz)]) else none
 |_=>none
def WF:Dn
 |[.agg [.wid j y hy],.agg [.wid k z hz]]=>if j<=80000000/\k<=80000000 then some (none,.agg [.wid (j+k+1) (y+z) (cp hy hz)]) else none
 |_=>none
def WK:Dn
 |[.agg [.wid j y hy],.agg [.wid k z hz]]=>if j<=80000000/\k<=80000000 then some (none,.agg [.wid (j+k+1) (y-z) (aH hy hz)]) else none
 |_=>none
def WJ:Dn
 |[.agg [.wid j y hy]]=>if j<=80000000 then some (none,.agg [.wid j (-y) hy.neg]) else none
 |_=>none
def wK hy d ρ:(([.agg [.wid j y hy],.agg [.wid k z d]]:List SV).map (SV.den ρ)).toArray=
 #[.agg #[.bool (decide (y<0)),.string ⟨(kv y.natAbs).toArray⟩],.agg #[.bool (decide (z<0)),.string ⟨(kv z.natAbs).toArray⟩]]:=rfl
def Um (o:eK prog f) (h: ∀n,-9223372036854775808<=n->n<=9223372036854775807-> ∀w,Calls prog f #[.int .i64 n] w (iS 71 n w)):dW prog f Lx:=by refine⟨o,λg p v d=> ?_⟩;unfold Lx at d;split at d;rename_i n i;cases d;exact⟨ff,λ_ q w=>(h n i.1 i.2 w).mono λe r m=>m5 m q _⟩;cases d
def a0f (r:eK prog f) (h: ∀{k1 k2 b1 b2 s1 s2 z1 z2},ku k1 b1 s1 z1->ku k2 b2 s2 z2->k1<=90000000->k2<=90000000-> ∀w,Calls prog f #[.agg #[.bool b1,.string s1],.agg #[.bool b2,.string s2]] w (iS (k1+k2+7) (z1*z2) w)): dW prog f WI:=by refine⟨r,λg p v d=> ?_⟩;unfold WI at d;split at d;rename_i j y m k z q;split at d;rename_i o;cases d;refine⟨ff,λ_ s w=> ?_⟩;rw[wK];exact(h (nG m) (nG q) om om w).mono λe u i=>m5 i s _;cases d;cases d
def a0c (r:eK prog f) (h: ∀{k1 k2 b1 b2 s1 s2 z1 z2},ku k1 b1 s1 z1->ku k2 b2 s2 z2->k1<=90000000->k2<=90000000-> ∀w,Calls prog f #[.agg #[.bool b1,.string s1],.agg #[.bool b2,.string s2]] w (iS (k1+k2+8) (z1+z2) w)): dW prog f WF:=by refine⟨r,λg p v d=> ?_⟩;unfold WF at d;split at d;rename_i j y m k z q;split at d;rename_i o;cases d;refine⟨ff,λ_ s w=> ?_⟩;rw[wK];exact(h (nG m) (nG q) om om w).mono λe u i=>m5 i s _;cases d;cases d
def a0h (r:eK prog f) (h: ∀{k1 k2 b1 b2 s1 s2 z1 z2},ku k1 b1 s1 z1->ku k2 b2 s2 z2->k1<=90000000->k2<=90000000-> ∀w,Calls prog f #[.agg #[.bool b1,.string s1],.agg #[.bool b2,.string s2]] w (iS (k1+k2+15) (z1-z2) w)): dW prog f WK:=by refine⟨r,λg p v d=> ?_⟩;unfold WK at d;split at d;rename_i j y m k z q;split at d;rename_i o;cases d;refine⟨ff,λ_ s w=> ?_⟩;rw[wK];exact(h (nG m) (nG q) om om w).mono λe u i=>m5 i s _;cases d;cases d
def a0g (q:eK prog f) (h: ∀{k1 b1 s1 z1},ku k1 b1 s1 z1->k1<=90000000-> ∀w,Calls prog f #[.agg #[.bool b1,.string s1]] w (iS (k1+7) (-z1) w)): dW prog f WJ:=by refine⟨q,λg p v d=> ?_⟩;unfold WJ at d;split at d;rename_i j y m;split at d;rename_i o;cases d;exact⟨ff,λ_ r w=>(h (nG m) om w).mono λe s i=>m5 i r _⟩;cases d;cases d
def base:List (FuncId×Dn):=[(58,Lx),(56,WI),(72,WF),(71,WK),(96,WJ),(41,Lx),(59,WI),(40,WF),(91,WK),(120,WJ)]
def kB:dU base:=
 .cons (Um ⟨_, func58,kr,kr⟩ PB)<|
 .cons (a0f ⟨_, func56,kr,kr⟩ λd e h g w=>Vm d e om om w)<|
 .cons (a0c ⟨_, func72,kr,kr⟩ λd e h g w=>KL d e om om w)<|
 .cons (a0h ⟨_, func71,kr,kr⟩ λd e h g w=>CZ d e om om w)<|
 .cons (a0g ⟨_, func96,kr,kr⟩ λd e w=>CV d om w)<|
 .cons (Um ⟨_, func41,kr,kr⟩ Ns)<|
 .cons (a0f ⟨_, func59,kr,kr⟩ λd e h g w=>PQ d e om om w)<|
 .cons (a0c ⟨_, func40,kr,kr⟩ λd e h g w=>Fs d e om om w)<|
 .cons (a0h ⟨_, func91,kr,kr⟩ λd e h g w=>Fu d e om om w)<|
 .cons (a0g ⟨_, func120,kr,kr⟩ λd e w=>Ft d om w) .nil
def dC {fn} (g:iM prog f fn) {un l} (hl:dU l) {F} (r: ∀f fn,F f=some fn->iM prog f fn) {n d}
  (h: ∀args p v,d args=some (p,v)-> ∃args',(∀ρ,args.map (SV.den ρ)=args'.map (SV.den ρ))/\(∀ρ ρ',v.den ρ=v.den ρ')/\(∀ρ ρ',args'.map (SV.den ρ)=args'.map (SV.den ρ'))/\
   ((∀q,p=some q->q)->A5 (vA un l) (inl (vA un l) F n) fn args' [] λu _=> ∀ρ,u.den ρ=v.den ρ)):dW prog f d:=
 ⟨g.callable,λargs p v o=>by
  obtain⟨args',m,e,i,s⟩:=h args p v o
  exact⟨e,λx ρ w=>by rw[m];exact EB (cm hl un) bj r g e i (s x) ρ w⟩⟩
def Mh:FuncId->Option Func:=λ_=>none
def bg: ∀f fn,Mh f=some fn->iM prog f fn:=λf fn h=>by cases h
def nV {l:List (FuncId×Func)} (hl: ∀x∈l,iM prog x.1 x.2): ∀f fn,lk l f=some fn->iM prog f fn:=λ_ _ h=>hl _ (S1 h)
end
section
variable {f:FuncId} {k off:Nat} {T:TypeId->Option TI} {ev:Operand->SV} {hp:Nat->Option aY} {x:Operand}
abbrev Dr:=List SV->(Nat->Option aY)->Option (Option Prop×SV)
def CY (P:Program) (f:FuncId) (d:Dr):Prop:=eK P f/\ ∀g j p v,d g j=some (p,v)->(∀h i,v.den h=v.den i)/\
 ((∀q,p=some q->q)-> ∀h w,(∀b blk,j b=some blk->fq h blk b w)->Calls P f (g.map (SV.den h)).toArray w λe m=>e= .returned (v.den h)/\Below w.heap.size w m)
def ZN:List (FuncId×Dr)->FuncId->Dr
 |[],_,_,_=>none
 |(g,d)::l,f,args,hf=>if f=g then d args hf else ZN l f args hf
def WP (un:Nat) (l:List (FuncId×Dn)) (r:List (FuncId×Dr)):ic where
 T:=qo
 un:=un
 D:=λf d e=>match ZM l f d with|some x=>some x|none=>ZN r f d e
 O:=rY qo
def nN (l:List (FuncId×Dr)):Prop:= ∀x∈l,CY prog x.1 x.2
def nN.nil:nN []:=λx d=>by simp at d
def nN.cons {d l} (h:CY prog f d) (hl:nN l):nN ((f,d)::l):=λx e=>by rcases br.1 e with rfl|e;exact h;exact hl x e
def S0 {l} (hl:nN l): ∀{f:FuncId} {args:List SV} {hf} {r},ZN l f args hf=some r-> ∃d,CY prog f d/\d args hf=some r:=by
 intro f args hf r h
 induction l with
 |nil=>simp[ZN] at h
 |cons x l ih=>obtain⟨g,d⟩:=x;unfold ZN at h;split at h;rename_i e;rw[e];exact⟨d,hl (g,d) aP,h⟩;exact ih (λy i=>hl y (aD _ i)) h
def DP {l} (hl:dU l) {r} (s:nN r) un:iU prog (WP un l r) where
 T:=eD
 D f args hf p v h:=by unfold WP at h;simp only at h;split at h;rename_i x q;cases h;obtain⟨d,g,j⟩:=SZ hl q;obtain⟨o,m⟩:=g.2 args p v j;exact⟨g.1,λi e _=>o i e,λhp i w _=>m hp i w⟩;obtain⟨d,g,j⟩:=S0 s h;obtain⟨o,m⟩:=g.2 args hf p v j;exact⟨g.1,λi e _=>o i e,m⟩
 O:=pK eD
def Fb {fn} (g:iM prog f fn) {un l} (hl:dU l) {r} (y:nN r) {F} (o: ∀f fn,F f=some fn->iM prog f fn) {n d}
  (h: ∀args p v,d args=some (p,v)-> ∃args',(∀ρ,args.map (SV.den ρ)=args'.map (SV.den ρ))/\(∀ρ ρ',v.den ρ=v.den ρ')/\(∀ρ ρ',args'.map (SV.den ρ)=args'.map (SV.den ρ'))/\
   ((∀q,p=some q->q)->A5 (WP un l r) (inl (WP un l r) F n) fn args' [] λu _=> ∀ρ,u.den ρ=v.den ρ)):dW prog f d:=
 ⟨g.callable,λargs p v m=>by
  obtain⟨args',j,e,i,s⟩:=h args p v m
  exact⟨e,λhp ρ w=>by rw[j];exact EB (DP hl y un) bj o g e i (s hp) ρ w⟩⟩
def gm: ∀l:List SV,iw l l
 |[]=>trivial
 |_::l=>⟨fr,gm l⟩
structure PT where
 x:Int
 y:Int
 z:Int
 hx:IR x
 hy:IR y
 hz:IR z
structure TR where
 a:PT
 b:PT
 c:PT
def mK (p:PT):List C:=[.int p.x p.hx,.int p.y p.hy,.int p.z p.hz]
def qd (t:TR):List C:=[.int t.a.x t.a.hx,.int t.a.y t.a.hy,.int t.a.z t.a.hz,.int t.b.x t.b.hx,.int t.b.y t.b.hy,.int t.b.z t.b.hz,.int t.c.x t.c.hx,.int t.c.y t.c.hy,.int t.c.z t.c.hz]
def fy:List TR->List C
 |[]=>[]
 |t::l=>qd t++fy l
def vm:List C->Option (List TR)
 |[]=>some []
 | .int x1 h1:: .int y1 h2:: .int z1 h3:: .int x2 h4:: .int y2 h5:: .int z2 h6:: .int x3 h7:: .int y3 h8:: .int z3 h9::l=>
  (match vm l with|some m=>some (⟨⟨x1,y1,z1,h1,h2,h3⟩,⟨x2,y2,z2,h4,h5,h6⟩,⟨x3,y3,z3,h7,h8,h9⟩⟩::m)|none=>none)
 |_=>none
def UG: ∀{l m},vm l=some m->l=fy m:=by
 intro l
 induction l using vm.induct with
 |case1=>intro m h;simp[vm] at h;subst h;rfl
 |case2 x1 h1 y1 h2 z1 h3 x2 h4 y2 h5 z2 h6 x3 h7 y3 h8 z3 h9 l m' hm ih=>intro m h;simp only[vm,hm,Option.some.injEq] at h;subst h;rw[ih hm];rfl
 |case3 x1 h1 y1 h2 z1 h3 x2 h4 y2 h5 z2 h6 x3 h7 y3 h8 z3 h9 l hm ih=>intro m h;simp[vm,hm] at h
 |case4 l h1 h2=>
  intro m h
  rw[vm] at h
  ·cases h
  all_goals assumption
def Cy: ∀m:List TR,vm (fy m)=some m
 |[]=>rfl
 |t::m=>by simp[fy,qd,vm,Cy m]
def wG: ∀l:List TR,bu (fy l)=9*ln l
 |[]=>rfl
 |t::l=>by rw[fy,cw,wG l];simp[qd,bu,C.n];omega
def lC: ∀l ρ ρ',af ρ (fy l)=af ρ' (fy l)
 |[],_,_=>rfl
 |t::l,ρ,ρ'=>by rw[fy,bp,bp,lC l ρ ρ'];rfl
def oZ: ∀a b,rp (bu a) (a++b)=some (a,b)
 |[],b=>by cases b<;>rfl
 |x::a,b=>by (have d:0<x.n:=by cases x<;>simp[C.n]);(have e:bu (x::a)=(x.n+bu a-1)+1:=by simp[bu];omega);rw[e,cK,rp,if_pos om,show x.n+bu a-1+1-x.n=bu a by omega,oZ a b]
def eY a m b:dk (a++(m++b)) (bu a) (bu m)=some m:=by unfold dk;rw[oZ];simp only;rw[oZ]
def xy a b:fy (a++b)=fy a++fy b:=by
 induction a with
 |nil=>rfl
 |cons t a ih=>simp[fy,ih]
def ng l (hk:k<ln l):dk (fy l) (k*9) 9=some (qd l[k]):=by
 have e:fy l=fy (l.take k)++(qd l[k]++fy (l.drop (k+1))):=by (have h:l=l.take k++(l[k]::l.drop (k+1)):=by rw[<-List.drop_eq_getElem_cons hk,List.take_append_drop]);rw[show fy l=fy (l.take k++(l[k]::l.drop (k+1))) by rw[<-h],xy];rfl
 have s:bu (fy (l.take k))=k*9:=by rw[wG];simp;omega
 rw[e,<-s];exact eY _ (qd l[k]) _
def eb l:cC (fy l):=lC l
def nS a b:gJ (a++b)=(gJ a&&gJ b):=by
 induction a with
 |nil=>rfl
 |cons x a ih=>simp[gJ,ih,Bool.and_assoc]
def be {g t i} (ho:g= .indexAddr t x i) {sz j z e d h eq} (hT:T t=some ⟨sz,j,z,.slice e d h,eq⟩) {nl b len cap hl} (hx:ev x= .c (.sli nl b off len cap hl)) {hi} (hk:ev i= .c (.int k hi)) (hlt:k<len):mf T g ev hp=some (.val (.c (.ptr b (off+k*d)))):=by subst ho;simp only[mf,hT,hx,hk];show(if k<len then _ else _)=_;rw[if_pos hlt]
def ap {e t} (ho:e= .load t x) {d} (hT:T t=some d) {b} (hx:ev x= .c (.ptr b off)) {blk} (hb:hp b=some blk) {m} (hm:dk blk.cs off d.size=some m) {v} (hv:CI d.agg m=some v):mf T e ev hp=some (.val v):=by subst ho;simp only[mf,hT,hx,hb,jP,hm,hv]
def cN {z} (h:IR z):IntKind.i64.wrap z=z:=by unfold IR at h;unfold IntKind.wrap;simp[IntKind.bits,IntKind.signed];split<;>omega
def dr {n} (h:k<n) (d:IR n):IntKind.i64.wrap ((k:Int)+1)=((k+1:Nat):Int):=by rw[cN (by unfold IR at*;omega)];rfl
def fC {n0:Nat} {b:List SV->List aY->(SE->List SV->List aY->Prop)->Prop} {i:List SV} {hp:List aY} {Q:SE->List SV->List aY->Prop} {G:Type} (j:G->List SV) (hs:G->List aY) (m:G->Nat)
  (hent:lK n0 i hp λtm2 hp2=> ∃g,tm2=j g/\hp2=hs g)
  (d: ∀g,b (j g) (hs g) λe tm' hp'=>(match e with
   | .normal=>lK n0 tm' hp' λtm2 hp2=> ∃g',m g'<m g/\tm2=j g'/\hp2=hs g'
   | .exit id=>Q (.exit id) tm' hp'
   | .ret=>Q .ret tm' hp')):
  (∃n,tV b Q n i hp)\/ ∃(I:Nat->List SV->List aY->Prop),lK n0 i hp (λi hp=> ∃n,I n i hp)/\
   ∀n tm' hp',I n tm' hp'->b tm' hp' λe tm' hp'=>(match e with
    | .normal=>lK n0 tm' hp' λi hp=> ∃n',n'<n/\I n' i hp
    | .exit id=>Q (.exit id) tm' hp'
    | .ret=>Q .ret tm' hp'):=by
 have p:(λ(tm2:List SV) (hp2:List aY)=> ∃g,tm2=j g/\hp2=hs g)=λtm2 hp2=> ∃n,∃g,m g=n/\tm2=j g/\hp2=hs g:=by funext tm2 hp2;apply propext;exact⟨λ⟨g,h⟩=>⟨_,g,rfl,h⟩,λ⟨_,g,_,h⟩=>⟨g,h⟩⟩
 have q: ∀n,(λ(tm2:List SV) (hp2:List aY)=> ∃g',m g'<n/\tm2=j g'/\hp2=hs g')=λtm2 hp2=> ∃n',n'<n/\ ∃g,m g=n'/\tm2=j g/\hp2=hs g:=λn=>by funext tm2 hp2;apply propext;exact⟨λ⟨g,h,o⟩=>⟨_,h,g,rfl,o⟩,λ⟨_,h,g,e,o⟩=>⟨g,by rw[e];exact h,o⟩⟩
 rw[p] at hent
 refine .inr ⟨λn i hp=> ∃g,m g=n/\i=j g/\hp=hs g,hent,?_⟩
 rintro n tm' hp' ⟨g,rfl,rfl,rfl⟩
 have:=d g
 rw[q] at this
 exact this
def iY {a b} (e:a=b) d hb ρ:(SV.c (.int a d)).den ρ=(SV.c (.int b hb)).den ρ:=by subst e;rfl
end
section
variable {T:TypeId->Option TI} {op:Op} {ev:Operand->SV} {hp:Nat->Option aY} {x y:Operand} {ag nl:Bool} {z ez:List C} {e:TypeId} {esz off cap k M:Nat} {eq:Option (List K)}
def cL {a b} (g:cC a) (hb:cC b):cC (a++b):=λf d=>by rw[dG,dG,g f d,hb f d]
def FX {a b d} (e:a=b) hb:SV.c (.int a d)=SV.c (.int b hb):=by subst e;rfl
def WN {t f} (ho:op= .binOp .rem t x y f) {a g} (hx:ev x= .c (.int a g)) {b hb} (hy:ev y= .c (.int b hb)) {c} (d:b≠0) (h:a.tmod b=c) hi: mf T op ev hp=some (.val (.c (.int c hi))):=by subst ho h;simp only[mf,hx,hy,IF];rw[if_neg d]
def fN {t} (ho:op= .slice t x none (some y) none) {sz} (hT:T t=some ⟨sz,ag,z,.slice e esz ez,eq⟩) {b len hl} (hx:ev x= .c (.sli nl b off len cap hl)) {hi} (hk:ev y= .c (.int k hi)) (hlt:k<=cap) h2:mf T op ev hp=some (.val (.c (.sli nl b off k cap h2))):=by subst ho;simp only[mf,hT,hx,Option.map,lW,hk];show(if hc:_ then _ else _)=_;rw[dif_pos ⟨⟨ah _,hlt,ai _⟩,rfl⟩];rfl
def dL (h:decide ((k:Int)<(M:Int))=true):k<M:=by have:=of_decide_eq_true h;omega
def gi (h:decide ((k:Int)<(M:Int))=false):M<=k:=by have:=of_decide_eq_false h;omega
def HO: ∀cs:List C,dk cs 0 0=some []
 |[]=>rfl
 |_::_=>rfl
def fO {t} (ho:op= .slice t x (some y) none none) {sz} (hT:T t=some ⟨sz,ag,z,.slice e esz ez,eq⟩) {b len hl} (hx:ev x= .c (.sli nl b off len cap hl)) {hi} (hk:ev y= .c (.int k hi)) (hlt:k<=len):mf T op ev hp=some (.val (.c (.sli nl b (gP off esz k cap) (len-k) (cap-k) (hl.sub ⟨hlt,hl.1,ai _⟩)))):=by subst ho;simp only[mf,hT,hx,Option.map,lW,hk];show(if hc:_ then _ else _)=_;rw[dif_pos ⟨⟨hlt,hl.1,ai _⟩,rfl⟩]
def gL {len} (h:bZ nl len cap) (hk:k<=len):bZ nl k cap:=⟨aC hk h.1,h.2.1,h.2.2⟩
def a44 (h:k<M):decide ((k:Int)<(M:Int))=true:=decide_eq_true om
def a43 (h:M<=k):decide ((k:Int)<(M:Int))=false:=decide_eq_false om
def gR {t i} (ho:op= .indexAddr t x i) {sz d m} (hT:T t=some ⟨sz,ag,z,.array m esz d,eq⟩) {b} (hx:ev x= .c (.ptr b off)) {hi} (hk:ev i= .c (.int k hi)) (hlt:k<m):mf T op ev hp=some (.val (.c (.ptr b (off+k*esz)))):=by subst ho;simp only[mf,hT,hx,hk];show(if k<m then _ else _)=_;rw[if_pos hlt]
def IC {b} {X Y:Prop} (h:b=true) (hx:X):mX b X Y:=eB (λ_=>hx) (λd=>by rw[h] at d;cases d)
def FL {b} {X Y:Prop} (h:b=false) (hy:Y):mX b X Y:=eB (λd=>by rw[h] at d;cases d) (λ_=>hy)
def bM {t} (ho:op= .store t x y) {d} (hT:T t=some d) {b} (hx:ev x= .c (.ptr b off)) {l} (hy:(ev y).ch=some l) (hl:bu l=d.size/\gJ l=true) {blk} (hb:hp b=some blk) (hro:blk.ro=false) {cs} (hs:ga blk.cs off l=some cs):mf T op ev hp=some (.put b cs):=by subst ho;simp only[mf,hT,hx,hy,hb,TL,hs,hro];rw[if_pos hl];rfl
def jt a m b new (h:bu new=bu m):ga (a++(m++b)) (bu a) new=some (a++(new++b)):=by unfold ga;rw[oZ,h];simp only[oZ]
def CJ (hk:0<k) (h:IR k):IntKind.i64.wrap ((k:Int)-1)=((k-1:Nat):Int):=by rw[cN (by unfold IR at*;omega)];omega
def GQ (h:decide (0<(k:Int))=false):k=0:=by have:=of_decide_eq_false h;omega
def ltI {n} (h:bZ nl n cap) (hk:k<=n):IR k:=by have:=h.ir;unfold IR at*;omega
def zsi {a b:Int} {ha:IR a} {hb:IR b} (e:a=b) (ρ:fF):(SV.c (.int a ha)).den ρ=(SV.c (.int b hb)).den ρ:=by subst e;rfl
def ztb {a b:Bool} (e:a=b) (ρ:fF):(SV.c (.val (.bool a))).den ρ=(SV.c (.val (.bool b))).den ρ:=by subst e;rfl
def zw2 {a b:Int} {ha:IR (IntKind.i64.wrap a)} {hb:IR b} (e:a=b) (ρ:fF):(SV.c (.int (IntKind.i64.wrap a) ha)).den ρ=(SV.c (.int b hb)).den ρ:=zsi (by subst e;exact cN hb) ρ
def zwi {k:Nat} {ha:IR (IntKind.i64.wrap ((k:Int)+1))} {hb:IR ((k+1:Nat):Int)} (ρ:fF):(SV.c (.int (IntKind.i64.wrap ((k:Int)+1)) ha)).den ρ=(SV.c (.int ((k+1:Nat):Int) hb)).den ρ:=zw2 rfl ρ
def zA {a b:Prop} (x:a) (y:b): ∃_:a,b:=⟨x,y⟩
def pc {a:Prop} (x:a): ∃_:a,True:=⟨x,trivial⟩
def TX {hp:List aY} {sel pf:List Nat} {K L:List aY->Prop} (h: ∀x,K x->L x): ∀{l:List Nat} {k:Nat},Am hp sel pf k l K->Am hp sel pf k l L:=by
 intro l
 induction l generalizing K L with
 |nil=>exact λq=>h _ q
 |cons a l ih=>
  intro k q
  unfold Am at q⊢
  split
  rename_i ty ro cs tl hb
  rw[hb] at q
  split
  rename_i hi
  simp only[hi] at q
  exact⟨q.1,ih (λx=>h _) q.2⟩
  rename_i hi
  simp only[hi] at q
  split
  rename_i c hc
  simp only[hc] at q
  exact ih (λx=>h _) q
  rename_i hc
  simp only[hc] at q
  rename_i hb
  rw[hb] at q
  split
  rename_i hi
  simp only[hi] at q
  exact ih (λx=>h _) q
  rename_i hi
  simp only[hi] at q
  exact ih (λx=>h _) q
def TQ {sel keep:List Nat} {vs:Nat->Value} {K L:List SV->Prop} (h: ∀x,K x->L x): ∀{l:List SV} {i:Nat},va sel keep vs i l K->va sel keep vs i l L:=by
 intro l
 induction l generalizing K L with
 |nil=>exact λq=>h _ q
 |cons a l ih=>
  intro i q
  unfold va at q⊢
  split
  rename_i hi
  simp only[hi] at q
  exact ih (λx=>h _) q
  rename_i hi
  simp only[hi] at q
  split
  rename_i c hc
  simp only[hc] at q
  exact ih (λx=>h _) q
  rename_i hc
  simp only[hc] at q
  exact ih (λx=>h _) q
def m0 {n0:Nat} {sel keep pf:List Nat} {vs:Nat->Value} {tm:List SV} {hp:List aY} {K L:List SV->List aY->Prop} (h: ∀x y,K x y->L x y) (q:pt n0 sel keep pf vs tm hp K):pt n0 sel keep pf vs tm hp L:=by
 unfold pt at q⊢
 split
 rename_i e
 simp only[e] at q
 exact TX (λx=>TQ λy=>h y x) q
 rename_i e
 simp only[e] at q
def zP {c:List C} (h:cC c:=by
 first
 |assumption
 |exact ab _ _
 |exact λ_ _=>rfl
 |exact And.left (by assumption)
 |exact bR _
 |exact bT _
 |exact cz _
 |exact eb _
 |exact lf _
 |exact rep_pure _
 |exact(OT.new _).1
 |exact(OP.new _).1
 |exact(OE.new _).1
 |exact(uc.new _).1
 |exact(OW.new _).1
 |exact(OI.new _).1
 |exact fL _
 |exact AS _
 |exact dP _
 |exact dw _ _
 |(repeat' first|exact ab _ _|exact dP _|exact lf _|exact lC _|exact fL _|exact λ_ _=>rfl|refine cJ ?_ ?_|refine cL ?_ ?_)):cC c:=h
def zI {z:Int} (h:IR z:=by
 first
 |assumption
 |decide
 |exact bZ.ir (by assumption)
 |exact(OL.ok _).ir):IR z:=h
def zQ {x y:SV} (h: ∀ρ,x.den ρ=y.den ρ:=by
 first
 |exact λ_=>rfl
 |assumption
 |exact λρ=>zwi ρ
 |exact λρ=>zsi (by assumption) ρ
 |exact λρ=>zsi (Eq.symm (by assumption)) ρ
 |exact λρ=>ztb (by assumption) ρ
 |exact λρ=>ztb (Eq.symm (by assumption)) ρ
 |exact λρ=>zw2 (by omega) ρ
 |exact λρ=>OL.push_sl _ _ (by rfl) _ _ _ ρ
 |exact λρ=>OT.push_sl _ _ (by rfl) _ _ _ ρ
 |exact λρ=>OP.push_sl _ _ (by rfl) _ _ _ ρ
 |exact λρ=>OE.push_sl _ _ (by rfl) _ _ _ ρ
 |exact λρ=>uc.push_sl _ _ (by rfl) _ _ _ ρ): ∀ρ,x.den ρ=y.den ρ:=h
def zM {a b:List SV} (h:iw a b:=by
 repeat(first|exact gm _|exact trivial|refine⟨zQ,?_⟩)):iw a b:=h
def zH {a b:List aY} (h:gx a b:=by
 repeat(first|exact gz _|exact trivial|refine⟨mL _,?_⟩|refine⟨⟨rfl,rfl,rfl,λ_=>rfl⟩,?_⟩|refine⟨by assumption,?_⟩|refine⟨OL.push_blk _ _ _ _ (by rfl) _ (by assumption) (by intro _;rfl),?_⟩|refine⟨OT.push_blk _ _ (by rfl) _ (by assumption) (by intro _;rfl),?_⟩|refine⟨OP.push_blk _ _ (by rfl) _ (by assumption) (by intro _;rfl),?_⟩|refine⟨OE.push_blk _ _ (by rfl) _ (by assumption) (by intro _;rfl),?_⟩|refine⟨uc.push_blk _ _ (by rfl) _ (by assumption) (by intro _;rfl),?_⟩|refine⟨⟨by first|rfl|assumption,by first|rfl|assumption,by first|rfl|assumption,by first|exact λ_=>rfl|assumption⟩,?_⟩)):gx a b:=h
def zL {a b:Nat} (h:a<b:=by
 first
 |omega
 |(show _<_;dsimp only;omega)
 |assumption
 |exact Nat.sub_lt_sub_left (by assumption) (Nat.lt_succ_self _)):a<b:=h
def zNw {l:List aY} (h:pI l:=by
 repeat(first|exact trivial|refine⟨OL.new _ _ _,?_⟩|refine⟨OT.new _,?_⟩|refine⟨OP.new _,?_⟩|refine⟨OE.new _,?_⟩|refine⟨uc.new _,?_⟩|refine⟨OW.new _,?_⟩|refine⟨OI.new _,?_⟩|refine⟨⟨⟨rfl,λ_ _=>rfl⟩,.inr rfl⟩,?_⟩|refine⟨⟨λ_ _=>rfl,.inl rfl⟩,?_⟩|refine⟨by assumption,?_⟩)):pI l:=h
def zR {G:Type} {n0:Nat} {tm:List SV} {hp:List aY} {st:G->List SV} {hs:G->List aY} {mu:G->Nat} {m:Nat} (sel keep pf:List Nat) (g:(Nat->Value)->G)
  (h: ∀vs,pt n0 sel keep pf vs tm hp λtm hp=>mu (g vs)<m/\iw tm (st (g vs))/\gx hp (hs (g vs)):=by
   intro vs
   repeat(first|refine⟨zP,?_⟩|exact⟨zL,zM,zH⟩)):
  lK n0 tm hp λtm2 hp2=> ∃g',mu g'<m/\tm2=st g'/\hp2=hs g':=
 ⟨sel,keep,pf,λvs=>m0 (λ_ _ q=>⟨_,_,q.2.1,q.2.2,_,q.1,rfl,rfl⟩) (h vs)⟩
def zRh {G:Type} {n0:Nat} {tm:List SV} {hp:List aY} {st:G->List SV} {hs:G->List aY} {mu:G->Nat} {m:Nat} {S:Prop} (sel keep pf:List Nat) (g:(Nat->Value)->G) (s:S)
  (h:S-> ∀vs,pt n0 sel keep pf vs tm hp λtm hp=>mu (g vs)<m/\iw tm (st (g vs))/\gx hp (hs (g vs)):=by
   intro s vs
   repeat(obtain⟨_,s⟩:=s)
   repeat(first|refine⟨zP,?_⟩|exact⟨zL,zM,zH⟩)):
  lK n0 tm hp λtm2 hp2=> ∃g',mu g'<m/\tm2=st g'/\hp2=hs g':=
 zR sel keep pf g (h s)
def qg {G:Type} {n0:Nat} {tm:List SV} {hp:List aY} {st:G->List SV} {hs:G->List aY} {mu:G->Nat} {m:Nat} (sel keep pf:List Nat) (g:(Nat->Value)->G) (hm: ∀vs,mu (g vs)<m)
  (h: ∀vs,pt n0 sel keep pf vs tm hp λtm hp=>iw tm (st (g vs))/\gx hp (hs (g vs))):
  lK n0 tm hp λtm2 hp2=> ∃g',mu g'<m/\tm2=st g'/\hp2=hs g':=
 ⟨sel,keep,pf,λvs=>m0 (λ_ _ q=>⟨_,_,q.1,q.2,_,hm vs,rfl,rfl⟩) (h vs)⟩
def zYx {G:Type} {n0:Nat} {tm:List SV} {hp:List aY} {st:G->List SV} {hs:G->List aY} (sel keep pf:List Nat) (g:(Nat->Value)->G)
  (h: ∀vs,pt n0 sel keep pf vs tm hp λtm hp=>iw tm (st (g vs))/\gx hp (hs (g vs))):
  lK n0 tm hp λtm2 hp2=> ∃g',tm2=st g'/\hp2=hs g':=
 ⟨sel,keep,pf,λvs=>m0 (λ_ _ q=>⟨_,_,q.1,q.2,_,rfl,rfl⟩) (h vs)⟩
def zY {G:Type} {n0:Nat} {tm:List SV} {hp:List aY} {st:G->List SV} {hs:G->List aY} (sel keep pf:List Nat) (g:(Nat->Value)->G)
  (h: ∀vs,pt n0 sel keep pf vs tm hp λtm hp=>iw tm (st (g vs))/\gx hp (hs (g vs)):=by
   intro vs
   repeat(first|refine⟨zP,?_⟩|exact⟨zM,zH⟩)):
  lK n0 tm hp λtm2 hp2=> ∃g',tm2=st g'/\hp2=hs g':=
 ⟨sel,keep,pf,λvs=>m0 (λ_ _ q=>⟨_,_,q.1,q.2,_,rfl,rfl⟩) (h vs)⟩
def zYh {G:Type} {n0:Nat} {tm:List SV} {hp:List aY} {st:G->List SV} {hs:G->List aY} {S:Prop} (sel keep pf:List Nat) (g:(Nat->Value)->G) (s:S)
  (h:S-> ∀vs,pt n0 sel keep pf vs tm hp λtm hp=>iw tm (st (g vs))/\gx hp (hs (g vs)):=by
   intro s vs
   repeat(obtain⟨_,s⟩:=s)
   repeat(first|refine⟨zP,?_⟩|exact⟨zM,zH⟩)):
  lK n0 tm hp λtm2 hp2=> ∃g',tm2=st g'/\hp2=hs g':=
 zY sel keep pf g (h s)
def zO {ros news:List aY} {K:SV->List aY->Prop} {v v3:SV} {hp:List aY} (sel pf:List Nat) (hK:K v3 news)
  (h: ∀vs,pt ros.length sel [0] pf vs [v] hp λtm hp2=> ∃v2,tm=[v2]/\gx hp2 (ros++news)/\pI news/\Y7 v2 v3:=by
   intro vs
   repeat(first|refine⟨zP,?_⟩|exact⟨_,rfl,zH,zNw,zQ⟩)):XU ros K v hp:=
 ⟨sel,pf,λvs=>m0 (λ_ _ ⟨v2,a,b,c,d⟩=>⟨v2,news,a,b,c,v3,d,hK⟩) (h vs)⟩
def zB {P X Y:Prop} {b:Bool} (hx:b=true->X) (hy:b=false->Y) (h:mX b X Y->P:=by intro q;(conv=>whnf);exact q):P:=h (eB hx hy)
structure ZQ (Q:Prop):Prop where
 q:Q
def zIx {T:TypeId->Option TI} {op:Op} {ev:Operand->SV} {hp:Nat->Option aY} {t:TypeId} {x i:Operand} (ho:op= .indexAddr t x i) {sz:Nat} {ag:Bool} {z:List C} {e:TypeId} {esz:Nat} {ez:List C} {eq:Option (List K)} (hT:T t=some ⟨sz,ag,z,.slice e esz ez,eq⟩)
  {nl:Bool} {b off len cap:Nat} {hl:bZ nl len cap} (hx:ev x= .c (.sli nl b off len cap hl)) {a:Int} {k:Nat} {hi:IR a} (hk:ev i= .c (.int a hi)) (ha:a=k) (hlt:k<len):mf T op ev hp=some (.val (.c (.ptr b (off+k*esz)))):=by
 subst ha;exact be ho hT hx hk hlt
def zG0 {a b:Option Y0} (h:a=b:=by
 first
 |exact be rfl rfl rfl rfl (by assumption)
 |exact zIx rfl rfl rfl rfl (by assumption) (by assumption)
 |exact ap rfl rfl rfl rfl (mj.get2 (mj.self _ _) (by exact rfl) (by exact rfl) (by assumption)) (by exact rfl)
 |exact ap rfl rfl rfl rfl (mj.part2 (i:=0) (mj.self _ _) (by exact rfl) (by assumption) (r:=pC _) (by exact rfl)) (by exact rfl)
 |exact ap rfl rfl rfl rfl (mj.part2 (mj.self _ _) (by exact rfl) (by assumption) (r:=pC _) (by exact rfl)) (by exact rfl)
 |exact ap rfl rfl rfl rfl (mj.part2 (i:=0) (mj.self _ _) (by exact rfl) (by assumption) (r:=[_]) (by exact rfl)) (by exact rfl)
 |exact ap rfl rfl rfl rfl (mj.part2 (mj.self _ _) (by exact rfl) (by assumption) (r:=[_]) (by exact rfl)) (by exact rfl)
 |exact ap rfl rfl rfl rfl (mj.get2 (by assumption) (by exact rfl) (by exact rfl) (by assumption)) (by exact rfl)
 |exact ap rfl rfl rfl rfl (mj.part2 (i:=0) (by assumption) (by exact rfl) (by assumption) (r:=pC _) (by exact rfl)) (by exact rfl)
 |exact ap rfl rfl rfl rfl (mj.part2 (by assumption) (by exact rfl) (by assumption) (r:=pC _) (by exact rfl)) (by exact rfl)
 |exact ap rfl rfl rfl rfl (mj.part2 (i:=0) (by assumption) (by exact rfl) (by assumption) (r:=[_]) (by exact rfl)) (by exact rfl)
 |exact ap rfl rfl rfl rfl (mj.part2 (by assumption) (by exact rfl) (by assumption) (r:=[_]) (by exact rfl)) (by exact rfl)
 |exact ap rfl rfl rfl rfl (vk _ (by assumption) 0 (r:=mK _) (by exact rfl)) (by exact rfl)
 |exact ap rfl rfl rfl rfl (vk _ (by assumption) _ (r:=mK _) (by exact rfl)) (by exact rfl)
 |exact ap rfl rfl rfl rfl (MX _ (by assumption) 0 (r:=mK _) (by exact rfl)) (by exact rfl)
 |exact ap rfl rfl rfl rfl (MX _ (by assumption) _ (r:=mK _) (by exact rfl)) (by exact rfl)
 |exact ap rfl rfl rfl rfl (AA _ (by assumption)) (by exact rfl)
 |exact ap rfl rfl rfl rfl (HP _ (by assumption)) (by exact rfl)
 |exact ap rfl rfl rfl rfl (YF _ (by assumption)) (by exact rfl)
 |exact ap rfl rfl rfl rfl (HK _ (by assumption)) (by exact rfl)
 |exact ap rfl rfl rfl rfl (HL _ (by assumption)) (by exact rfl)
 |exact ap rfl rfl rfl rfl (mj.cor (by assumption) (by assumption) 0 (r:=mK _) (by exact rfl)) (by exact rfl)
 |exact ap rfl rfl rfl rfl (mj.cor (by assumption) (by assumption) _ (r:=mK _) (by exact rfl)) (by exact rfl)):a=b:=h
def zG {P Q:Prop} (k:Q) (h:ZQ Q->P:=by
 intro q
 conv=>whnf
 repeat(
  conv=>arg 2;tactic'=>exact zG0
  conv=>whnf)
 exact q.q):P:=h ⟨k⟩
def p6 {P Q:Prop} (k:Q) (h:ZQ Q->P:=by
 intro q
 conv=>whnf
 iterate 1 (
  conv=>arg 2;tactic'=>exact zG0
  conv=>whnf)
 exact q.q):P:=h ⟨k⟩
def eS {P Q:Prop} (k:Q) (h:ZQ Q->P:=by
 intro q
 conv=>whnf
 iterate 2 (
  conv=>arg 2;tactic'=>exact zG0
  conv=>whnf)
 exact q.q):P:=h ⟨k⟩
def zG3 {P Q:Prop} (k:Q) (h:ZQ Q->P:=by
 intro q
 conv=>whnf
 iterate 3 (
  conv=>arg 2;tactic'=>exact zG0
  conv=>whnf)
 exact q.q):P:=h ⟨k⟩
def wM {P Q:Prop} (k:Q) (h:ZQ Q->P:=by
 intro q
 conv=>whnf
 iterate 4 (
  conv=>arg 2;tactic'=>exact zG0
  conv=>whnf)
 exact q.q):P:=h ⟨k⟩
def zG5 {P Q:Prop} (k:Q) (h:ZQ Q->P:=by
 intro q
 conv=>whnf
 iterate 5 (
  conv=>arg 2;tactic'=>exact zG0
  conv=>whnf)
 exact q.q):P:=h ⟨k⟩
def zG6 {P Q:Prop} (k:Q) (h:ZQ Q->P:=by
 intro q
 conv=>whnf
 iterate 6 (
  conv=>arg 2;tactic'=>exact zG0
  conv=>whnf)
 exact q.q):P:=h ⟨k⟩
/- w -/
def upK {α:Type}:List (Nat×α)->List α->(List α->Prop)->Prop
 |[],l,K=>K l
 |(i,x)::u,l,K=>fU l i x λl=>upK u l K
def KB {α:Type}: ∀(u:List (Nat×α)) (l:List α),∃r,∀K,upK u l K=K r
 |[],l=>⟨l,λ_=>rfl⟩
 |(i,x)::u,l=>by
  obtain⟨r,h⟩:=KB u (l.set i x)
  exact⟨r,λK=>by unfold upK;rw[dR,h]⟩
def Mz (sel keep:List Nat) (vs:Nat->Value): ∀(l:List SV) (i:Nat),∃r,∀K,va sel keep vs i l K=K r
 |[],_=>⟨[],λ_=>rfl⟩
 |x::l,i=>by
  obtain⟨r,h⟩:=Mz sel keep vs l (i+1)
  cases hi:Vf keep i with
  |false=>exact⟨_,λK=>by unfold va;simp only[hi];rw[h]⟩
  |true=>cases hx:x.ren sel with
   |some y=>exact⟨_,λK=>by unfold va;simp only[hi,hx];rw[h]⟩
   |none=>exact⟨_,λK=>by unfold va;simp only[hi,hx];rw[h]⟩
def sw (hp:List aY) (sel pf:List Nat):Nat->List Nat->(List aY->Prop)->Prop
 |_,[],K=>K []
 |k,a::l,K=>(match an hp a with
  |some ⟨ty,ro,cs,tl⟩=>(match Vf pf k with
   |true=>sw hp sel pf (k+1) l λl=>K (⟨ty,ro,cs,tl⟩::l)
   |false=>(match wm sel cs with
    |some cs=>sw hp sel pf (k+1) l λl=>K (⟨ty,ro,cs,tl⟩::l)
    |none=>False))
  |none=>(match Nat.ble 1000000 a with
   |true=>sw hp sel pf (k+1) l λl=>K ({ty:= .x [],ro:=true,cs:=[],tl:=2}::l)
   |false=>sw hp sel pf (k+1) l λl=>K ({ty:= .t ((a-1000) % 1000),ro:=true,cs:=[],tl:=0}::l)))
def MH (hp:List aY) (sel pf:List Nat): ∀(l:List Nat) (k:Nat),(∃r,∀K,sw hp sel pf k l K=K r)\/ ∀K,sw hp sel pf k l K=False
 |[],_=> .inl ⟨[],λ_=>rfl⟩
 |a::l,k=>by
  have ih:=MH hp sel pf l (k+1)
  cases hb:an hp a with
  |some b=>
   obtain⟨ty,ro,cs,tl⟩:=b
   cases hi:Vf pf k with
   |true=>exact ih.elim (λ⟨r,h⟩=> .inl ⟨_,λK=>by unfold sw;simp only[hb,hi];rw[h]⟩) λh=> .inr λK=>by unfold sw;simp only[hb,hi];rw[h]
   |false=>cases hc:wm sel cs with
    |some c=>exact ih.elim (λ⟨r,h⟩=> .inl ⟨_,λK=>by unfold sw;simp only[hb,hi,hc];rw[h]⟩) λh=> .inr λK=>by unfold sw;simp only[hb,hi,hc];rw[h]
    |none=>exact .inr λK=>by unfold sw;simp only[hb,hi,hc]
  |none=>cases hi:Nat.ble 1000000 a with
   |true=>exact ih.elim (λ⟨r,h⟩=> .inl ⟨_,λK=>by unfold sw;simp only[hb,hi];rw[h]⟩) λh=> .inr λK=>by unfold sw;simp only[hb,hi];rw[h]
   |false=>exact ih.elim (λ⟨r,h⟩=> .inl ⟨_,λK=>by unfold sw;simp only[hb,hi];rw[h]⟩) λh=> .inr λK=>by unfold sw;simp only[hb,hi];rw[h]
def zJ (sel keep pf:List Nat) (up:List (Nat×SV)) (ub:List (Nat×aY)) (tm:List SV) (hp:List aY) (vs:Nat->Value) (K:List SV->List aY->Prop):Prop:=
 sw hp sel pf 0 sel λh=>va sel keep vs 0 tm λt=>upK up t λt=>upK ub h λh=>K t h
def U0 (sel keep pf:List Nat) (up:List (Nat×SV)) (ub:List (Nat×aY)) (tm:List SV) (hp:List aY) (vs:Nat->Value):(∃t h,∀K,zJ sel keep pf up ub tm hp vs K=K t h)\/ ∀K,zJ sel keep pf up ub tm hp vs K=False:=by
 rcases MH hp sel pf sel 0 with⟨h0,e0⟩|e
 obtain⟨t1,e1⟩:=Mz sel keep vs tm 0
 obtain⟨t2,e2⟩:=KB up t1
 obtain⟨h2,e3⟩:=KB ub h0
 exact .inl ⟨t2,h2,λK=>by unfold zJ;rw[e0,e1,e2,e3]⟩
 exact .inr λK=>e _
def zR3 {G:Type} {n0 m:Nat} {tm tm0:List SV} {hp hp0:List aY} {mu:G->Nat} {sel0 keep pf0:List Nat} {up:G->List (Nat×SV)} {ub:G->List (Nat×aY)} (sel pf:List Nat) (g:G) (hm:mu g<m:=by exact zL)
  (h: ∀vs,pt n0 sel keep pf vs tm hp λt2 h2=>zJ sel0 keep pf0 (up g) (ub g) tm0 hp0 vs λt h=>iw t2 t/\gx h2 h:=by
   intro vs
   repeat(first|refine⟨zP,?_⟩|exact⟨zM,zH⟩)):
  lK n0 tm hp λt2 h2=> ∃g vs,mu g<m/\zJ sel0 keep pf0 (up g) (ub g) tm0 hp0 vs λt h=>t2=t/\h2=h:=
 ⟨sel,keep,pf,λvs=>m0 (λt2 h2 q=>(U0 sel0 keep pf0 (up g) (ub g) tm0 hp0 vs).elim (λ⟨t,h,e⟩=>by rw[e] at q;exact⟨t,h,q.1,q.2,g,vs,hm,by rw[e];exact⟨rfl,rfl⟩⟩) λe=>by rw[e] at q;exact q.elim) (h vs)⟩
def a9P {G:Type} {n0 m:Nat} {tm tm0:List SV} {hp hp0:List aY} {mu:G->Nat} {sel0 keep pf0:List Nat} {up:G->List (Nat×SV)} {ub:G->List (Nat×aY)} {S:Prop} (sel pf:List Nat) (g:G) (s:S) (hm:mu g<m:=by exact zL)
 (h:S-> ∀vs,pt n0 sel keep pf vs tm hp λt2 h2=>zJ sel0 keep pf0 (up g) (ub g) tm0 hp0 vs λt h=>iw t2 t/\gx h2 h:=by
  intro s vs
  repeat(obtain⟨_,s⟩:=s)
  repeat(first|refine⟨zP,?_⟩|exact⟨zM,zH⟩)):
 lK n0 tm hp λt2 h2=> ∃g vs,mu g<m/\zJ sel0 keep pf0 (up g) (ub g) tm0 hp0 vs λt h=>t2=t/\h2=h:=zR3 sel pf g hm (h s)
def dD {G:Type} {n0 m:Nat} {tm tm0:List SV} {hp hp0:List aY} {mu:G->Nat} {sel0 keep pf0:List Nat} {up:G->List (Nat×SV)} {ub:G->List (Nat×aY)} (sel:List Nat) (g:G) (hm:mu g<m:=by exact zL)
 (h: ∀vs,pt n0 sel keep pf0 vs tm hp λt2 h2=>zJ sel0 keep pf0 (up g) (ub g) tm0 hp0 vs λt h=>iw t2 t/\gx h2 h:=by
  intro vs
  repeat(first|refine⟨zP,?_⟩|exact⟨zM,zH⟩)):
 lK n0 tm hp λt2 h2=> ∃g vs,mu g<m/\zJ sel0 keep pf0 (up g) (ub g) tm0 hp0 vs λt h=>t2=t/\h2=h:=zR3 sel pf0 g hm h
def nq {G:Type} {n0 m:Nat} {tm tm0:List SV} {hp hp0:List aY} {mu:G->Nat} {sel0 keep pf0:List Nat} {up:G->List (Nat×SV)} {ub:G->List (Nat×aY)} {S:Prop} (sel:List Nat) (g:G) (s:S) (hm:mu g<m:=by exact zL)
 (h:S-> ∀vs,pt n0 sel keep pf0 vs tm hp λt2 h2=>zJ sel0 keep pf0 (up g) (ub g) tm0 hp0 vs λt h=>iw t2 t/\gx h2 h:=by
  intro s vs
  repeat(obtain⟨_,s⟩:=s)
  repeat(first|refine⟨zP,?_⟩|exact⟨zM,zH⟩)):
 lK n0 tm hp λt2 h2=> ∃g vs,mu g<m/\zJ sel0 keep pf0 (up g) (ub g) tm0 hp0 vs λt h=>t2=t/\h2=h:=zR3 sel pf0 g hm (h s)
def zK {n0:Nat} {b:List SV->List aY->(SE->List SV->List aY->Prop)->Prop} {tm:List SV} {hp:List aY} {Q:SE->List SV->List aY->Prop} {G:Type} {S:Prop} (sel keep pf:List Nat) (up:G->List (Nat×SV)) (ub:G->List (Nat×aY)) (mu:G->Nat) (g:G) (s:S)
  (hround: ∀g vs,zJ sel keep pf (up g) (ub g) tm hp vs λt h=>b t h λe tm' hp'=>(match e with
   | .normal=>lK n0 tm' hp' λt2 h2=> ∃g' vs',mu g'<mu g/\zJ sel keep pf (up g') (ub g') tm hp vs' λt h=>t2=t/\h2=h
   | .exit id=>Q (.exit id) tm' hp'
   | .ret=>Q .ret tm' hp'))
  (hent:S-> ∀vs,pt n0 sel keep pf vs tm hp λt2 h2=>zJ sel keep pf (up g) (ub g) tm hp vs λt h=>iw t2 t/\gx h2 h:=by
   intro s vs
   repeat(obtain⟨_,s⟩:=s)
   repeat(first|refine⟨zP,?_⟩|exact⟨zM,zH⟩)):
  (∃n,tV b Q n tm hp)\/ ∃(I:Nat->List SV->List aY->Prop),lK n0 tm hp (λtm hp=> ∃n,I n tm hp)/\
   ∀n tm' hp',I n tm' hp'->b tm' hp' λe tm' hp'=>(match e with
    | .normal=>lK n0 tm' hp' λtm hp=> ∃n',n'<n/\I n' tm hp
    | .exit id=>Q (.exit id) tm' hp'
    | .ret=>Q .ret tm' hp'):=by
 refine .inr ⟨λn t2 h2=> ∃g vs,mu g=n/\zJ sel keep pf (up g) (ub g) tm hp vs λt h=>t2=t/\h2=h,⟨sel,keep,pf,λvs=>m0 (λt2 h2 q=>(U0 sel keep pf (up g) (ub g) tm hp vs).elim (λ⟨t,h,e⟩=>by rw[e] at q;exact⟨t,h,q.1,q.2,_,g,vs,rfl,by rw[e];exact⟨rfl,rfl⟩⟩) λe=>by rw[e] at q;exact q.elim) (hent s vs)⟩,?_⟩
 rintro n t2 h2 ⟨g,vs,rfl,hz⟩
 have e2: ∀n,(λ(t2:List SV) (h2:List aY)=> ∃g' vs',mu g'<n/\zJ sel keep pf (up g') (ub g') tm hp vs' λt h=>t2=t/\h2=h)=λt2 h2=> ∃n',n'<n/\ ∃g vs,mu g=n'/\zJ sel keep pf (up g) (ub g) tm hp vs λt h=>t2=t/\h2=h:=λn=>by
  funext t2 h2;apply propext
  exact⟨λ⟨g,vs,h,h'⟩=>⟨_,h,g,vs,rfl,h'⟩,λ⟨_,h,g,vs,e,h'⟩=>⟨g,vs,by rw[e];exact h,h'⟩⟩
 have:=hround g vs
 rw[e2] at this
 rcases U0 sel keep pf (up g) (ub g) tm hp vs with⟨t,h,e⟩|e
 ·rw[e] at hz this
  obtain⟨rfl,rfl⟩:=hz
  exact this
 ·rw[e] at hz
  exact hz.elim
def Bx {m n:Nat} (h:Nat.ble (m+1) n=true:=by rfl):m<n:=aj h
def zD {n:Nat} {a:List SV} (h: ∀ρ ρ':fF,(∀i,i<n->ρ i=ρ' i)->a.map (SV.den ρ)=a.map (SV.den ρ'):=by
 intro ρ ρ' e
 first
 |rfl
 |(simp only[List.map,SV.den,C.den,C.cells,e 0 Bx,aL,bF,af];first|done|rfl)
 |(simp only[List.map,SV.den,C.den,C.cells,e 0 Bx,e 1 Bx,aL,bF,af];first|done|rfl)
 |(simp only[List.map,SV.den,C.den,C.cells,e 0 Bx,e 1 Bx,e 2 Bx,aL,bF,af];first|done|rfl)
 |(simp only[List.map,SV.den,C.den,C.cells,e 0 Bx,e 1 Bx,e 2 Bx,e 3 Bx,aL,bF,af];first|done|rfl)
 |(simp only[List.map,SV.den,C.den,C.cells,e 0 Bx,e 1 Bx,e 2 Bx,e 3 Bx,e 4 Bx,aL,bF,af];first|done|rfl)
 |(simp only[List.map,SV.den,C.den,C.cells,e 0 Bx,e 1 Bx,e 2 Bx,e 3 Bx,e 4 Bx,e 5 Bx,aL,bF,af];first|done|rfl)): ∀ρ ρ':fF,(∀i,i<n->ρ i=ρ' i)->a.map (SV.den ρ)=a.map (SV.den ρ'):=h
def iT {P A B:Prop} (a:A) (h:ZQ (A\/B)->P:=by intro q;(conv=>whnf);exact q.q):P:=h ⟨.inl a⟩
def A6 {P Q:Prop} (k:Q) (h:ZQ Q->P:=by
 intro q
 refine iT ?_
 exact iT q.q):P:=h ⟨k⟩
def zl3 {P Q:Prop} (k:Q) (h:ZQ Q->P:=by
 intro q
 refine iT ?_
 refine iT ?_
 exact iT q.q):P:=h ⟨k⟩
def YY {P Q:Prop} (k:Q) (h:ZQ Q->P:=by
 intro q
 refine iT ?_
 refine iT ?_
 refine iT ?_
 exact iT q.q):P:=h ⟨k⟩
def zl5 {P Q:Prop} (k:Q) (h:ZQ Q->P:=by
 intro q
 refine iT ?_
 refine iT ?_
 refine iT ?_
 refine iT ?_
 exact iT q.q):P:=h ⟨k⟩
def zl6 {P Q:Prop} (k:Q) (h:ZQ Q->P:=by
 intro q
 refine iT ?_
 refine iT ?_
 refine iT ?_
 refine iT ?_
 refine iT ?_
 exact iT q.q):P:=h ⟨k⟩
end
end Go.Proofs.YtlgcobafjbajdaaGreatDoor
