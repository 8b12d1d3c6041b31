/- A part. -/
import Derived.Test.YtibiiafcnaijeaaGreatB00
import Derived.Test.YtibiiafcnaijeaaGreatB03
namespace Go.Proofs.YtibiiafcnaijeaaGreat
open Go Go.RowKit Go.Proofs.YtibiiafcnaijeaaGreat.Steady
set_option linter.unusedVariables false
set_option linter.unusedSimpArgs false
set_option maxRecDepth 100000
set_option maxHeartbeats 40000000
def REqualOk (a:Vl):Prop:=∀ (b:Vl) (P Q:Nat→Prop) (w:World) (x y:Value),VV P w x a→VV Q w y b→Calls Tryz.prog 15 #[x,y] w (Ret (.bool (eqV a b)) w)
theorem requal_any (a:Vl):REqualOk a:=by
 induction a using Vl.ind with
 | h k n s is ks ih =>
  intro b P Q w x y hx hy;obtain⟨k',n',s',is',ks'⟩:=b;have HQ:=hid (eqV_mk k n s is ks k' n' s' is' ks');have HIH:=hid ih;clear ih;obtain⟨vi,vk,rfl,hI,hK,hss⟩:=hx.out;obtain⟨vi',vk',rfl,hI',hK',hss'⟩:=hy.out;obtain⟨oi,ci,rfl⟩:=hI.len;obtain⟨ok,ck,rfl⟩:=hK.len;obtain⟨oi',ci',rfl⟩:=hI'.len;obtain⟨ok',ck',rfl⟩:=hK'.len;have hli:=hI.le;have hlk:=hK.le;have hli':=hI'.le;have hlk':=hK'.le;obtain⟨hB1,a0,a1,a2,a3,a4⟩:=box5 w (.int .i64 k) (.int .i64 n) (.string s) (.slice oi is.length ci) (.slice ok ks.length ck) 32;obtain⟨hB2,b0,b1,b2,b3,b4⟩:=box5 (w.alloc (.cells #[.int .i64 k,.int .i64 n,.string s,.slice oi is.length ci,.slice ok ks.length ck] 32)) (.int .i64 k') (.int .i64 n') (.string s') (.slice oi' is'.length ci') (.slice ok' ks'.length ck') 32;have p0:=zbb hB2 a0;have p1:=zbb hB2 a1;have p2:=zbb hB2 a2
  have p3:=zbb hB2 a3;have p4:=zbb hB2 a4;rw[show(w.alloc (.cells #[.int .i64 k,.int .i64 n,.string s,.slice oi is.length ci,.slice ok ks.length ck] 32)).heap.size=w.heap.size+1 by simp] at b0 b1 b2 b3 b4;have hBB:=hB1.trans (hB2.mono hB1.size);have hI2:=(hI.bel hB1).bel hB2;have hK2:=(hK.bel hB1).bel hB2;have hI2':=(hI'.bel hB1).bel hB2;have hK2':=(hK'.bel hB1).bel hB2
  generalize hW:(w.alloc (.cells #[.int .i64 k,.int .i64 n,.string s,.slice oi is.length ci,.slice ok ks.length ck] 32)).alloc (.cells #[.int .i64 k',.int .i64 n',.string s',.slice oi' is'.length ci',.slice ok' ks'.length ck'] 32)=W at *
  have HW:=hid hW;have HB:=hid hBB;have HI:=hid hI2;have HK:=hid hK2;have HI':=hid hI2';have HK':=hid hK2';have P0:=hid p0;have P1:=hid p1;have P2:=hid p2;have P3:=hid p3;have P4:=hid p4;have Q0:=hid b0;have Q1:=hid b1;have Q2:=hid b2;have Q3:=hid b3;have Q4:=hid b4;clear hI hK hI' hK' hB1 hB2 a0 a1 a2 a3 a4 b0 b1 b2 b3 b4 p0 p1 p2 p3 p4 hBB hI2 hK2 hI2' hK2' hW hx hy
  by_cases hk:k=k'
  case neg =>
   have f1:decide (k=k')=false:=dF hk;have f2:(k == k')=false:=bF hk
   have f3:(k != k')=true:=by rw[bne,f2];rfl
   have HP:=hid (show eqV (.mk k n s is ks) (.mk k' n' s' is' ks')=false by rw[HQ.out,dF hk];simp);clear hk;have p0:=P0.out;have p1:=P1.out;have p2:=P2.out;have p3:=P3.out;have p4:=P4.out;have q0:=Q0.out;have q1:=Q1.out;have q2:=Q2.out;have q3:=Q3.out;have q4:=Q4.out
   go_enter Tryz.func15,Tryz.ntmps15
   go_upto_region 1 with (fail)
   rw[HW.out]
   go_wp2_with fail
   go_ret;rw[HP.out];exact⟨rfl,HB.out⟩
  by_cases hn:n=n'
  case neg =>
   subst hk;have f1:decide (n=n')=false:=dF hn;have f2:(n == n')=false:=bF hn
   have f3:(n != n')=true:=by rw[bne,f2];rfl
   have HP:=hid (show eqV (.mk k n s is ks) (.mk k n' s' is' ks')=false by rw[HQ.out,dF hn];simp);clear hn;have p0:=P0.out;have p1:=P1.out;have p2:=P2.out;have p3:=P3.out;have p4:=P4.out;have q0:=Q0.out;have q1:=Q1.out;have q2:=Q2.out;have q3:=Q3.out;have q4:=Q4.out
   go_enter Tryz.func15,Tryz.ntmps15
   go_upto_region 1 with (fail)
   rw[HW.out]
   go_wp2_with fail
   go_ret;rw[HP.out];exact⟨rfl,HB.out⟩
  by_cases hs:s=s'
  case neg =>
   subst hk;subst hn;obtain⟨f1,f2⟩:=str_ne hs;have f3:=str_ne2 hs;have f4:decide (s=s')=false:=dF hs;have HP:=hid (show eqV (.mk k n s is ks) (.mk k n s' is' ks')=false by rw[HQ.out,dF hs];simp);clear hs;have p0:=P0.out;have p1:=P1.out;have p2:=P2.out;have p3:=P3.out;have p4:=P4.out;have q0:=Q0.out;have q1:=Q1.out;have q2:=Q2.out;have q3:=Q3.out;have q4:=Q4.out
   go_enter Tryz.func15,Tryz.ntmps15
   go_upto_region 1 with (fail)
   rw[HW.out]
   go_wp2_with fail
   go_ret;rw[HP.out];exact⟨rfl,HB.out⟩
  subst hk;subst hn;subst hs
  by_cases hne:is.length=is'.length
  case neg =>
   have HP:=hid (show eqV (.mk k n s is ks) (.mk k n s is' ks')=false by rw[HQ.out,eqVL_len hne];simp);have hb1:decide ((is.length:Int)=(is'.length:Int))=false:=dF (by omega);have hb3:((is.length:Int) == (is'.length:Int))=false:=bF (by omega)
   have hb2:((is.length:Int) != (is'.length:Int))=true:=by rw[bne,hb3];rfl
   clear hne;have p0:=P0.out;have p1:=P1.out;have p2:=P2.out;have p3:=P3.out;have p4:=P4.out;have q0:=Q0.out;have q1:=Q1.out;have q2:=Q2.out;have q3:=Q3.out;have q4:=Q4.out
   go_enter Tryz.func15,Tryz.ntmps15
   go_upto_region 1 with (fail)
   rw[HW.out]
   go_wp2_with fail
   go_ret;rw[HP.out];exact⟨rfl,HB.out⟩
  by_cases hnk:ks.length=ks'.length
  case neg =>
   have HP:=hid (show eqV (.mk k n s is ks) (.mk k n s is' ks')=false by rw[HQ.out,show decide (ks=ks')=false from dF fun e=>hnk (by rw[e])];simp);have hb1:decide ((ks.length:Int)=(ks'.length:Int))=false:=dF (by omega);have hb3:((ks.length:Int) == (ks'.length:Int))=false:=bF (by omega)
   have hb2:((ks.length:Int) != (ks'.length:Int))=true:=by rw[bne,hb3];rfl
   rw[←hne] at HW Q3;clear hnk HI';rw[←hne];clear hne;have p0:=P0.out;have p1:=P1.out;have p2:=P2.out;have p3:=P3.out;have p4:=P4.out;have q0:=Q0.out;have q1:=Q1.out;have q2:=Q2.out;have q3:=Q3.out;have q4:=Q4.out
   go_enter Tryz.func15,Tryz.ntmps15
   go_upto_region 1 with (fail)
   rw[HW.out]
   go_wp2_with fail
   go_ret;rw[HP.out];exact⟨rfl,HB.out⟩
  have HL:=hid hne;have HLK:=hid hnk
  have HLI:Hid (WV Q W (.slice oi' is.length ci') is'):=by rw[hne];exact HI'
  have HLV:Hid (SV Q W (.slice ok' ks.length ck') ks'):=by rw[hnk];exact HK'
  rw[←hne,←hnk] at HW;rw[←hne] at Q3;rw[←hnk] at Q4;rw[←hne,←hnk];clear hne hnk HI' HK';have p0:=P0.out;have p1:=P1.out;have p2:=P2.out;have p3:=P3.out;have p4:=P4.out;have q0:=Q0.out;have q1:=Q1.out;have q2:=Q2.out;have q3:=Q3.out;have q4:=Q4.out
  go_enter Tryz.func15,Tryz.ntmps15
  go_upto_region 1 with (fail)
  rw[HW.out]
  go_wp2_with fail
  clear p0 p1 p2 p3 p4 q0 q1 q2 q3 q4
  go_loopw [5] (fun i wr=>∃ j:Nat,j≤ks.length∧i=.int .i64 j∧Hid (Below W.heap.size W wr)∧Hid (∀ i (h1:i<ks.length) (h2:i<ks'.length),i<j→ks[i]=ks'[i])) (fun i _=>ks.length - (intOf i).toNat)
  case atStart=>exact⟨0,Nat.zero_le _,rfl,hid (Below.refl _ _),hid fun i _ _ hi=>absurd hi (Nat.not_lt_zero _)⟩
  case round =>
   obtain⟨j,hj,rfl,B,A⟩:=hrel;have p4:=zbb B.out P4.out;have q4:=zbb B.out Q4.out
   by_cases hlt:j<ks.length
   ·have hltb:j<ks'.length:=by rw[←HLK.out];exact hlt
    obtain⟨g1,o1,c1,e1,hc1⟩:=(HK.out.bel B.out).at hlt;obtain⟨g2,o2,c2,e2,hc2⟩:=(HLV.out.bel B.out).at hltb
    cases e1
    rw[←HLK.out] at e2
    cases e2
    have hj0:(0:Int)≤(j:Int):=by omega
    have hj1:(j:Int)<(ks.length:Int):=by omega
    have hno:=get_no hlt hltb;obtain⟨x,hx⟩:∃ x,ks[j]=x:=⟨_,rfl⟩;obtain⟨y,hy⟩:∃ y,ks'[j]=y:=⟨_,rfl⟩;rw[hx] at hc1 hno;rw[hy] at hc2 hno;have Hno:=hid hno;have HX:=hid hx;have HY2:=hid hy;clear hno hx hy
    by_cases hxy:x=y
    ·subst hxy
     go_wp2_with fail
     refine zss (fun v=>v.cell? ⟨w.heap.size,4,none⟩=some (.slice (some ⟨g1,o1,none⟩) ks.length ck)∧v.cell? ⟨w.heap.size+1,4,none⟩=some (.slice (some ⟨g2,o2,none⟩) ks.length ck')∧v.cell? ⟨g1,o1+j,none⟩=some (.string x)∧v.cell? ⟨g2,o2+j,none⟩=some (.string x)) (by kernel_rfl) (by kernel_rfl) (⟨p4,q4,hc1,hc2⟩) ?_;refine cR1 ?_;refine zn ?_
     go_wp2_with fail
     go_roundw
     case rel =>
      refine⟨j+1,by omega,by go_num,hid (zdd B.out),hid fun i h1 h2 hi=>?_⟩
      by_cases e:i=j
      ·subst e;rw[HX.out,HY2.out]
      ·exact A.out i h1 h2 (by omega)
     case measure=>simp[intOf];omega
    ·obtain⟨hb1,hb2⟩:=str_ne hxy
     have hb3:=str_ne2 hxy;have HP:=hid (show eqV (.mk k n s is ks) (.mk k n s is' ks')=false by rw[HQ.out,Hno.out hxy];simp);clear hxy
     go_wp2_with fail
     refine zss (fun v=>v.cell? ⟨w.heap.size,4,none⟩=some (.slice (some ⟨g1,o1,none⟩) ks.length ck)∧v.cell? ⟨w.heap.size+1,4,none⟩=some (.slice (some ⟨g2,o2,none⟩) ks.length ck')∧v.cell? ⟨g1,o1+j,none⟩=some (.string x)∧v.cell? ⟨g2,o2+j,none⟩=some (.string y)) (by kernel_rfl) (by kernel_rfl) (⟨p4,q4,hc1,hc2⟩) ?_;refine cR1 ?_;refine zn ?_
     go_wp2_with fail
     go_ret;exact⟨by rw[HP.out];rfl,HB.out.trans ((zdd B.out).mono HB.out.size)⟩
   ·have HP:=hid (show eqV (.mk k n s is ks) (.mk k n s is' ks')=eqVL is is' by rw[HQ.out,get_yes HLK.out fun j h1 h2=>A.out j h1 h2 (by omega)];simp)
    go_wp2_with fail
    clear p4 q4;have HB2:=hT HB B.out;have HEa:=hid (HI.out.bel B.out);have HEb:=hid (HLI.out.bel B.out);have P3':=hid (zbb B.out P3.out);have Q3':=hid (zbb B.out Q3.out);clear B A HI HLI HK HLV P0 P1 P2 P3 P4 Q0 Q1 Q2 Q3 Q4
    go_loopw [6] (fun i wr2=>∃ j:Nat,j≤is.length∧i=.int .i64 j∧Hid (Below wr.heap.size wr wr2)∧Hid (eqVL (is.drop j) (is'.drop j)=eqVL is is')) (fun i _=>is.length - (intOf i).toNat)
    case atStart=>exact⟨0,Nat.zero_le _,rfl,hid (Below.refl _ _),hid rfl⟩
    case round =>
     rename_i w0 wr;obtain⟨j,hj,rfl,B,A⟩:=hrel;have p3:=zbb B.out P3'.out;have q3:=zbb B.out Q3'.out
     by_cases hlt:j<is.length
     ·have hltb:j<is'.length:=by rw[←HL.out];exact hlt
      obtain⟨g1,o1,c1,k1,n1,s1,oy1,my1,cy1,oz1,mz1,cz1,e1,a1,a2,a3,a4,a5,hT1,-⟩:=(HEa.out.bel B.out).at hlt;obtain⟨g2,o2,c2,k2,n2,s2,oy2,my2,cy2,oz2,mz2,cz2,e2,b1,b2,b3,b4,b5,hT2,-⟩:=(HEb.out.bel B.out).at hltb
      cases e1
      rw[←HL.out] at e2
      cases e2
      have hj0:(0:Int)≤(j:Int):=by omega
      have hj1:(j:Int)<(is.length:Int):=by omega
      have hstep:=eqVL_drop hlt hltb;rw[A.out] at hstep;have hcall:=HIH.out is[j] (lM hlt) is'[j] P Q wr.drew _ _ (hT1.bel (zdd (Below.refl _ _))) (hT2.bel (zdd (Below.refl _ _)));have HCall:=hid hcall;clear hcall hT1 hT2 A
      cases hfe:eqV is[j] is'[j] with
      | false =>
       rw[hfe,Bool.false_and] at hstep;rw[hfe] at HCall;have HS:=hid hstep;clear hfe hstep
       go_wp2_with fail
       refine zss (fun v=>v.cell? ⟨w.heap.size,3,none⟩=some (.slice (some ⟨g1,o1,none⟩) is.length ci)∧v.cell? ⟨w.heap.size+1,3,none⟩=some (.slice (some ⟨g2,o2,none⟩) is.length ci')∧v.cell? ⟨g1,o1+j*5,none⟩=some (.int .i64 k1)∧v.cell? ⟨g1,o1+j*5+1,none⟩=some (.int .i64 n1)∧v.cell? ⟨g1,o1+j*5+2,none⟩=some (.string s1)∧v.cell? ⟨g1,o1+j*5+3,none⟩=some (.slice oy1 my1 cy1)∧v.cell? ⟨g1,o1+j*5+4,none⟩=some (.slice oz1 mz1 cz1)∧v.cell? ⟨g2,o2+j*5,none⟩=some (.int .i64 k2)∧v.cell? ⟨g2,o2+j*5+1,none⟩=some (.int .i64 n2)∧v.cell? ⟨g2,o2+j*5+2,none⟩=some (.string s2)∧v.cell? ⟨g2,o2+j*5+3,none⟩=some (.slice oy2 my2 cy2)∧v.cell? ⟨g2,o2+j*5+4,none⟩=some (.slice oz2 mz2 cz2)) (by kernel_rfl) (by kernel_rfl) (⟨p3,q3,a1,a2,a3,a4,a5,b1,b2,b3,b4,b5⟩) ?_;refine cR1 ?_
       refine qqL rfl (by rfl) (fun K hK=>?_)
       go_simp
       refine HCall.out.mono ?_;rintro e w4 ⟨rfl,hb4⟩;have HB4:=hid ((zdd B.out).trans (hb4.mono (zdd B.out).size));have r1:=zbb (W:=wr.drew) hb4 p3;have r2:=zbb (W:=wr.drew) hb4 q3;have r3:=zbb (W:=wr.drew) hb4 a1;have r4:=zbb (W:=wr.drew) hb4 a2;have r5:=zbb (W:=wr.drew) hb4 a3;have r6:=zbb (W:=wr.drew) hb4 a4;have r7:=zbb (W:=wr.drew) hb4 a5;have r8:=zbb (W:=wr.drew) hb4 b1;have r9:=zbb (W:=wr.drew) hb4 b2;have r10:=zbb (W:=wr.drew) hb4 b3;have r11:=zbb (W:=wr.drew) hb4 b4;have r12:=zbb (W:=wr.drew) hb4 b5;clear hb4;refine hK.out _ _ (⟨r1,r2,r3,r4,r5,r6,r7,r8,r9,r10,r11,r12⟩) ?_;clear hK K
       try simp only[pT]
       refine cR1 ?_;refine zn ?_
       go_wp2_with fail
       go_ret;exact⟨by rw[HP.out,HS.out];rfl,HB2.out.trans (HB4.out.mono HB2.out.size)⟩
      | true =>
       rw[hfe,Bool.true_and] at hstep;rw[hfe] at HCall;have HS:=hid hstep;clear hfe hstep
       go_wp2_with fail
       refine zss (fun v=>v.cell? ⟨w.heap.size,3,none⟩=some (.slice (some ⟨g1,o1,none⟩) is.length ci)∧v.cell? ⟨w.heap.size+1,3,none⟩=some (.slice (some ⟨g2,o2,none⟩) is.length ci')∧v.cell? ⟨g1,o1+j*5,none⟩=some (.int .i64 k1)∧v.cell? ⟨g1,o1+j*5+1,none⟩=some (.int .i64 n1)∧v.cell? ⟨g1,o1+j*5+2,none⟩=some (.string s1)∧v.cell? ⟨g1,o1+j*5+3,none⟩=some (.slice oy1 my1 cy1)∧v.cell? ⟨g1,o1+j*5+4,none⟩=some (.slice oz1 mz1 cz1)∧v.cell? ⟨g2,o2+j*5,none⟩=some (.int .i64 k2)∧v.cell? ⟨g2,o2+j*5+1,none⟩=some (.int .i64 n2)∧v.cell? ⟨g2,o2+j*5+2,none⟩=some (.string s2)∧v.cell? ⟨g2,o2+j*5+3,none⟩=some (.slice oy2 my2 cy2)∧v.cell? ⟨g2,o2+j*5+4,none⟩=some (.slice oz2 mz2 cz2)) (by kernel_rfl) (by kernel_rfl) (⟨p3,q3,a1,a2,a3,a4,a5,b1,b2,b3,b4,b5⟩) ?_;refine cR1 ?_
       refine qqL rfl (by rfl) (fun K hK=>?_)
       go_simp
       refine HCall.out.mono ?_;rintro e w4 ⟨rfl,hb4⟩;have HB4:=hid ((zdd B.out).trans (hb4.mono (zdd B.out).size));have r1:=zbb (W:=wr.drew) hb4 p3;have r2:=zbb (W:=wr.drew) hb4 q3;have r3:=zbb (W:=wr.drew) hb4 a1;have r4:=zbb (W:=wr.drew) hb4 a2;have r5:=zbb (W:=wr.drew) hb4 a3;have r6:=zbb (W:=wr.drew) hb4 a4;have r7:=zbb (W:=wr.drew) hb4 a5;have r8:=zbb (W:=wr.drew) hb4 b1;have r9:=zbb (W:=wr.drew) hb4 b2;have r10:=zbb (W:=wr.drew) hb4 b3;have r11:=zbb (W:=wr.drew) hb4 b4;have r12:=zbb (W:=wr.drew) hb4 b5;clear hb4;refine hK.out _ _ (⟨r1,r2,r3,r4,r5,r6,r7,r8,r9,r10,r11,r12⟩) ?_;clear hK K
       try simp only[pT]
       refine cR1 ?_;refine zn ?_
       go_wp2_with fail
       go_roundw
       case rel=>exact⟨j+1,by omega,by go_num,HB4,hid HS.out.symm⟩
       case measure=>simp[intOf];omega
     ·have hfin:eqV (.mk k n s is ks) (.mk k n s is' ks')=true:=by
       rw[HP.out,←A.out,List.drop_eq_nil_of_le (by omega),List.drop_eq_nil_of_le (by have:=HL.out;omega),eqVL]
      have HFin:=hid hfin;clear hfin
      go_wp2_with fail
      go_ret;exact⟨by rw[HFin.out];rfl,HB2.out.trans (B.out.mono HB2.out.size)⟩
end Go.Proofs.YtibiiafcnaijeaaGreat
