/- A part. -/
import Derived.Test.YtibiiafcnaijeaaGreatB00
import Derived.Test.YtibiiafcnaijeaaGreatB06
import Derived.Test.YtibiiafcnaijeaaGreatB04
namespace Go.Proofs.YtibiiafcnaijeaaGreat
open Go Go.RowKit Go.Proofs.YtibiiafcnaijeaaGreat.Steady
set_option linter.unusedVariables false
set_option linter.unusedSimpArgs false
set_option maxRecDepth 100000
set_option maxHeartbeats 40000000
theorem asc_adj:∀ (l:List ByteArray),(∀ i (h:i+1<l.length),ltS (l[i]'(by omega)) l[i+1]=true)→Asc l
 | [],_=>List.Pairwise.nil
 | [a],_=>List.Pairwise.cons (fun x hx=>absurd hx List.not_mem_nil) List.Pairwise.nil
 | a :: b :: r,h=>by
  have h0:ltS a b=true:=h 0 (by simp)
  have ih:Asc (b :: r):=asc_adj (b :: r) fun i hi=>h (i+1) (by simpa using hi)
  refine List.Pairwise.cons (fun x hx=>?_) ih
  rcases List.mem_cons.1 hx with rfl|hx
  ·exact h0
  ·exact ltS_trans h0 ((List.pairwise_cons.1 ih).1 x hx)
def NodePost (k n:Int) (s:ByteArray) (nI:Nat) (ks:List ByteArray) (w:World) (e:Ending) (w':World):Prop:=∃ r:Int,e=.returned (.int .i64 r)∧(r=0→ShP k n s nI ks.length∧Asc ks)∧Below w.heap.size w w'
theorem node_any (P:Nat→Prop) (k n:Int) (s:ByteArray) (oi ok:Option Addr) (nI ci ck:Nat) (ks:List ByteArray) (w:World) (hI:nI≤140737488355328) (hs:s.size≤140737488355328) (hK:SV P w (.slice ok ks.length ck) ks) :
  Calls Tryz.prog 85 #[.agg #[.int .i64 k,.int .i64 n,.string s,.slice oi nI ci,.slice ok ks.length ck]] w (NodePost k n s nI ks w):=by
 have hlk:=hK.le;obtain⟨hB,c0,c1,c2,c3,c4⟩:=box5 w (.int .i64 k) (.int .i64 n) (.string s) (.slice oi nI ci) (.slice ok ks.length ck) 32;have HN:=hid (hK.bel hB);have HB:=hid hB
 generalize hW:w.alloc (.cells #[.int .i64 k,.int .i64 n,.string s,.slice oi nI ci,.slice ok ks.length ck] 32)=W at *
 have HW:=hid hW;have HSH:=hid (vshaped_any k n s oi ok nI ci ks.length ck W hI hlk);have C0:=hid c0;have C1:=hid c1;have C2:=hid c2;have C4:=hid c4;clear hB hW hK
 go_enter Tryz.func85,Tryz.ntmps85
 go_wp2_with fail
 rw[HW.out];refine HSH.out.mono ?_;rintro e w2 ⟨b,rfl,hsh,hb2⟩;have HB2:=hT HB hb2;have HN2:=hid (HN.out.bel hb2);have c0:=zbb hb2 C0.out;have c1:=zbb hb2 C1.out;have c2:=zbb hb2 C2.out;have c4:=zbb hb2 C4.out;clear hb2 HSH HN C0 C1 C2 C4 HW HB c3
 cases b with
 | false =>
  go_wp2_with fail
  go_ret;exact⟨1,rfl,fun h=>by omega,HB2.out⟩
 | true =>
  have HS:=hid (hsh rfl);clear hsh;have C0:=hid c0;have C2:=hid c2;have C4:=hid c4;have HNV:=hid (nvalid_any n w2);have HT:=hid (text_any s w2 hs)
  go_upto_region 3 with (fail)
  go_cut [17] (fun b wx=>∃ c:Bool,b=.bool c∧Hid (Below w2.heap.size w2 wx))
  case first =>
   by_cases k2:k=2
   ·have d2:decide (k=2)=true:=dTT k2
    have d2b:(k == 2)=true:=bT k2;clear k2
    go_wp2_with fail
    refine HNV.out.mono ?_;rintro e w3 ⟨b,rfl,hb3⟩;have HB3:=hid hb3;clear hb3
    go_wp2_with fail
    go_meet;exact⟨_,rfl,HB3⟩
   ·have d2:decide (k=2)=false:=dF k2
    have d2b:(k == 2)=false:=bF k2;clear k2
    go_wp2_with fail
    go_meet;exact⟨false,rfl,hid (Below.refl _ _)⟩
  case rest =>
   obtain⟨b,rfl,HB3⟩:=hcut;clear c0 c1 c2 c4;have c0:=zbb HB3.out C0.out;have c2:=zbb HB3.out C2.out;have c4:=zbb HB3.out C4.out
   cases b with
   | true =>
    go_wp2_with fail
    go_ret;exact⟨5,rfl,fun h=>by omega,HB2.out.trans (HB3.out.mono HB2.out.size)⟩
   | false =>
    have HT:=hid (text_any s wc hs)
    go_wp2_with fail
    refine HT.out.mono ?_;rintro e w4 ⟨r4,rfl,hb4⟩;have HB4:=hT HB3 hb4;clear hb4 c0 c2 c4
    by_cases hr:r4=0
    case neg =>
     have d1:decide (r4=0)=false:=dF hr;have d2:(r4 == 0)=false:=bF hr
     have d3:(r4 != 0)=true:=by rw[bne,d2];rfl
     have HR:=hid hr;clear hr
     go_wp2_with fail
     go_ret;exact⟨_,rfl,fun h=>absurd h HR.out,HB2.out.trans (HB4.out.mono HB2.out.size)⟩
    have d1:decide (r4=0)=true:=dTT hr;have d2:(r4 == 0)=true:=bT hr
    have d3:(r4 != 0)=false:=by rw[bne,d2];rfl
    clear hr
    go_wp2_with fail
    clear d1 d2 d3 HT HNV HB3
    go_loopw [4] (fun i wr=>∃ j:Nat,j≤ks.length∧i=.int .i64 j∧Hid (Below w2.heap.size w2 wr)∧Hid (∀ i (h:i+1<ks.length),i+1<j→ltS (ks[i]'(by omega)) ks[i+1]=true)) (fun i _=>ks.length - (intOf i).toNat)
    case atStart=>exact⟨0,Nat.zero_le _,rfl,HB4,hid fun i h hi=>absurd hi (by omega)⟩
    case round =>
     obtain⟨j,hj,rfl,B,A⟩:=hrel;have c0':=zbb B.out C0.out;have c4':=zbb B.out C4.out;have HN3:=hid (HN2.out.bel B.out)
     by_cases hlt:j<ks.length
     ·obtain⟨g,o,c,e1,a1⟩:=HN3.out.at hlt
      cases e1
      have hj0:(0:Int)≤(j:Int):=by omega
      have hj1:(j:Int)<(ks.length:Int):=by omega
      have HTX:=hid (text_any ks[j] wr (HN2.out.2 _ (lM hlt)))
      go_wp2_with fail
      clear a1;refine HTX.out.mono ?_;rintro e w5 ⟨r5,rfl,hb5⟩;have HB5:=hT B hb5;have c0:=zbb HB5.out C0.out;have c4:=zbb HB5.out C4.out;have HN5:=hid (HN3.out.bel hb5);clear hb5 HTX HN3 B c0' c4'
      by_cases hr:r5=0
      case neg =>
       have d1:decide (r5=0)=false:=dF hr;have d2:(r5 == 0)=false:=bF hr
       have d3:(r5 != 0)=true:=by rw[bne,d2];rfl
       have HR:=hid hr;clear hr
       go_wp2_with fail
       go_ret;exact⟨_,rfl,fun h=>absurd h HR.out,HB2.out.trans (HB5.out.mono HB2.out.size)⟩
      have d1:decide (r5=0)=true:=dTT hr;have d2:(r5 == 0)=true:=bT hr
      have d3:(r5 != 0)=false:=by rw[bne,d2];rfl
      clear hr
      by_cases h0:j=0
      ·have f2:decide ((j:Int) > 0)=false:=dF (by omega)
       have f3:decide (0<j)=false:=dF (by omega);have H0:=hid h0;clear h0
       go_wp2_with fail
       refine zss (fun v=>v.cell? ⟨w.heap.size,4,none⟩=some (.slice (some ⟨g,o,none⟩) ks.length ck)) (by kernel_rfl) (by kernel_rfl) (c4) ?_;refine cR1 ?_;refine zn ?_
       go_wp2_with fail
       go_roundw
       case rel=>exact⟨j+1,by omega,by go_num,hid (zdd HB5.out),hid fun i h hi=>by have:=H0.out;omega⟩
       case measure=>simp[intOf];omega
      ·have f2:decide ((j:Int) > 0)=true:=dTT (by omega)
       have f3:decide (0<j)=true:=dTT (by omega);obtain⟨m,hjm⟩:∃ m,j=m+1:=⟨j - 1,by omega⟩
       have hlt':m<ks.length:=by omega
       obtain⟨g1,o1,c1,e1,a1⟩:=HN5.out.at hlt
       cases e1
       obtain⟨g2,o2,c2,e2,a2⟩:=HN5.out.at hlt'
       cases e2
       have hm0:(0:Int)≤(m:Int):=by omega
       have hm1:(m:Int)<(ks.length:Int):=by omega
       have hke:(j:Int) - 1=(m:Int):=by omega
       have hkw:IntKind.i64.wrap (m:Int)=(m:Int):=by rw[IntKind.wrap_i64];omega
       clear h0;have HJM:=hid hjm
       cases hlt2:ltS ks[m] ks[j] with
       | true =>
        have l1:Op.bytesLess ks[m].toList ks[j].toList=true:=hlt2
        have A2:Hid (∀ i (h:i+1<ks.length),i+1<j+1→ltS (ks[i]'(by omega)) ks[i+1]=true):=hid fun i h hi=>by
         by_cases e:i=m
         ·subst e;subst hjm;exact hlt2
         ·exact A.out i h (by omega)
        clear hlt2 A hjm
        generalize ks[m]=p at *
        generalize ks[j]=q at *
        go_wp2_with fail
        refine zss (fun v=>v.cell? ⟨w.heap.size,4,none⟩=some (.slice (some ⟨g,o,none⟩) ks.length ck)∧v.cell? ⟨g,o+j,none⟩=some (.string q)∧v.cell? ⟨g,o+m,none⟩=some (.string p)) (by kernel_rfl) (by kernel_rfl) (⟨c4,a1,a2⟩) ?_;refine cR1 ?_;refine zn ?_;clear hke hkw
        go_wp2_with fail
        go_roundw
        case rel=>exact⟨j+1,by omega,by go_num,hid (zdd HB5.out),A2⟩
        case measure=>simp[intOf];omega
       | false =>
        have l1:Op.bytesLess ks[m].toList ks[j].toList=false:=hlt2;clear hlt2 hjm
        generalize ks[m]=p at *
        generalize ks[j]=q at *
        go_wp2_with fail
        refine zss (fun v=>v.cell? ⟨w.heap.size,4,none⟩=some (.slice (some ⟨g,o,none⟩) ks.length ck)∧v.cell? ⟨g,o+j,none⟩=some (.string q)∧v.cell? ⟨g,o+m,none⟩=some (.string p)) (by kernel_rfl) (by kernel_rfl) (⟨c4,a1,a2⟩) ?_;refine cR1 ?_;refine zn ?_;clear hke hkw
        go_wp2_with fail
        go_ret;exact⟨1,rfl,fun h=>by omega,HB2.out.trans ((zdd HB5.out).mono HB2.out.size)⟩
     ·have hA:Asc ks:=asc_adj ks fun i h=>A.out i h (by omega)
      have HA:=hid hA;clear hA
      go_wp2_with fail
      go_ret;exact⟨0,rfl,fun _=>⟨HS.out,HA.out⟩,HB2.out.trans (B.out.mono HB2.out.size)⟩
theorem szL_drop {l:List Vl}{j:Nat}(h:j<l.length):szL (l.drop j)=szV l[j]+szL (l.drop (j+1)):=by
 rw[List.drop_eq_getElem_cons h,szL]
def ChkPost (v:Vl) (b:Int) (w:World) (e:Ending) (w':World):Prop:=∃ r m:Int,e=.returned (.tuple #[.int .i64 r,.int .i64 m])∧(r=0→VOk v)∧b≤m∧m≤b+szV v∧Below w.heap.size w w'
def ChkOk (v:Vl):Prop:=∀ (P:Nat→Prop) (w:World) (x:Value) (lv b:Int),VV P w x v→szV v≤1000000000000→0≤lv→lv≤33→0≤b→b≤4000000000000→Calls Tryz.prog 61 #[x,.int .i64 lv,.int .i64 b] w (ChkPost v b w)
theorem vcheck_any (v:Vl):ChkOk v:=by
 induction v using Vl.ind with
 | h k n s is ks ih =>
  intro P w x lv b hx hsz hl0 hl1 hb0 hb1;obtain⟨vi,vk,rfl,hI,hK,hss⟩:=hx.out;obtain⟨oi,ci,rfl⟩:=hI.len;obtain⟨ok,ck,rfl⟩:=hK.len;have hli:=hI.le;have hlk:=hK.le
  have hsq:szV (.mk k n s is ks)=1+szL is:=by rw[szV]
  rw[hsq] at hsz;have HSQ:=hid hsq;obtain⟨hB,c0,c1,c2,c3,c4⟩:=box5 w (.int .i64 k) (.int .i64 n) (.string s) (.slice oi is.length ci) (.slice ok ks.length ck) 32;have HI:=hid (hI.bel hB);have HB:=hid hB;have HND:=hid (node_any P k n s oi ok is.length ci ck ks _ hli hss (hK.bel hB));have IH:=hid ih
  generalize hW:w.alloc (.cells #[.int .i64 k,.int .i64 n,.string s,.slice oi is.length ci,.slice ok ks.length ck] 32)=W at *
  have HW:=hid hW;have C3:=hid c3;clear hB hW hK hI hx ih hsq
  by_cases hdeep:32<lv
  ·have f1:decide (lv > 32)=true:=dTT hdeep
   have HSQ2:=HSQ
   go_enter Tryz.func61,Tryz.ntmps61
   go_wp2_with fail
   rw[HW.out]
   try simp only[Exit.inBlock,Exit.then]
   refine bodyPost_ret (results_tmp2 rfl _ _ _) rfl ?_;exact⟨4,b,rfl,fun h=>by omega,by omega,by rw[HSQ.out];omega,HB.out⟩
  have f1:decide (lv > 32)=false:=dF hdeep
  by_cases hbig:4096≤b
  ·have f2:decide (b ≥ 4096)=true:=dTT hbig
   go_enter Tryz.func61,Tryz.ntmps61
   go_wp2_with fail
   rw[HW.out]
   try simp only[Exit.inBlock,Exit.then]
   refine bodyPost_ret (results_tmp2 rfl _ _ _) rfl ?_;exact⟨14,b,rfl,fun h=>by omega,by omega,by rw[HSQ.out];omega,HB.out⟩
  have f2:decide (b ≥ 4096)=false:=dF hbig
  have hb4:b≤4095:=by omega
  clear hdeep hbig
  have hlv:lv≤32:=by have:=of_decide_eq_false f1;omega
  go_enter Tryz.func61,Tryz.ntmps61
  go_wp2_with fail
  rw[HW.out];refine HND.out.mono ?_;rintro e w2 ⟨r,rfl,hok,hb2⟩;have HB2:=hT HB hb2;have HI2:=hid (HI.out.bel hb2);have C3:=hid (zbb hb2 C3.out);have HOK:=hid hok;clear hb2 hok HND HB HI c0 c1 c2 c3 c4 HW
  by_cases hr:r=0
  case neg =>
   have d1:decide (r=0)=false:=dF hr;have d2:(r == 0)=false:=bF hr
   have d3:(r != 0)=true:=by rw[bne,d2];rfl
   have HR:=hid hr;clear hr
   go_wp2_with fail
   try simp only[Exit.inBlock,Exit.then]
   refine bodyPost_ret (results_tmp2 rfl _ _ _) rfl ?_;exact⟨r,b,rfl,fun h=>absurd h HR.out,by omega,by rw[HSQ.out];omega,HB2.out⟩
  have HN:=hid (HOK.out hr);have d1:decide (r=0)=true:=dTT hr;have d2:(r == 0)=true:=bT hr
  have d3:(r != 0)=false:=by rw[bne,d2];rfl
  clear hr HOK
  go_wp2_with fail
  clear d1 d2 d3
  go_loopw [9,10] (fun m i wr=>∃ (j:Nat) (mm:Int),j≤is.length∧i=.int .i64 j∧m=.int .i64 mm∧b+1≤mm∧mm+szL (is.drop j)≤b+1+szL is∧Hid (Below w2.heap.size w2 wr)∧Hid (∀ i (h:i<is.length),i<j→VOk is[i])) (fun _ i _=>is.length - (intOf i).toNat)
  case atStart=>exact⟨0,b+1,Nat.zero_le _,rfl,by go_num,by omega,by simp,hid (Below.refl _ _),hid fun i h hi=>absurd hi (by omega)⟩
  case round =>
   obtain⟨j,mm,hj,rfl,rfl,hm1,hm2,B,A⟩:=hrel;have c3:=zbb B.out C3.out
   by_cases hlt:j<is.length
   ·obtain⟨g,o,c,k1,n1,s1,oi1,mi1,ci1,ok1,mk1,ck1,e1,a1,a2,a3,a4,a5,hT,-⟩:=(HI2.out.bel B.out).at hlt
    cases e1
    rw[szL_drop hlt] at hm2;have HCALL:=hid (IH.out is[j] (lM hlt) P wr _ (lv+1) mm hT (by have:=szV_mem (lM hlt);omega) (by omega) (by omega) (by omega) (by omega))
    have hj0:(0:Int)≤(j:Int):=by omega
    have hj1:(j:Int)<(is.length:Int):=by omega
    generalize hz1:szV is[j]=z1 at *
    generalize hz2:szL (is.drop (j+1))=z2 at *
    have HZ2:=hid hz2;have HZ1:=hid hz1;clear hz1 hz2 hT
    go_wp2_with fail
    refine HCALL.out.mono ?_;rintro e w4 ⟨r4,m4,rfl,hok4,hm3,hm4,hb4⟩;rw[HZ1.out] at hm4;have HB4:=hT B hb4;have HOK4:=hid hok4;clear hb4 hok4 HCALL B a1 a2 a3 a4 a5 c3
    by_cases hr:r4=0
    case neg =>
     have d1:decide (r4=0)=false:=dF hr;have d2:(r4 == 0)=false:=bF hr
     have d3:(r4 != 0)=true:=by rw[bne,d2];rfl
     have HR:=hid hr;clear hr
     go_wp2_with fail
     try simp only[Exit.inBlock,Exit.then]
     refine bodyPost_ret (results_tmp2 rfl _ _ _) rfl ?_;exact⟨r4,m4,rfl,fun h=>absurd h HR.out,by omega,by rw[HSQ.out];omega,HB2.out.trans (HB4.out.mono HB2.out.size)⟩
    have HN4:=hid (HOK4.out hr);have d1:decide (r4=0)=true:=dTT hr;have d2:(r4 == 0)=true:=bT hr
    have d3:(r4 != 0)=false:=by rw[bne,d2];rfl
    clear hr HOK4
    have A2:Hid (∀ i (h:i<is.length),i<j+1→VOk is[i]):=hid fun i h hi=>by
     by_cases e:i=j
     ·subst e;exact HN4.out
     ·exact A.out i h (by omega)
    clear A HN4
    go_wp2_with fail
    go_roundw
    case rel=>exact⟨j+1,m4,by omega,by go_num,rfl,by omega,by rw[HZ2.out];omega,HB4,A2⟩
    case measure=>simp[intOf];omega
   ·have hok:VOk (.mk k n s is ks):=.mk k n s is ks HN.out.1.1 (fun h=>HN.out.1.2.2.1 h) (fun h=>List.length_eq_zero_iff.1 (HN.out.1.2.2.2.1 h)) (fun h4 h5=>List.length_eq_zero_iff.1 (HN.out.1.2.1 h4 h5)) (fun h=>HN.out.1.2.2.2.2 h) HN.out.2 fun e he=>by
     obtain⟨i,hi,rfl⟩:=List.getElem_of_mem he;exact A.out i hi (by omega)
    have HOK:=hid hok;clear hok A
    go_wp2_with fail
    try simp only[Exit.inBlock,Exit.then]
    refine bodyPost_ret (results_tmp2 rfl _ _ _) rfl ?_;exact⟨0,mm,rfl,fun _=>HOK.out,by omega,by rw[HSQ.out];omega,HB2.out.trans (B.out.mono HB2.out.size)⟩
def VPost (v:Vl) (w:World) (e:Ending) (w':World):Prop:=∃ r:Int,e=.returned (.int .i64 r)∧(r=0→VOk v)∧Below w.heap.size w w'
theorem ovcheck_any (P:Nat→Prop) (w:World) (x:Value) (v:Vl) (hx:VV P w x v) (hsz:szV v≤1000000000000):Calls Tryz.prog 24 #[x] w (VPost v w):=by
 obtain⟨k,n,s,is,ks⟩:=v;obtain⟨vi,vk,rfl,hI,hK,hss⟩:=hx.out;obtain⟨oi,ci,rfl⟩:=hI.len;obtain⟨ok,ck,rfl⟩:=hK.len;obtain⟨hB,c0,c1,c2,c3,c4⟩:=box5 w (.int .i64 k) (.int .i64 n) (.string s) (.slice oi is.length ci) (.slice ok ks.length ck) 32;have HB:=hid hB;have HC:=hid (vcheck_any _ P _ _ 1 0 (hx.bel hB) hsz (by decide) (by decide) (by decide) (by decide))
 generalize hW:w.alloc (.cells #[.int .i64 k,.int .i64 n,.string s,.slice oi is.length ci,.slice ok ks.length ck] 32)=W at *
 have HW:=hid hW;clear hB hW hK hI hx hss hsz
 go_enter Tryz.func24,Tryz.ntmps24
 go_wp2_with fail
 rw[HW.out];refine HC.out.mono ?_;rintro e w2 ⟨r,m,rfl,hok,-,-,hb2⟩;have HB2:=hT HB hb2;have HOK:=hid hok;clear hb2 hok
 go_wp2_with fail
 go_ret;exact⟨r,rfl,HOK.out,HB2.out⟩
def RKnownOk (t:Vl):Prop:=∀ (P:Nat→Prop) (w:World) (v:Value),VV P w v t→Calls Tryz.prog 16 #[v] w (Ret (.bool (knownV t)) w)
theorem rknown_any (t:Vl):RKnownOk t:=by
 induction t using Vl.ind with
 | h k nn s es ns ih =>
  intro P w v hv;obtain⟨ve,vn,rfl,hE,hN,hss⟩:=hv.out;obtain⟨oe,ce,rfl⟩:=hE.len;obtain⟨on,cn,rfl⟩:=hN.len;obtain⟨hB,c0,c3,c4,c1,c2⟩:=box5 w (.int .i64 k) (.int .i64 nn) (.string s) (.slice oe es.length ce) (.slice on ns.length cn) 32;have HB:=hid hB;have HC:=hid c1;have HE:=hid (hE.bel hB);have HI:=hid ih;have hle:=hE.le;have HQ:=hid (knownV_eq k nn s es ns);clear ih hE hN hv hB c1 c2 c3 c4 hss
  go_enter Tryz.func16,Tryz.ntmps16
  by_cases h6:k=6
  ·have HK:=hid (show knownV (.mk k nn s es ns)=false by rw[HQ.out,dF (by simpa using h6)];rfl)
   have d1:decide (k=6)=true:=dTT h6;have d2:(k == 6)=true:=bT h6;clear h6
   go_wp2_with fail
   go_ret;exact⟨by rw[HK.out];rfl,HB.out⟩
  have HK:=hid (show knownV (.mk k nn s es ns)=es.all knownV by rw[HQ.out,dTT (by simpa using h6),Bool.true_and]);have d1:decide (k=6)=false:=dF h6;have d2:(k == 6)=false:=bF h6;clear h6
  go_wp2_with fail
  generalize w.alloc (.cells #[.int .i64 k,.int .i64 nn,.string s,.slice oe es.length ce,.slice on ns.length cn] 32)=W at *
  go_loopw [3] (fun i wr=>∃ (j:Nat),j≤es.length∧i=.int .i64 j∧Hid (Below W.heap.size W wr)∧Hid (∀ i (h:i<es.length),i<j→knownV es[i]=true)) (fun i _=>es.length - (intOf i).toNat)
  case atStart=>exact⟨0,Nat.zero_le _,rfl,hid (Below.refl _ _),hid fun i _ hi=>absurd hi (Nat.not_lt_zero _)⟩
  case round =>
   clear c0;obtain⟨j,hj,rfl,B,A⟩:=hrel;have hc:=zbb B.out HC.out
   by_cases hlt:j<es.length
   ·obtain⟨g,o,c,k1,n1,s1,oi1,mi1,ci1,ok1,mk1,ck1,e1,a1,a2,a3,a4,a5,hT,-⟩:=(HE.out.bel B.out).at hlt
    cases e1
    have HCall:=hid (HI.out es[j] (lM hlt) P wr _ hT)
    have HST:Hid (knownV es[j]=true→∀ i (h:i<es.length),i<j+1→knownV es[i]=true):=hid fun hk i h hi=>by
     by_cases e:i=j
     ·subst e;exact hk
     ·exact A.out i h (by omega)
    have HNO:Hid (knownV es[j]=false→es.all knownV=false):=hid fun hk=>List.all_eq_false.2 ⟨_,lM hlt,by rw[hk];decide⟩
    have hj0:(0:Int)≤(j:Int):=by omega
    have hj1:(j:Int)<(es.length:Int):=by omega
    clear hT A
    cases hk:knownV es[j] with
    | false =>
     rw[hk] at HCall;have HF:=hid (HNO.out hk);clear hk HST HNO
     go_wp2_with fail
     refine HCall.out.mono ?_;rintro e w2 ⟨rfl,hb2⟩;have HB2:=hid (HB.out.trans ((B.out.trans (hb2.mono B.out.size)).mono HB.out.size));clear hb2
     go_wp2_with fail
     go_ret;exact⟨by rw[HK.out,HF.out];rfl,HB2.out⟩
    | true =>
     rw[hk] at HCall;have HS2:=hid (HST.out hk);clear hk HST HNO
     go_wp2_with fail
     refine HCall.out.mono ?_;rintro e w2 ⟨rfl,hb2⟩;have HB2:=hT B hb2;clear hb2
     go_wp2_with fail
     go_roundw
     case rel=>exact⟨j+1,by omega,by go_num,HB2,HS2⟩
     case measure=>simp[intOf];omega
   ·have HF:=hid (show knownV (.mk k nn s es ns)=true by
     rw[HK.out]
     exact List.all_eq_true.2 fun e he=>by
      obtain⟨i,hi,rfl⟩:=List.getElem_of_mem he
      exact A.out i hi (by omega))
    go_wp2_with fail
    go_ret;exact⟨by rw[HF.out];rfl,HB.out.trans (B.out.mono HB.out.size)⟩
end Go.Proofs.YtibiiafcnaijeaaGreat
