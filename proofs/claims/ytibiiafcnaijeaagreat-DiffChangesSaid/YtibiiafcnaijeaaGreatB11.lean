/- A part. -/
import Derived.Test.YtibiiafcnaijeaaGreatB00
import Derived.Test.YtibiiafcnaijeaaGreatB10
import Derived.Test.YtibiiafcnaijeaaGreatB07
import Derived.Test.YtibiiafcnaijeaaGreatB04
namespace Go.Proofs.YtibiiafcnaijeaaGreat
open Go Go.RowKit Go.Proofs.YtibiiafcnaijeaaGreat.Steady
set_option linter.unusedVariables false
set_option linter.unusedSimpArgs false
set_option maxRecDepth 100000
set_option maxHeartbeats 40000000
theorem sameT_any (P Q:Nat→Prop) (w:World) (u v:Value) (a b:List ByteArray) (hu:SV P w u a) (hv:SV Q w v b):Calls Tryz.prog 63 #[u,v] w (Ret (.bool (decide (a=b))) w):=by
 obtain⟨oa,ca,rfl⟩:=hu.len;obtain⟨ob,cb,rfl⟩:=hv.len;have hla:=hu.le;have hlb:=hv.le
 by_cases hne:a.length=b.length
 case neg =>
  have hd:decide (a=b)=false:=dF fun e=>hne (by rw[e])
  have hb1:decide ((a.length:Int)=(b.length:Int))=false:=dF (by omega)
  have hb2:((a.length:Int) != (b.length:Int))=true:=by rw[bne,bF (by omega)];rfl
  have hb3:((a.length:Int) == (b.length:Int))=false:=bF (by omega);have HD:=hid hd;clear hd hne hu hv
  go_enter Tryz.func63,Tryz.ntmps63
  go_wp2_with fail
  go_ret;exact⟨by rw[HD.out];rfl,Below.refl _ _⟩
 have HU:=hid hu;have HV:=hid hv;have HL:=hid hne
 have HLB:Hid (SV Q w (.slice ob a.length cb) b):=by rw[hne];exact hid hv
 rw[←hne];clear hu hv hne
 go_enter Tryz.func63,Tryz.ntmps63
 go_wp2_with fail
 go_loopw [5] (fun i wr=>∃ k:Nat,k≤a.length∧i=.int .i64 k∧Hid (Below w.heap.size w wr)∧Hid (∀ j (h1:j<a.length) (h2:j<b.length),j<k→a[j]=b[j])) (fun i _=>a.length - (intOf i).toNat)
 case atStart=>exact⟨0,Nat.zero_le _,rfl,hid (Below.refl _ _),hid fun j _ _ hj=>absurd hj (Nat.not_lt_zero _)⟩
 case round =>
  obtain⟨k,hk,rfl,B,A⟩:=hrel
  by_cases hlt:k<a.length
  ·have hltb:k<b.length:=by rw[←HL.out];exact hlt
   obtain⟨g1,o1,c1,e1,hc1⟩:=(HU.out.bel B.out).at hlt;obtain⟨g2,o2,c2,e2,hc2⟩:=(HLB.out.bel B.out).at hltb
   cases e1
   rw[←HL.out] at e2
   cases e2
   have hk0:(0:Int)≤(k:Int):=by omega
   have hk1:(k:Int)<(a.length:Int):=by omega
   have hno:=get_no hlt hltb;obtain⟨x,hx⟩:∃ x,a[k]=x:=⟨_,rfl⟩;obtain⟨y,hy⟩:∃ y,b[k]=y:=⟨_,rfl⟩;rw[hx] at hc1 hno;rw[hy] at hc2 hno;have Hno:=hid hno;have HX:=hid hx;have HY2:=hid hy;clear hno hx hy
   by_cases hxy:x=y
   ·subst hxy
    go_wp2_with fail
    refine zss (fun v=>v.cell? ⟨g1,o1+k,none⟩=some (.string x)∧v.cell? ⟨g2,o2+k,none⟩=some (.string x)) (by kernel_rfl) (by kernel_rfl) (⟨hc1,hc2⟩) ?_;refine cR1 ?_;refine zn ?_
    go_wp2_with fail
    go_roundw
    case rel =>
     refine⟨k+1,by omega,by go_num,hid (zdd B.out),hid fun j h1 h2 hj=>?_⟩
     by_cases e:j=k
     ·subst e;rw[HX.out,HY2.out]
     ·exact A.out j h1 h2 (by omega)
    case measure=>simp[intOf];omega
   ·obtain⟨hb1,hb2⟩:=str_ne hxy
    have hb3:=str_ne2 hxy;have HXY:=hid (Hno.out hxy);clear hxy
    go_wp2_with fail
    refine zss (fun v=>v.cell? ⟨g1,o1+k,none⟩=some (.string x)∧v.cell? ⟨g2,o2+k,none⟩=some (.string y)) (by kernel_rfl) (by kernel_rfl) (⟨hc1,hc2⟩) ?_;refine cR1 ?_;refine zn ?_
    go_wp2_with fail
    go_ret;exact⟨by rw[HXY.out];rfl,zdd B.out⟩
  ·have hY:=get_yes HL.out fun j h1 h2=>A.out j h1 h2 (by omega)
   have HY3:=hid hY;clear hY
   go_wp2_with fail
   go_ret;exact⟨by rw[HY3.out];rfl,B.out⟩
theorem allV_drop {f:Vl→Bool}{l:List Vl}{k:Nat}(h:k<l.length):(l.drop k).all f=(f l[k]&&(l.drop (k+1)).all f):=by
 rw[List.drop_eq_getElem_cons h,List.all_cons]
def RFitOk (v:Vl):Prop:=VOk v→∀ (t:Ty) (lv:Int) (P Q:Nat→Prop) (w:World) (x y:Value),checkT t lv=0→VV P w x v→TV Q w y t→Calls Tryz.prog 25 #[x,y] w (Ret (.bool (fitsT v t)) w)
theorem rall_any (P Q:Nat→Prop) (w:World) (u y:Value) (is:List Vl) (e:Ty) (lv:Int) (hu:WV P w u is) (hy:TV Q w y e) (hc:checkT e lv=0) (hf:∀ v∈is,VOk v∧RFitOk v) :
  Calls Tryz.prog 62 #[u,y] w (Ret (.bool (is.all fun v=>fitsT v e)) w):=by
 obtain⟨ou,cu,rfl⟩:=hu.len;have hlu:=hu.le;have HCK:=hid hc;have HF:=hid hf;obtain⟨k,es,ns⟩:=e;obtain⟨ve,vn,rfl,hE,hN⟩:=hy.out;obtain⟨oe,ce,rfl⟩:=hE.len;obtain⟨on,cn,rfl⟩:=hN.len;obtain⟨hB,c0,c1,c2,hz⟩:=box3 w (.int .i64 k) (.slice oe es.length ce) (.slice on ns.length cn) 61;have HB:=hid hB;have HU:=hid (hu.bel hB);have HY:=hid (hy.bel hB)
 generalize hW:w.alloc (.cells #[.int .i64 k,.slice oe es.length ce,.slice on ns.length cn] 61)=W at *
 have HW:=hid hW;have C0:=hid c0;have C1:=hid c1;have C2:=hid c2;clear hB hu hy hc hf hE hN hW hz c0 c1 c2
 go_enter Tryz.func62,Tryz.ntmps62
 go_wp2_with fail
 rw[HW.out]
 go_loopw [5] (fun i wr=>∃ j:Nat,j≤is.length∧i=.int .i64 j∧Hid (Below W.heap.size W wr)∧Hid ((is.drop j).all (fun v=>fitsT v (.mk k es ns))=is.all fun v=>fitsT v (.mk k es ns))) (fun i _=>is.length - (intOf i).toNat)
 case atStart=>exact⟨0,Nat.zero_le _,rfl,hid (Below.refl _ _),hid rfl⟩
 case round =>
  obtain⟨j,hj,rfl,B,A⟩:=hrel
  by_cases hlt:j<is.length
  ·obtain⟨g1,o1,c1,k1,n1,s1,oi1,mi1,ci1,ok1,mk1,ck1,e1,a1,a2,a3,a4,a5,hT1,-⟩:=(HU.out.bel B.out).at hlt
   cases e1
   have hj0:(0:Int)≤(j:Int):=by omega
   have hj1:(j:Int)<(is.length:Int):=by omega
   have q0:=zbb B.out C0.out;have q1:=zbb B.out C1.out;have q2:=zbb B.out C2.out;have hstep:=allV_drop (f:=fun v=>fitsT v (.mk k es ns)) hlt;rw[A.out] at hstep;have hfv:=HF.out is[j] (lM hlt);have HCall:=hid (hfv.2 hfv.1 (.mk k es ns) lv P Q wr.drew _ _ HCK.out (hT1.bel (zdd (Below.refl _ _))) ((HY.out.bel B.out).bel (zdd (Below.refl _ _))));clear hT1 A hfv
   cases hfe:fitsT is[j] (.mk k es ns) with
   | false =>
    rw[hfe] at hstep;rw[hfe] at HCall;have HS:=hid hstep;clear hfe hstep
    go_wp2_with fail
    refine zss (fun v=>v.cell? ⟨w.heap.size,0,none⟩=some (.int .i64 k)∧v.cell? ⟨w.heap.size,1,none⟩=some (.slice oe es.length ce)∧v.cell? ⟨w.heap.size,2,none⟩=some (.slice on ns.length cn)∧v.cell? ⟨g1,o1+j*5,none⟩=some (.int .i64 k1)∧v.cell? ⟨g1,o1+j*5+1,none⟩=some (.int .i64 n1)∧v.cell? ⟨g1,o1+j*5+2,none⟩=some (.string s1)∧v.cell? ⟨g1,o1+j*5+3,none⟩=some (.slice oi1 mi1 ci1)∧v.cell? ⟨g1,o1+j*5+4,none⟩=some (.slice ok1 mk1 ck1)) (by kernel_rfl) (by kernel_rfl) (⟨q0,q1,q2,a1,a2,a3,a4,a5⟩) ?_;refine cR1 ?_;refine qqL rfl (by rfl) (fun K hK=>?_)
    go_simp
    refine HCall.out.mono ?_;rintro e w4 ⟨rfl,hb4⟩;have HB4:=hid ((zdd B.out).trans (hb4.mono (zdd B.out).size));have r1:=zbb (W:=wr.drew) hb4 q0;have r2:=zbb (W:=wr.drew) hb4 q1;have r3:=zbb (W:=wr.drew) hb4 q2;have r4:=zbb (W:=wr.drew) hb4 a1;have r5:=zbb (W:=wr.drew) hb4 a2;have r6:=zbb (W:=wr.drew) hb4 a3;have r7:=zbb (W:=wr.drew) hb4 a4;have r8:=zbb (W:=wr.drew) hb4 a5;clear hb4;refine hK.out _ _ (⟨r1,r2,r3,r4,r5,r6,r7,r8⟩) ?_;clear hK K
    try simp only[pT]
    refine cR1 ?_;refine zn ?_
    go_wp2_with fail
    go_ret;exact⟨by rw[HS.out];rfl,HB.out.trans (HB4.out.mono HB.out.size)⟩
   | true =>
    rw[hfe,Bool.true_and] at hstep;rw[hfe] at HCall;have HS:=hid hstep;clear hfe hstep
    go_wp2_with fail
    refine zss (fun v=>v.cell? ⟨w.heap.size,0,none⟩=some (.int .i64 k)∧v.cell? ⟨w.heap.size,1,none⟩=some (.slice oe es.length ce)∧v.cell? ⟨w.heap.size,2,none⟩=some (.slice on ns.length cn)∧v.cell? ⟨g1,o1+j*5,none⟩=some (.int .i64 k1)∧v.cell? ⟨g1,o1+j*5+1,none⟩=some (.int .i64 n1)∧v.cell? ⟨g1,o1+j*5+2,none⟩=some (.string s1)∧v.cell? ⟨g1,o1+j*5+3,none⟩=some (.slice oi1 mi1 ci1)∧v.cell? ⟨g1,o1+j*5+4,none⟩=some (.slice ok1 mk1 ck1)) (by kernel_rfl) (by kernel_rfl) (⟨q0,q1,q2,a1,a2,a3,a4,a5⟩) ?_;refine cR1 ?_;refine qqL rfl (by rfl) (fun K hK=>?_)
    go_simp
    refine HCall.out.mono ?_;rintro e w4 ⟨rfl,hb4⟩;have HB4:=hid ((zdd B.out).trans (hb4.mono (zdd B.out).size));have r1:=zbb (W:=wr.drew) hb4 q0;have r2:=zbb (W:=wr.drew) hb4 q1;have r3:=zbb (W:=wr.drew) hb4 q2;have r4:=zbb (W:=wr.drew) hb4 a1;have r5:=zbb (W:=wr.drew) hb4 a2;have r6:=zbb (W:=wr.drew) hb4 a3;have r7:=zbb (W:=wr.drew) hb4 a4;have r8:=zbb (W:=wr.drew) hb4 a5;clear hb4;refine hK.out _ _ (⟨r1,r2,r3,r4,r5,r6,r7,r8⟩) ?_;clear hK K
    try simp only[pT]
    refine cR1 ?_;refine zn ?_
    go_wp2_with fail
    go_roundw
    case rel=>exact⟨j+1,by omega,by go_num,HB4,hid HS.out.symm⟩
    case measure=>simp[intOf];omega
  ·have HFin:=hid (show(is.all fun v=>fitsT v (.mk k es ns))=true by rw[←A.out,List.drop_eq_nil_of_le (by omega)];rfl)
   go_wp2_with fail
   go_ret;exact⟨by rw[HFin.out];rfl,HB.out.trans (B.out.mono HB.out.size)⟩
theorem rfits_any (v:Vl):RFitOk v:=by
 induction v using Vl.ind with
 | h k n s is ks ih =>
  intro hv t lv P Q w x y hck hx hy;obtain⟨kt,es,ns⟩:=t;obtain⟨hkk,hv5,hvn,hvi,-,hva,hve⟩:=hv.out;have HVI:=hid (fun e he=>And.intro (hve e he) (ih e he));obtain⟨-,hpb,-,-,hce⟩:=(checkT_zero ..).1 hck;have HPB:=hid hpb;have HCE:=hid hce;have HV5:=hid hv5;clear ih hv hv5 hvn hvi hva hve hpb hce hck;obtain⟨vi,vk,rfl,hI,hK,hss⟩:=hx.out;obtain⟨oi,ci,rfl⟩:=hI.len;obtain⟨ok,ck,rfl⟩:=hK.len;obtain⟨ve,vn,rfl,hE,hN⟩:=hy.out;obtain⟨oe,ce,rfl⟩:=hE.len;obtain⟨on,cn,rfl⟩:=hN.len;have hli:=hI.le;have hlk:=hK.le;have hle:=hE.le;have hln:=hN.le;obtain⟨hB1,a0,a1,a2,a3,a4⟩:=box5 w (.int .i64 k) (.int .i64 n) (.string s) (.slice oi is.length ci) (.slice ok ks.length ck) 32;obtain⟨hB2,b0,b1,b2,hz2⟩:=box3 (w.alloc (.cells #[.int .i64 k,.int .i64 n,.string s,.slice oi is.length ci,.slice ok ks.length ck] 32)) (.int .i64 kt) (.slice oe es.length ce) (.slice on ns.length cn) 61
  rw[show(w.alloc (.cells #[.int .i64 k,.int .i64 n,.string s,.slice oi is.length ci,.slice ok ks.length ck] 32)).heap.size=w.heap.size+1 by simp] at b0 b1 b2;have hBB:=hB1.trans (hB2.mono hB1.size);have HB:=hid hBB;have HI:=hid ((hI.bel hB1).bel hB2);have HK:=hid ((hK.bel hB1).bel hB2);have HE:=hid ((hE.bel hB1).bel hB2);have HN:=hid ((hN.bel hB1).bel hB2);have a0:=zbb hB2 a0;have a3:=zbb hB2 a3;have a4:=zbb hB2 a4
  generalize hW:(w.alloc (.cells #[.int .i64 k,.int .i64 n,.string s,.slice oi is.length ci,.slice ok ks.length ck] 32)).alloc (.cells #[.int .i64 kt,.slice oe es.length ce,.slice on ns.length cn] 61)=W at *
  have HW:=hid hW;clear hB1 hB2 hBB hW hx hy hI hK hE hN hss a1 a2 hz2
  by_cases hk0:k=0
  ·have dk0:decide (k=0)=true:=by exact dTT (by omega)
   have dk0b:(k == 0)=true:=by exact bT (by omega)
   have dk0n:(k != 0)=false:=by rw[bne,dk0b];rfl
   have HP:=hid (fitsT_0 (k:=k) (k':=kt) (.inl hk0) n s is ks es ns);clear hk0
   go_enter Tryz.func25,Tryz.ntmps25
   go_wp2_with fail
   go_ret;exact⟨by rw[HP.out];rfl,by rw[HW.out];exact HB.out⟩
  have dk0:decide (k=0)=false:=by exact dF (by omega)
  have dk0b:(k == 0)=false:=by exact bF (by omega)
  have dk0n:(k != 0)=true:=by rw[bne,dk0b];rfl
  by_cases hk6:k=6
  ·have dk6:decide (k=6)=true:=by exact dTT (by omega)
   have dk6b:(k == 6)=true:=by exact bT (by omega)
   have dk6n:(k != 6)=false:=by rw[bne,dk6b];rfl
   have HP:=hid (fitsT_0 (k:=k) (k':=kt) (.inr (.inl hk6)) n s is ks es ns);clear hk0 hk6
   go_enter Tryz.func25,Tryz.ntmps25
   go_wp2_with fail
   go_ret;exact⟨by rw[HP.out];rfl,by rw[HW.out];exact HB.out⟩
  have dk6:decide (k=6)=false:=by exact dF (by omega)
  have dk6b:(k == 6)=false:=by exact bF (by omega)
  have dk6n:(k != 6)=true:=by rw[bne,dk6b];rfl
  by_cases ht:kt=0
  ·have dt0:decide (kt=0)=true:=by exact dTT (by omega)
   have dt0b:(kt == 0)=true:=by exact bT (by omega)
   have dt0n:(kt != 0)=false:=by rw[bne,dt0b];rfl
   have HP:=hid (fitsT_0 (k:=k) (k':=kt) (.inr (.inr ht)) n s is ks es ns);clear hk0 hk6 ht
   go_enter Tryz.func25,Tryz.ntmps25
   go_wp2_with fail
   go_ret;exact⟨by rw[HP.out];rfl,by rw[HW.out];exact HB.out⟩
  have dt0:decide (kt=0)=false:=by exact dF (by omega)
  have dt0b:(kt == 0)=false:=by exact bF (by omega)
  have dt0n:(kt != 0)=true:=by rw[bne,dt0b];rfl
  have ht0:=ht;clear ht
  by_cases ht:kt=1
  ·have dt1:decide (kt=1)=true:=by exact dTT (by omega)
   have dt1b:(kt == 1)=true:=by exact bT (by omega)
   have dt1n:(kt != 1)=false:=by rw[bne,dt1b];rfl
   have HP:=hid (fitsT_1 (k:=k) (k':=kt) (by omega) (by omega) n s is ks es ns);subst ht
   by_cases hk:k=1
   ·have dk1:decide (k=1)=true:=by exact dTT (by omega)
    have dk1b:(k == 1)=true:=by exact bT (by omega)
    have dk1n:(k != 1)=false:=by rw[bne,dk1b];rfl
    have HD:=hid dk1;clear hk
    go_enter Tryz.func25,Tryz.ntmps25
    go_wp2_with fail
    go_ret;exact⟨by rw[HP.out,HD.out];rfl,by rw[HW.out];exact HB.out⟩
   ·have dk1:decide (k=1)=false:=by exact dF (by omega)
    have dk1b:(k == 1)=false:=by exact bF (by omega)
    have dk1n:(k != 1)=true:=by rw[bne,dk1b];rfl
    have HD:=hid dk1;clear hk
    go_enter Tryz.func25,Tryz.ntmps25
    go_wp2_with fail
    go_ret;exact⟨by rw[HP.out,HD.out];rfl,by rw[HW.out];exact HB.out⟩
  have dt1:decide (kt=1)=false:=by exact dF (by omega)
  have dt1b:(kt == 1)=false:=by exact bF (by omega)
  have dt1n:(kt != 1)=true:=by rw[bne,dt1b];rfl
  have ht1:=ht;clear ht
  by_cases ht:kt=2
  ·have dt2:decide (kt=2)=true:=by exact dTT (by omega)
   have dt2b:(kt == 2)=true:=by exact bT (by omega)
   have dt2n:(kt != 2)=false:=by rw[bne,dt2b];rfl
   have HP:=hid (fitsT_1 (k:=k) (k':=kt) (by omega) (by omega) n s is ks es ns);subst ht
   by_cases hk:k=2
   ·have dk2:decide (k=2)=true:=by exact dTT (by omega)
    have dk2b:(k == 2)=true:=by exact bT (by omega)
    have dk2n:(k != 2)=false:=by rw[bne,dk2b];rfl
    have HD:=hid dk2;clear hk
    go_enter Tryz.func25,Tryz.ntmps25
    go_wp2_with fail
    go_ret;exact⟨by rw[HP.out,HD.out];rfl,by rw[HW.out];exact HB.out⟩
   ·have dk2:decide (k=2)=false:=by exact dF (by omega)
    have dk2b:(k == 2)=false:=by exact bF (by omega)
    have dk2n:(k != 2)=true:=by rw[bne,dk2b];rfl
    have HD:=hid dk2;clear hk
    go_enter Tryz.func25,Tryz.ntmps25
    go_wp2_with fail
    go_ret;exact⟨by rw[HP.out,HD.out];rfl,by rw[HW.out];exact HB.out⟩
  have dt2:decide (kt=2)=false:=by exact dF (by omega)
  have dt2b:(kt == 2)=false:=by exact bF (by omega)
  have dt2n:(kt != 2)=true:=by rw[bne,dt2b];rfl
  have ht2:=ht;clear ht
  by_cases ht:kt=3
  ·have dt3:decide (kt=3)=true:=by exact dTT (by omega)
   have dt3b:(kt == 3)=true:=by exact bT (by omega)
   have dt3n:(kt != 3)=false:=by rw[bne,dt3b];rfl
   have HP:=hid (fitsT_1 (k:=k) (k':=kt) (by omega) (by omega) n s is ks es ns);subst ht
   by_cases hk:k=3
   ·have dk3:decide (k=3)=true:=by exact dTT (by omega)
    have dk3b:(k == 3)=true:=by exact bT (by omega)
    have dk3n:(k != 3)=false:=by rw[bne,dk3b];rfl
    have HD:=hid dk3;clear hk
    go_enter Tryz.func25,Tryz.ntmps25
    go_wp2_with fail
    go_ret;exact⟨by rw[HP.out,HD.out];rfl,by rw[HW.out];exact HB.out⟩
   ·have dk3:decide (k=3)=false:=by exact dF (by omega)
    have dk3b:(k == 3)=false:=by exact bF (by omega)
    have dk3n:(k != 3)=true:=by rw[bne,dk3b];rfl
    have HD:=hid dk3;clear hk
    go_enter Tryz.func25,Tryz.ntmps25
    go_wp2_with fail
    go_ret;exact⟨by rw[HP.out,HD.out];rfl,by rw[HW.out];exact HB.out⟩
  have dt3:decide (kt=3)=false:=by exact dF (by omega)
  have dt3b:(kt == 3)=false:=by exact bF (by omega)
  have dt3n:(kt != 3)=true:=by rw[bne,dt3b];rfl
  have ht3:=ht;clear ht
  by_cases ht:kt=4
  ·have dt4:decide (kt=4)=true:=by exact dTT (by omega)
   have dt4b:(kt == 4)=true:=by exact bT (by omega)
   have dt4n:(kt != 4)=false:=by rw[bne,dt4b];rfl
   obtain⟨e0,rfl⟩:∃ e0,es = [e0]:=by
    rcases partsB_true HPB.out with h|h|h
    ·exact len1 h.2.1
    ·omega
    ·omega
   have HP:=hid (fitsT_4 (k:=k) (k':=kt) (by omega) (by omega) n s is ks e0 [] ns);subst ht;obtain⟨g2,o2,c2,k2,oy2,my2,cy2,oz2,mz2,cz2,e2,y1,y2,y3,hT2⟩:=HE.out.at2 (k:=0) (by simp)
   cases e2
   simp only[Nat.zero_mul,Nat.add_zero,List.getElem_cons_zero] at y1 y2 y3 hT2;simp only[List.length_singleton] at b1 HW
   by_cases hk:k=4
   ·have dk4:decide (k=4)=true:=by exact dTT (by omega)
    have dk4b:(k == 4)=true:=by exact bT (by omega)
    have dk4n:(k != 4)=false:=by rw[bne,dk4b];rfl
    have HD:=hid dk4;have HEV:=hid (rall_any P Q W.drew _ _ is e0 _ (HI.out.bel (zdd (Below.refl _ _))) (hT2.bel (zdd (Below.refl _ _))) (HCE.out e0 (List.mem_cons_self ..)) HVI.out);clear hk hT2
    go_enter Tryz.func25,Tryz.ntmps25
    go_wp2_with fail
    rw[HW.out];refine zss (fun v=>v.cell? ⟨w.heap.size,0,none⟩=some (.int .i64 k)∧v.cell? ⟨w.heap.size,3,none⟩=some (.slice oi is.length ci)∧v.cell? ⟨w.heap.size+1,1,none⟩=some (.slice (some ⟨g2,o2,none⟩) 1 ce)∧v.cell? ⟨g2,o2,none⟩=some (.int .i64 k2)∧v.cell? ⟨g2,o2+1,none⟩=some (.slice oy2 my2 cy2)∧v.cell? ⟨g2,o2+2,none⟩=some (.slice oz2 mz2 cz2)) (by kernel_rfl) (by kernel_rfl) (⟨a0,a3,b1,y1,y2,y3⟩) ?_;refine cR1 ?_;refine qqL rfl (by rfl) (fun K hK=>?_)
    go_simp
    refine HEV.out.mono ?_;rintro e w2 ⟨rfl,hb2⟩;have HB2:=hid (HB.out.trans (((zdd (Below.refl W.heap.size W)).trans (hb2.mono (zdd (Below.refl W.heap.size W)).size)).mono HB.out.size));have r1:=zbb (W:=W.drew) hb2 a0;have r2:=zbb (W:=W.drew) hb2 a3;have r3:=zbb (W:=W.drew) hb2 b1;have r4:=zbb (W:=W.drew) hb2 y1;have r5:=zbb (W:=W.drew) hb2 y2;have r6:=zbb (W:=W.drew) hb2 y3;clear hb2;refine hK.out _ _ (⟨r1,r2,r3,r4,r5,r6⟩) ?_;clear hK K
    try simp only[pT]
    refine cR1 ?_;refine zn ?_
    go_wp2_with fail
    go_ret;exact⟨by rw[HP.out,HD.out];rfl,HB2.out⟩
   ·have dk4:decide (k=4)=false:=by exact dF (by omega)
    have dk4b:(k == 4)=false:=by exact bF (by omega)
    have dk4n:(k != 4)=true:=by rw[bne,dk4b];rfl
    have HD:=hid dk4;clear hk hT2
    go_enter Tryz.func25,Tryz.ntmps25
    go_wp2_with fail
    rw[HW.out];refine zss (fun v=>v.cell? ⟨w.heap.size,0,none⟩=some (.int .i64 k)) (by kernel_rfl) (by kernel_rfl) (a0) ?_;refine cR1 ?_;refine zn ?_
    go_wp2_with fail
    go_ret;exact⟨by rw[HP.out,HD.out];rfl,HB.out.trans ((zdd (Below.refl W.heap.size W)).mono HB.out.size)⟩
  have dt4:decide (kt=4)=false:=by exact dF (by omega)
  have dt4b:(kt == 4)=false:=by exact bF (by omega)
  have dt4n:(kt != 4)=true:=by rw[bne,dt4b];rfl
  have ht4:=ht;clear ht
  by_cases ht:kt=5
  ·have dt5:decide (kt=5)=true:=by exact dTT (by omega)
   have dt5b:(kt == 5)=true:=by exact bT (by omega)
   have dt5n:(kt != 5)=false:=by rw[bne,dt5b];rfl
   obtain⟨e0,rfl⟩:∃ e0,es = [e0]:=by
    rcases partsB_true HPB.out with h|h|h
    ·exact len1 h.2.1
    ·omega
    ·omega
   have HP:=hid (fitsT_4 (k:=k) (k':=kt) (by omega) (by omega) n s is ks e0 [] ns);subst ht;obtain⟨g2,o2,c2,k2,oy2,my2,cy2,oz2,mz2,cz2,e2,y1,y2,y3,hT2⟩:=HE.out.at2 (k:=0) (by simp)
   cases e2
   simp only[Nat.zero_mul,Nat.add_zero,List.getElem_cons_zero] at y1 y2 y3 hT2;simp only[List.length_singleton] at b1 HW
   by_cases hk:k=5
   ·have dk5:decide (k=5)=true:=by exact dTT (by omega)
    have dk5b:(k == 5)=true:=by exact bT (by omega)
    have dk5n:(k != 5)=false:=by rw[bne,dk5b];rfl
    have HD:=hid dk5;have HEV:=hid (rall_any P Q W.drew _ _ is e0 _ (HI.out.bel (zdd (Below.refl _ _))) (hT2.bel (zdd (Below.refl _ _))) (HCE.out e0 (List.mem_cons_self ..)) HVI.out);clear hk hT2
    go_enter Tryz.func25,Tryz.ntmps25
    go_wp2_with fail
    rw[HW.out];refine zss (fun v=>v.cell? ⟨w.heap.size,0,none⟩=some (.int .i64 k)∧v.cell? ⟨w.heap.size,3,none⟩=some (.slice oi is.length ci)∧v.cell? ⟨w.heap.size+1,1,none⟩=some (.slice (some ⟨g2,o2,none⟩) 1 ce)∧v.cell? ⟨g2,o2,none⟩=some (.int .i64 k2)∧v.cell? ⟨g2,o2+1,none⟩=some (.slice oy2 my2 cy2)∧v.cell? ⟨g2,o2+2,none⟩=some (.slice oz2 mz2 cz2)) (by kernel_rfl) (by kernel_rfl) (⟨a0,a3,b1,y1,y2,y3⟩) ?_;refine cR1 ?_;refine qqL rfl (by rfl) (fun K hK=>?_)
    go_simp
    refine HEV.out.mono ?_;rintro e w2 ⟨rfl,hb2⟩;have HB2:=hid (HB.out.trans (((zdd (Below.refl W.heap.size W)).trans (hb2.mono (zdd (Below.refl W.heap.size W)).size)).mono HB.out.size));have r1:=zbb (W:=W.drew) hb2 a0;have r2:=zbb (W:=W.drew) hb2 a3;have r3:=zbb (W:=W.drew) hb2 b1;have r4:=zbb (W:=W.drew) hb2 y1;have r5:=zbb (W:=W.drew) hb2 y2;have r6:=zbb (W:=W.drew) hb2 y3;clear hb2;refine hK.out _ _ (⟨r1,r2,r3,r4,r5,r6⟩) ?_;clear hK K
    try simp only[pT]
    refine cR1 ?_;refine zn ?_
    go_wp2_with fail
    go_ret;exact⟨by rw[HP.out,HD.out];rfl,HB2.out⟩
   ·have dk5:decide (k=5)=false:=by exact dF (by omega)
    have dk5b:(k == 5)=false:=by exact bF (by omega)
    have dk5n:(k != 5)=true:=by rw[bne,dk5b];rfl
    have HD:=hid dk5;clear hk hT2
    go_enter Tryz.func25,Tryz.ntmps25
    go_wp2_with fail
    rw[HW.out];refine zss (fun v=>v.cell? ⟨w.heap.size,0,none⟩=some (.int .i64 k)) (by kernel_rfl) (by kernel_rfl) (a0) ?_;refine cR1 ?_;refine zn ?_
    go_wp2_with fail
    go_ret;exact⟨by rw[HP.out,HD.out];rfl,HB.out.trans ((zdd (Below.refl W.heap.size W)).mono HB.out.size)⟩
  have dt5:decide (kt=5)=false:=by exact dF (by omega)
  have dt5b:(kt == 5)=false:=by exact bF (by omega)
  have dt5n:(kt != 5)=true:=by rw[bne,dt5b];rfl
  have hpl:es.length=ns.length:=by
   rcases partsB_true HPB.out with h|h|h
   ·omega
   ·exact h.2
   ·omega
  have HPL:=hid hpl;have HQ:=hid (fitsT_6 (k:=k) (k':=kt) (by omega) (by omega) (by omega) n s is ks es ns)
  by_cases hk:k=5
  case neg =>
   have dk5:decide (k=5)=false:=by exact dF (by omega)
   have dk5b:(k == 5)=false:=by exact bF (by omega)
   have dk5n:(k != 5)=true:=by rw[bne,dk5b];rfl
   have HP:=hid (show fitsT (.mk k n s is ks) (.mk kt es ns)=false by rw[HQ.out,dF hk];rfl);clear hk0 hk6 ht0 ht1 ht2 ht3 ht4 ht hk hpl
   go_enter Tryz.func25,Tryz.ntmps25
   go_wp2_with fail
   go_ret;exact⟨by rw[HP.out];rfl,by rw[HW.out];exact HB.out⟩
  have dk5:decide (k=5)=true:=by exact dTT (by omega)
  have dk5b:(k == 5)=true:=by exact bT (by omega)
  have dk5n:(k != 5)=false:=by rw[bne,dk5b];rfl
  have HKL:=hid (HV5.out hk);have HS:=hid (sameT_any P Q W _ _ ks ns HK.out HN.out);have HQ2:=hid (show fitsT (.mk k n s is ks) (.mk kt es ns)=(decide (ks=ns)&&fitsL is es) by rw[HQ.out,dTT hk];rfl);clear hk0 hk6 ht0 ht1 ht2 ht3 ht4 ht hk hpl
  cases hd:decide (ks=ns) with
  | false =>
   have HP:=hid (show fitsT (.mk k n s is ks) (.mk kt es ns)=false by rw[HQ2.out,hd];rfl);rw[hd] at HS;clear hd
   go_enter Tryz.func25,Tryz.ntmps25
   go_wp2_with fail
   rw[HW.out];refine HS.out.mono ?_;rintro e w2 ⟨rfl,hb2⟩;have HB2:=hT HB hb2;clear hb2
   go_wp2_with fail
   go_ret;exact⟨by rw[HP.out];rfl,HB2.out⟩
  | true =>
   have HP:=hid (show fitsT (.mk k n s is ks) (.mk kt es ns)=fitsL is es by rw[HQ2.out,hd];rfl)
   have hln2:is.length=es.length:=by
    have h1:=of_decide_eq_true hd;rw[h1] at HKL;have:=HKL.out;have:=HPL.out
    omega
   have HL:=hid hln2;rw[hd] at HS;clear hd HQ HQ2 hln2;have A0:=hid a0;have A3:=hid a3;have B1:=hid b1
   go_enter Tryz.func25,Tryz.ntmps25
   go_wp2_with fail
   rw[HW.out];refine HS.out.mono ?_;rintro e w2 ⟨rfl,hb2⟩;have HB2:=hT HB hb2;have HI2:=hid (HI.out.bel hb2);have HE2:=hid (HE.out.bel hb2);replace A3:=hid (zbb hb2 A3.out);replace B1:=hid (zbb hb2 B1.out);clear hb2 HI HE HK HN HB HS A0 a0 a3 a4 b0 b1 b2
   go_wp2_with fail
   go_loopw [5] (fun i wr=>∃ j:Nat,j≤is.length∧i=.int .i64 j∧Hid (Below w2.heap.size w2 wr)∧Hid (fitsL (is.drop j) (es.drop j)=fitsL is es)) (fun i _=>is.length - (intOf i).toNat)
   case atStart=>exact⟨0,Nat.zero_le _,rfl,hid (Below.refl _ _),hid rfl⟩
   case round =>
    obtain⟨j,hj,rfl,B,A⟩:=hrel;have q0:=zbb B.out A3.out
    by_cases hlt:j<is.length
    ·have hltb:j<es.length:=by rw[←HL.out];exact hlt
     obtain⟨g1,o1,c1,k1,n1,s1,oi1,mi1,ci1,ok1,mk1,ck1,e1,z1,z2,z3,z4,z5,hT1,-⟩:=(HI2.out.bel B.out).at hlt
     cases e1
     obtain⟨g2,o2,c2,k2,oy2,my2,cy2,oz2,mz2,cz2,e2,y1,y2,y3,hT2⟩:=(HE2.out.bel B.out).at2 hltb;have q1:=zbb B.out B1.out;rw[←HL.out] at e2 q1
     cases e2
     have hj0:(0:Int)≤(j:Int):=by omega
     have hj1:(j:Int)<(is.length:Int):=by omega
     have hstep:=fitsL_drop hlt hltb;rw[A.out] at hstep;have hvv:=HVI.out is[j] (lM hlt);have HCall:=hid (hvv.2 hvv.1 es[j] _ P Q wr.drew _ _ (HCE.out _ (lM hltb)) (hT1.bel (zdd (Below.refl _ _))) (hT2.bel (zdd (Below.refl _ _))));clear hT1 hT2 A hvv
     cases hfe:fitsT is[j] es[j] with
     | false =>
      rw[hfe,Bool.false_and] at hstep;rw[hfe] at HCall;have HS:=hid hstep;clear hfe hstep
      go_wp2_with fail
      refine zss (fun v=>v.cell? ⟨w.heap.size,3,none⟩=some (.slice (some ⟨g1,o1,none⟩) is.length ci)∧v.cell? ⟨w.heap.size+1,1,none⟩=some (.slice (some ⟨g2,o2,none⟩) is.length ce)∧v.cell? ⟨g1,o1+j*5,none⟩=some (.int .i64 k1)∧v.cell? ⟨g1,o1+j*5+1,none⟩=some (.int .i64 n1)∧v.cell? ⟨g1,o1+j*5+2,none⟩=some (.string s1)∧v.cell? ⟨g1,o1+j*5+3,none⟩=some (.slice oi1 mi1 ci1)∧v.cell? ⟨g1,o1+j*5+4,none⟩=some (.slice ok1 mk1 ck1)∧v.cell? ⟨g2,o2+j*3,none⟩=some (.int .i64 k2)∧v.cell? ⟨g2,o2+j*3+1,none⟩=some (.slice oy2 my2 cy2)∧v.cell? ⟨g2,o2+j*3+2,none⟩=some (.slice oz2 mz2 cz2)) (by kernel_rfl) (by kernel_rfl) (⟨q0,q1,z1,z2,z3,z4,z5,y1,y2,y3⟩) ?_;refine cR1 ?_;refine qqL rfl (by rfl) (fun K hK=>?_)
      go_simp
      refine HCall.out.mono ?_;rintro e w4 ⟨rfl,hb4⟩;have HB4:=hid ((zdd B.out).trans (hb4.mono (zdd B.out).size));have r0:=zbb (W:=wr.drew) hb4 q0;have r1:=zbb (W:=wr.drew) hb4 q1;have r2:=zbb (W:=wr.drew) hb4 z1;have r3:=zbb (W:=wr.drew) hb4 z2;have r4:=zbb (W:=wr.drew) hb4 z3;have r5:=zbb (W:=wr.drew) hb4 z4;have r6:=zbb (W:=wr.drew) hb4 z5;have r7:=zbb (W:=wr.drew) hb4 y1;have r8:=zbb (W:=wr.drew) hb4 y2;have r9:=zbb (W:=wr.drew) hb4 y3;clear hb4;refine hK.out _ _ (⟨r0,r1,r2,r3,r4,r5,r6,r7,r8,r9⟩) ?_;clear hK K
      try simp only[pT]
      refine cR1 ?_;refine zn ?_
      go_wp2_with fail
      go_ret;exact⟨by rw[HP.out,HS.out];rfl,HB2.out.trans (HB4.out.mono HB2.out.size)⟩
     | true =>
      rw[hfe,Bool.true_and] at hstep;rw[hfe] at HCall;have HS:=hid hstep;clear hfe hstep
      go_wp2_with fail
      refine zss (fun v=>v.cell? ⟨w.heap.size,3,none⟩=some (.slice (some ⟨g1,o1,none⟩) is.length ci)∧v.cell? ⟨w.heap.size+1,1,none⟩=some (.slice (some ⟨g2,o2,none⟩) is.length ce)∧v.cell? ⟨g1,o1+j*5,none⟩=some (.int .i64 k1)∧v.cell? ⟨g1,o1+j*5+1,none⟩=some (.int .i64 n1)∧v.cell? ⟨g1,o1+j*5+2,none⟩=some (.string s1)∧v.cell? ⟨g1,o1+j*5+3,none⟩=some (.slice oi1 mi1 ci1)∧v.cell? ⟨g1,o1+j*5+4,none⟩=some (.slice ok1 mk1 ck1)∧v.cell? ⟨g2,o2+j*3,none⟩=some (.int .i64 k2)∧v.cell? ⟨g2,o2+j*3+1,none⟩=some (.slice oy2 my2 cy2)∧v.cell? ⟨g2,o2+j*3+2,none⟩=some (.slice oz2 mz2 cz2)) (by kernel_rfl) (by kernel_rfl) (⟨q0,q1,z1,z2,z3,z4,z5,y1,y2,y3⟩) ?_;refine cR1 ?_;refine qqL rfl (by rfl) (fun K hK=>?_)
      go_simp
      refine HCall.out.mono ?_;rintro e w4 ⟨rfl,hb4⟩;have HB4:=hid ((zdd B.out).trans (hb4.mono (zdd B.out).size));have r0:=zbb (W:=wr.drew) hb4 q0;have r1:=zbb (W:=wr.drew) hb4 q1;have r2:=zbb (W:=wr.drew) hb4 z1;have r3:=zbb (W:=wr.drew) hb4 z2;have r4:=zbb (W:=wr.drew) hb4 z3;have r5:=zbb (W:=wr.drew) hb4 z4;have r6:=zbb (W:=wr.drew) hb4 z5;have r7:=zbb (W:=wr.drew) hb4 y1;have r8:=zbb (W:=wr.drew) hb4 y2;have r9:=zbb (W:=wr.drew) hb4 y3;clear hb4;refine hK.out _ _ (⟨r0,r1,r2,r3,r4,r5,r6,r7,r8,r9⟩) ?_;clear hK K
      try simp only[pT]
      refine cR1 ?_;refine zn ?_
      go_wp2_with fail
      go_roundw
      case rel=>exact⟨j+1,by omega,by go_num,HB4,hid HS.out.symm⟩
      case measure=>simp[intOf];omega
    ·have HFin:=hid (show fitsT (.mk k n s is ks) (.mk kt es ns)=true by
      rw[HP.out,←A.out,List.drop_eq_nil_of_le (by omega),List.drop_eq_nil_of_le (by have:=HL.out;omega),fitsL])
     go_wp2_with fail
     go_ret;exact⟨by rw[HFin.out];rfl,HB2.out.trans (B.out.mono HB2.out.size)⟩
end Go.Proofs.YtibiiafcnaijeaaGreat
