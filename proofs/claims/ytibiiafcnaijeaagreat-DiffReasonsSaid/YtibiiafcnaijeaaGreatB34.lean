/- Texts that stand alike under several statements, run together. -/
import Derived.Test.YtibiiafcnaijeaaGreatB00
import Derived.Test.YtibiiafcnaijeaaGreatB33
import Derived.Test.YtibiiafcnaijeaaGreatB01
import Derived.Test.YtibiiafcnaijeaaGreatB07
import Derived.Deep.DeepCutAuto
import Derived.Deep.CutBlock
namespace Go.Proofs.YtibiiafcnaijeaaGreat
open Go Go.RowKit Go.Proofs.YtibiiafcnaijeaaGreat.Steady
set_option linter.unusedVariables false
set_option linter.unusedSimpArgs false
set_option maxRecDepth 100000
set_option maxHeartbeats 40000000
theorem cto_any (t:Ty):ToOk t:=by
 induction t using Ty.ind with
 | h q es ns ih =>
  intro v P Q w x y hx hy hP hsv hst;obtain ⟨k,n,s,is,ks⟩:=v;obtain ⟨vi,vk,rfl,hI,hK,hss⟩:=hx.out;obtain ⟨oi,ci,rfl⟩:=hI.len;obtain ⟨ok,ck,rfl⟩:=hK.len;obtain ⟨ve,vn,rfl,hE,hN⟩:=hy.out;obtain ⟨oe,ce,rfl⟩:=hE.len;obtain ⟨on,cn,rfl⟩:=hN.len;have hli:=hI.le;have hlk:=hK.le;have hle:=hE.le;have hln:=hN.le;generalize hA:w.alloc (.cells #[.int .i64 k,.int .i64 n,.string s,.slice oi is.length ci,.slice ok ks.length ck] 32)=wa
  have hao:wa.heap[w.heap.size]? = some (.cells #[.int .i64 k,.int .i64 n,.string s,.slice oi is.length ci,.slice ok ks.length ck] 32):=by rw [← hA];exact zhh w _
  have has:wa.heap.size=w.heap.size + 1:=by rw [← hA];simp
  have hab:Below w.heap.size w wa:=by rw [← hA];exact (Below.refl _ _).alloc (nR _) _
  generalize hB:wa.alloc (.cells #[.int .i64 q,.slice oe es.length ce,.slice on ns.length cn] 61)=wb
  have hbo:wb.heap[w.heap.size + 1]? = some (.cells #[.int .i64 q,.slice oe es.length ce,.slice on ns.length cn] 61):=by rw [← hB,← has];exact zhh wa _
  have hbs:wb.heap.size=w.heap.size + 2:=by rw [← hB];simp [has]
  have hbb:Below wa.heap.size wa wb:=by rw [← hB];exact (Below.refl _ _).alloc (nR _) _
  generalize hC:wb.alloc zero5=wk
  have hco:wk.heap[w.heap.size + 2]? = some zero5:=by rw [← hC,← hbs];exact zhh wb _
  have hcs:wk.heap.size=w.heap.size + 3:=by rw [← hC];simp [hbs]
  have hcb:Below wb.heap.size wb wk:=by rw [← hC];exact (Below.refl _ _).alloc (nR _) _
  have HA0:=hid hA;have HB0:=hid hB;have HC0:=hid hC;have HB:=hid (hab.trans ((hbb.trans (hcb.mono hbb.size)).mono hab.size));have HS:=hid (And.intro hbs hcs);have HZ:=hid hco;have HXB:=hid (kO hbo hcb);have HXA:=hid (kO (kO hao hbb) hcb);have HV:=hid (hx.bel HB.out);have HY:=hid (hy.bel HB.out);have HI:=hid (hI.bel HB.out);have HK:=hid (hK.bel HB.out);have HE:=hid (hE.bel HB.out);have HN:=hid (hN.bel HB.out);have HPL:=hid hP;have HSZ:=hid (And.intro hsv hst)
  have HM:=hid (show 1≤szV (.mk k n s is ks)∧1≤sizeT (.mk q es ns)∧szV (.mk k n s is ks)≤szV (.mk k n s is ks) * sizeT (.mk q es ns)∧1≤szV (.mk k n s is ks) * sizeT (.mk q es ns) from
   ⟨szV_pos _,by rw [sizeT_eq];omega,Nat.le_mul_of_pos_right _ (by rw [sizeT_eq];omega),Nat.mul_pos (szV_pos _) (by rw [sizeT_eq];omega)⟩)
  clear hA hB hC hao has hab hbo hbs hbb hco hcs hcb hI hK hE hN hx hy hP hsv hst;obtain ⟨a0,a1,a2,a3,a4⟩:=C5.of HXA.out;have b0:=(cII HXB.out 0).trans rfl;have b1:=(cII HXB.out 1).trans rfl;have b2:=(cII HXB.out 2).trans rfl;have IH:=hid ih;clear ih
  by_cases q0:q=0
  ·obtain ⟨qaa,qab,qac⟩:=tT q0
   clear q0
   go_enter Tryz.func110,Tryz.ntmps110
   go_upto_region 1 with (fail)
   rw [HA0.out,HB0.out,HC0.out]
   go_wp2_with (refine zo rfl 32 _ _ rfl (w.heap.size + 2) 0 [_,_,_,_,_] rfl rfl _ _ (HZ.out) (by simp) (by kernel_rfl) rfl ?_;intro ws hzs hcs)
   try simp only [Exit.inBlock,Exit.then]
   refine bodyPost_ret (zrt rfl _ ws (w.heap.size + 2) 32 _ (0,0) _ rfl hzs Tryz.underlying32 rfl (by kernel_rfl)) rfl ?_;exact vres_mk _ HV.out (fun g hg=>.inl hg) (fun hg=>by have:=HPL.out _ hg;omega) HB.out (by omega) hcs HM.out.2.2.1
  obtain ⟨qaa,qab,qac⟩:=tF q0;clear q0
  by_cases k0:k=0
  ·obtain ⟨kaa,kab,kac⟩:=tT k0
   clear k0
   go_enter Tryz.func110,Tryz.ntmps110
   go_upto_region 1 with (fail)
   rw [HA0.out,HB0.out,HC0.out]
   go_wp2_with (refine zo rfl 32 _ _ rfl (w.heap.size + 2) 0 [_,_,_,_,_] rfl rfl _ _ (HZ.out) (by simp) (by kernel_rfl) rfl ?_;intro ws hzs hcs)
   try simp only [Exit.inBlock,Exit.then]
   refine bodyPost_ret (zrt rfl _ ws (w.heap.size + 2) 32 _ (0,0) _ rfl hzs Tryz.underlying32 rfl (by kernel_rfl)) rfl ?_;exact vres_mk _ HV.out (fun g hg=>.inl hg) (fun hg=>by have:=HPL.out _ hg;omega) HB.out (by omega) hcs HM.out.2.2.1
  obtain ⟨kaa,kab,kac⟩:=tF k0;clear k0
  by_cases k6:k=6
  ·obtain ⟨kga,kgb,kgc⟩:=tT k6
   clear k6
   go_enter Tryz.func110,Tryz.ntmps110
   go_upto_region 1 with (fail)
   rw [HA0.out,HB0.out,HC0.out]
   go_wp2_with (refine zo rfl 32 _ _ rfl (w.heap.size + 2) 0 [_,_,_,_,_] rfl rfl _ _ (HZ.out) (by simp) (by kernel_rfl) rfl ?_;intro ws hzs hcs)
   try simp only [Exit.inBlock,Exit.then]
   refine bodyPost_ret (zrt rfl _ ws (w.heap.size + 2) 32 _ (0,0) _ rfl hzs Tryz.underlying32 rfl (by kernel_rfl)) rfl ?_;exact vres_mk _ HV.out (fun g hg=>.inl hg) (fun hg=>by have:=HPL.out _ hg;omega) HB.out (by omega) hcs HM.out.2.2.1
  obtain ⟨kga,kgb,kgc⟩:=tF k6;clear k6
  by_cases q6:q=6
  ·obtain ⟨qga,qgb,qgc⟩:=tT q6
   clear q6
   by_cases k5:k=5
   ·obtain ⟨kfa,kfb,kfc⟩:=tT k5
    clear k5;have HC:=hid (cobj_any es ns IH.out q _ P Q wk _ _ HV.out HY.out (fun g hg=>by have:=HPL.out g hg;have:=HS.out.2;omega) HSZ.out.1 HSZ.out.2)
    go_enter Tryz.func110,Tryz.ntmps110
    go_upto_region 1 with (fail)
    rw [HA0.out,HB0.out,HC0.out]
    go_wp2_with fail
    refine HC.out.mono ?_;rintro e w2 ⟨u,r,t2,rfl,hu,hsz,hb2⟩;obtain ⟨k2,n2,s2,oi2,mi2,ci2,ok2,mk2,ck2,rfl⟩:=hu.agg5;have HU:=hid hu;have HB2:=hid (HB.out.trans (hb2.mono HB.out.size));have HZ2:=hid (kO HZ.out hb2);have HSU:=hid hsz;clear hu hb2 hsz a0 a1 a2 a3 a4 b0 b1 b2
    go_wp2_with (refine zo rfl 32 _ _ rfl (w.heap.size + 2) 0 [_,_,_,_,_] rfl rfl _ _ (HZ2.out) (by simp) (by kernel_rfl) rfl ?_;intro ws hzs hcs)
    try simp only [Exit.inBlock,Exit.then]
    refine bodyPost_ret (zrt rfl _ ws (w.heap.size + 2) 32 _ (0,0) _ rfl hzs Tryz.underlying32 rfl (by kernel_rfl)) rfl ?_;exact vres_mk _ HU.out (fun g hg=>hg.imp id fun h=>by have:=HS.out.2;omega) (fun hg=>by rcases hg with h | h;(have:=HPL.out _ h;omega);(have:=HS.out.2;omega)) HB2.out (by omega) hcs (HSU.out)
   ·obtain ⟨kfa,kfb,kfc⟩:=tF k5
    clear k5
    go_enter Tryz.func110,Tryz.ntmps110
    go_upto_region 1 with (fail)
    rw [HA0.out,HB0.out,HC0.out]
    go_wp2_with (refine zo rfl 32 _ _ rfl (w.heap.size + 2) 0 [_,_,_,_,_] rfl rfl _ _ (HZ.out) (by simp) (by kernel_rfl) rfl ?_;intro ws hzs hcs)
    try simp only [Exit.inBlock,Exit.then]
    refine bodyPost_ret (zrt rfl _ ws (w.heap.size + 2) 32 _ (0,0) _ rfl hzs Tryz.underlying32 rfl (by kernel_rfl)) rfl ?_;exact vres_mk (Q:=fun _=>False) _ (VV.flat _ _ 0 0 ⟨#[]⟩ (by decide)) (fun g hg=>hg.elim) (fun hg=>hg) HB.out (by omega) hcs (by rw [szV_flat];have:=HM.out;omega)
  obtain ⟨qga,qgb,qgc⟩:=tF q6;clear q6
  by_cases q45:q=4∨q=5
  case neg =>
   obtain ⟨qea,qeb,qec⟩:decide (q=4)=false∧(q == 4)=false∧(q != 4)=true:=tF (fun h=>q45 (.inl h));obtain ⟨qfa,qfb,qfc⟩:decide (q=5)=false∧(q == 5)=false∧(q != 5)=true:=tF (fun h=>q45 (.inr h));clear q45;have HC:=hid (simple_any _ P wk _ HV.out (fun g hg=>by have:=HPL.out g hg;have:=HS.out.2;omega) q)
   go_enter Tryz.func110,Tryz.ntmps110
   go_upto_region 1 with (fail)
   rw [HA0.out,HB0.out,HC0.out]
   go_wp2_with fail
   refine HC.out.mono ?_;rintro e w2 ⟨u,r,t2,rfl,hu,hsz,hb2⟩;obtain ⟨k2,n2,s2,oi2,mi2,ci2,ok2,mk2,ck2,rfl⟩:=hu.agg5;have HU:=hid hu;have HB2:=hid (HB.out.trans (hb2.mono HB.out.size));have HZ2:=hid (kO HZ.out hb2);have HSU:=hid hsz;clear hu hb2 hsz a0 a1 a2 a3 a4 b0 b1 b2
   go_wp2_with (refine zo rfl 32 _ _ rfl (w.heap.size + 2) 0 [_,_,_,_,_] rfl rfl _ _ (HZ2.out) (by simp) (by kernel_rfl) rfl ?_;intro ws hzs hcs)
   try simp only [Exit.inBlock,Exit.then]
   refine bodyPost_ret (zrt rfl _ ws (w.heap.size + 2) 32 _ (0,0) _ rfl hzs Tryz.underlying32 rfl (by kernel_rfl)) rfl ?_;exact vres_mk _ HU.out (fun g hg=>hg.imp id fun h=>by have:=HS.out.2;omega) (fun hg=>by rcases hg with h | h;(have:=HPL.out _ h;omega);(have:=HS.out.2;omega)) HB2.out (by omega) hcs (by have:=HSU.out;have:=HM.out;omega)
  have HQ:=hid q45;clear q45
  go_enter Tryz.func110,Tryz.ntmps110
  go_upto_region 1 with (fail)
  rw [HA0.out,HB0.out,HC0.out]
  go_upto_region 7 with (fail)
  go_cut [43] (fun v wx=>v=.bool false∧wk=wx)
  case first =>
   rcases HQ.out with hq | hq
   ·obtain ⟨qea,qeb,qec⟩:=tT hq
    clear hq
    go_wp2_with fail
    go_meet;exact ⟨rfl,rfl⟩
   ·obtain ⟨qea,qeb,qec⟩:decide (q=4)=false∧(q == 4)=false∧(q != 4)=true:=tF (by omega)
    obtain ⟨qfa,qfb,qfc⟩:=tT hq;clear hq
    go_wp2_with fail
    go_meet;exact ⟨rfl,rfl⟩
  case rest =>
   obtain ⟨rfl,rfl⟩:=hcut
   go_upto_region 9 with (fail)
   go_cut [73] (fun v wx=>∃ b,v=.bool b∧Hid (b=false→es.length=1)∧wk=wx)
   case first =>
    rcases HQ.out with hq | hq
    ·obtain ⟨qea,qeb,qec⟩:=tT hq
     obtain ⟨qfa,qfb,qfc⟩:decide (q=5)=false∧(q == 5)=false∧(q != 5)=true:=tF (by omega);clear hq
     by_cases kk:k=4
     ·obtain ⟨kca,kcb,kcc⟩:=tT kk
      clear kk
      by_cases hl:es.length=1
      ·have HL:=hid hl
       obtain ⟨laa,lab,lac⟩:decide ((es.length:Int)=1)=true∧((es.length:Int) == 1)=true∧((es.length:Int) != 1)=false:=tT (by omega);clear hl
       go_wp2_with fail
       go_meet;exact ⟨_,rfl,hid fun _=>HL.out,rfl⟩
      ·obtain ⟨laa,lab,lac⟩:decide ((es.length:Int)=1)=false∧((es.length:Int) == 1)=false∧((es.length:Int) != 1)=true:=tF (by omega)
       clear hl
       go_wp2_with fail
       go_meet;exact ⟨_,rfl,hid nF,rfl⟩
     ·obtain ⟨kca,kcb,kcc⟩:=tF kk
      clear kk
      go_wp2_with fail
      go_meet;exact ⟨_,rfl,hid nF,rfl⟩
    ·obtain ⟨qea,qeb,qec⟩:decide (q=4)=false∧(q == 4)=false∧(q != 4)=true:=tF (by omega)
     obtain ⟨qfa,qfb,qfc⟩:=tT hq;clear hq
     by_cases kk:k=5
     ·obtain ⟨kca,kcb,kcc⟩:=tT kk
      clear kk
      by_cases hl:es.length=1
      ·have HL:=hid hl
       obtain ⟨laa,lab,lac⟩:decide ((es.length:Int)=1)=true∧((es.length:Int) == 1)=true∧((es.length:Int) != 1)=false:=tT (by omega);clear hl
       go_wp2_with fail
       go_meet;exact ⟨_,rfl,hid fun _=>HL.out,rfl⟩
      ·obtain ⟨laa,lab,lac⟩:decide ((es.length:Int)=1)=false∧((es.length:Int) == 1)=false∧((es.length:Int) != 1)=true:=tF (by omega)
       clear hl
       go_wp2_with fail
       go_meet;exact ⟨_,rfl,hid nF,rfl⟩
     ·obtain ⟨kca,kcb,kcc⟩:=tF kk
      clear kk
      go_wp2_with fail
      go_meet;exact ⟨_,rfl,hid nF,rfl⟩
   case rest =>
    obtain ⟨b,rfl,HL1,rfl⟩:=hcut
    cases b with
    | true =>
     go_wp2_with (refine zo rfl 32 _ _ rfl (w.heap.size + 2) 0 [_,_,_,_,_] rfl rfl _ _ (HZ.out) (by simp) (by kernel_rfl) rfl ?_;intro ws hzs hcs)
     try simp only [Exit.inBlock,Exit.then]
     refine bodyPost_ret (zrt rfl _ ws (w.heap.size + 2) 32 _ (0,0) _ rfl hzs Tryz.underlying32 rfl (by kernel_rfl)) rfl ?_;exact vres_mk (Q:=fun _=>False) _ (VV.flat _ _ 0 0 ⟨#[]⟩ (by decide)) (fun g hg=>hg.elim) (fun hg=>hg) HB.out (by omega) hcs (by rw [szV_flat];have:=HM.out;omega)
    | false =>
     have HL:=hid (show 0 < es.length by have:=HL1.out rfl;omega);clear HL1 HQ;have hdo:=zhh wk (.cells #[.int .i64 k,.int .i64 0,.string ⟨#[]⟩,.slice none 0 0,.slice ok ks.length ck] 32);have hdb:Below wk.heap.size wk (wk.alloc (.cells #[.int .i64 k,.int .i64 0,.string ⟨#[]⟩,.slice none 0 0,.slice ok ks.length ck] 32)):=(Below.refl _ _).alloc (nR _) _
     have hds:(wk.alloc (.cells #[.int .i64 k,.int .i64 0,.string ⟨#[]⟩,.slice none 0 0,.slice ok ks.length ck] 32)).heap.size=w.heap.size + 4:=by have:=HS.out.2;simp [this]
     rw [HS.out.2] at hdo
     generalize hD:wk.alloc (.cells #[.int .i64 k,.int .i64 0,.string ⟨#[]⟩,.slice none 0 0,.slice ok ks.length ck] 32)=wd at *
     have HD0:=hid hD;have HBD:=hid (HB.out.trans (hdb.mono HB.out.size));have HDB:=hid hdb;have HZD:=hid (kO HZ.out hdb);have HAD:=hid (kO HXA.out hdb);have HYD:=hid (kO HXB.out hdb);have HT:Hid (VI P (w.heap.size + 3) (w.heap.size + 3) wd wd k (.slice none 0 0) (.slice ok ks.length ck) []):=hid ⟨by omega,Below.refl _ _,nR _,hdo,OwnW.nil _ _ _ _,fun e=>by cases e⟩;have HDS:=hid hds;clear hdo hdb hds hD
     go_upto_region 12 with (fail)
     rw [HD0.out,HS.out.2];clear a0 a1 a2 a3 a4 b0 b1 b2
     go_wp2_with fail
     go_loopw [7] (fun iv wr=>∃ (j:Nat) (oi':Option Addr) (mi' ci':Nat) (acc:List Vl),j≤is.length∧iv=.int .i64 j∧Hid (VI P (w.heap.size + 3) (w.heap.size + 3) wd wr k (.slice oi' mi' ci') (.slice ok ks.length ck) acc)∧Hid (acc.length=j∧szL acc + szL (is.drop j) * sizeL es≤szL is * sizeL es)) (fun iv _=>is.length - (intOf iv).toNat)
     case atStart=>exact ⟨0,_,_,_,[],Nat.zero_le _,rfl,HT,hid ⟨rfl,by rw [szL,List.drop_zero];omega⟩⟩
     case round =>
      clear HT;obtain ⟨j,oi',mi',ci',acc,hj,rfl,U,HAC⟩:=hrel;have HBR:=hid (HBD.out.trans (U.out.bel.mono (by omega)));have hxa:wr.heap[w.heap.size]? = _:=(U.out.bel.block _ (by omega)).trans HAD.out;have hxb:wr.heap[w.heap.size + 1]? = _:=(U.out.bel.block _ (by omega)).trans HYD.out;have hxz:wr.heap[w.heap.size + 2]? = _:=(U.out.bel.block _ (by omega)).trans HZD.out;have hWK:w.heap.size + 4≤wr.heap.size:=U.out.lt;have HWK:=hid hWK;obtain ⟨a0,a1,a2,a3,a4⟩:=C5.of hxa;have HXZ:=hid hxz
      by_cases hlt:j < is.length
      ·have hj0:(0:Int)≤(j:Int):=by omega
       have hj1:(j:Int) < (is.length:Int):=by omega
       have h01:(0:Int) < (es.length:Int):=by have:=HL.out;omega
       have h02:0 < es.length:=HL.out
       have h03:es≠[]:=fun e=>by have:=HL.out;rw [e] at this;cases this
       obtain ⟨g,o,c,k1,n1,s1,oi1,mi1,ci1,ok1,mk1,ck1,e1,p0,p1,p2,p3,p4,hV1,-⟩:=HI.out.at hlt
       cases e1
       obtain ⟨g2,o2,c2,k2,oe2,me2,ce2,on2,mn2,cn2,e2,r0,r1,r2,hT2⟩:=HE.out.at2 (k:=0) HL.out
       cases e2
       rw [Nat.zero_mul,Nat.add_zero] at r0 r1 r2;have HEM:=hid (show es[0]'(HL.out)∈es from lM _);have HSE:=hid (show sizeT (es[0]'(HL.out))≤sizeL es from sizeT_mem HEM.out);have HSI:=hid (szL_drop hlt);have hszj:=szV_mem (lM hlt);have HTD:=hid (hT2.bel (HDB.out.trans (U.out.bel.mono (by have:=HS.out.2;omega))));have HVD:=hid (hV1.bel (HDB.out.trans (U.out.bel.mono (by have:=HS.out.2;omega))));have HBK:=hid (show Below wk.heap.size wk wr from HDB.out.trans (U.out.bel.mono (by have:=HS.out.2;omega)));replace p0:=zbb HBK.out p0;replace p1:=zbb HBK.out p1;replace p2:=zbb HBK.out p2;replace p3:=zbb HBK.out p3;replace p4:=zbb HBK.out p4;replace r0:=zbb HBK.out r0;replace r1:=zbb HBK.out r1;replace r2:=zbb HBK.out r2;have hsz:=HSZ.out;rw [szV,sizeT_eq] at hsz;have HC1:=hid (IH.out _ HEM.out is[j] P Q wr.drew _ _ (HVD.out.bel (zdd (Below.refl _ _))) (HTD.out.bel (zdd (Below.refl _ _))) (fun g hg=>by have:=HPL.out g hg;have:=hWK;show g < wr.heap.size;omega) (by omega) (by have:=HSE.out;omega))
       have HC2:=hid (IH.out _ HEM.out is[j] P Q (wr.drew.alloc zero5) _ _ (HVD.out.bel ((zdd (Below.refl _ _)).alloc (nR _) _)) (HTD.out.bel ((zdd (Below.refl _ _)).alloc (nR _) _)) (fun g hg=>by have:=HPL.out g hg;have:=hWK;show g < (wr.alloc zero5).heap.size;simp;omega) (by omega) (by have:=HSE.out;omega));have HJ:=hid (show szV is[j] * sizeT (es[0]'(HL.out))≤szV is[j] * sizeL es from Nat.mul_le_mul_left _ HSE.out);have y0:=(cII hxb 0).trans rfl;have y1:=(cII hxb 1).trans rfl;clear hV1 hT2 hszj hsz hxa hxb hxz a0 a1 a2 a4 y0;have hG1:g < wr.heap.size:=World.block_lt_of_cell? wr _ p0;have hG2:g2 < wr.heap.size:=World.block_lt_of_cell? wr _ r0
       go_upto_region 15 with (fail)
       obtain ⟨wp,rfl⟩:∃ v,v=wr:=⟨_,rfl⟩
       go_cut [8,9] (fun pv ev wx=>∃ (Y:Nat) (r k2 n2:Int) (s2:ByteArray) (oi2:Option Addr) (mi2 ci2:Nat) (ok2:Option Addr) (mk2 ck2:Nat) (t2:Vl),pv=.pointer (some ⟨Y,0,none⟩)∧ev=.int .i64 r∧Hid (Got P (szV is[j] * sizeT (es[0]'(HL.out))) wp wx Y (.int .i64 k2) (.int .i64 n2) (.string s2) (.slice oi2 mi2 ci2) (.slice ok2 mk2 ck2) t2))
       case first =>
        refine wp_region_free 13 9 9 (fun v=>v.cell? ⟨w.heap.size,3,none⟩=some (.slice (some ⟨g,o,none⟩) is.length ci)∧v.cell? ⟨g,o + j * 5,none⟩=some (.int .i64 k1)∧v.cell? ⟨g,o + j * 5 + 1,none⟩=some (.int .i64 n1)∧v.cell? ⟨g,o + j * 5 + 2,none⟩=some (.string s1)∧v.cell? ⟨g,o + j * 5 + 3,none⟩=some (.slice oi1 mi1 ci1)∧v.cell? ⟨g,o + j * 5 + 4,none⟩=some (.slice ok1 mk1 ck1)∧v.cell? ⟨w.heap.size + 1,1,none⟩=some (.slice (some ⟨g2,o2,none⟩) es.length ce)∧v.cell? ⟨g2,o2,none⟩=some (.int .i64 k2)∧v.cell? ⟨g2,o2 + 1,none⟩=some (.slice oe2 me2 ce2)∧v.cell? ⟨g2,o2 + 2,none⟩=some (.slice on2 mn2 cn2)) (by kernel_rfl) (by kernel_rfl) ⟨a3,p0,p1,p2,p3,p4,y1,r0,r1,r2⟩ ?_ ?_
        ·repeat (first
          | (refine wpSteady_skip (by rfl) ?_;try simp only [Act.put,sA,sZ,sS])
          | (refine wpSteady_calm (v:=?_) (by rfl) ?_ ?_;rotate_left;(focus (intro v hSv;(try dsimp only at hSv);go_simp;(try rw [if_neg (by omega)]);(try with_reducible rfl);done));try simp only [Act.put,sA,sZ,sS]))
         refine wpSteady_loud rfl (by rfl) (fun K hK=>?_)
         go_simp
         refine HC1.out.mono ?_;rintro e w5 ⟨u,r,t2,rfl,hu,hsz2,hb5⟩;obtain ⟨ka,na,sa,oia,mia,cia,oka,mka,cka,rfl⟩:=hu.agg5;replace a3:=zbb (W:=wp.drew) hb5 a3;replace p0:=zbb (W:=wp.drew) hb5 p0;replace p1:=zbb (W:=wp.drew) hb5 p1;replace p2:=zbb (W:=wp.drew) hb5 p2;replace p3:=zbb (W:=wp.drew) hb5 p3;replace p4:=zbb (W:=wp.drew) hb5 p4;replace y1:=zbb (W:=wp.drew) hb5 y1;replace r0:=zbb (W:=wp.drew) hb5 r0;replace r1:=zbb (W:=wp.drew) hb5 r1;replace r2:=zbb (W:=wp.drew) hb5 r2;have HG5:=hid (And.intro hu (And.intro hsz2 hb5));clear hu hsz2 hb5;refine hK.out _ _ (⟨a3,p0,p1,p2,p3,p4,y1,r0,r1,r2⟩) ?_;clear hK K
         try simp only [Act.put,sA,sZ,sS]
         repeat ((first
          | (refine wpSteady_skip (by rfl) ?_)
          | (refine wpSteady_calm (v:=?_) (by rfl) ?_ ?_;rotate_left;(focus (intro v hSv;(try dsimp only at hSv);go_simp;(try rw [if_neg (by omega)]);(try with_reducible rfl);done))));try simp only [Act.put,sA,sZ,sS])
         refine wpSteady_loud rfl (by rfl) (fun K hK=>?_)
         go_simp
         have ha:Below w5.heap.size w5 (w5.alloc zero5):=(Below.refl _ _).alloc (nR _) _;have ho:=zhh w5 zero5
         generalize w5.alloc zero5=w6 at *
         replace a3:=zbb (W:=w5) ha a3;replace p0:=zbb (W:=w5) ha p0;replace p1:=zbb (W:=w5) ha p1;replace p2:=zbb (W:=w5) ha p2;replace p3:=zbb (W:=w5) ha p3;replace p4:=zbb (W:=w5) ha p4;replace y1:=zbb (W:=w5) ha y1;replace r0:=zbb (W:=w5) ha r0;replace r1:=zbb (W:=w5) ha r1;replace r2:=zbb (W:=w5) ha r2;refine hK.out _ _ (⟨a3,p0,p1,p2,p3,p4,y1,r0,r1,r2⟩) ?_;clear hK K
         try simp only [Act.put,sA,sZ,sS]
         refine wpSteady_loud rfl (by rfl) (fun K hK=>?_);refine zq 32 _ _ rfl w5.heap.size 0 [_,_,_,_,_] rfl rfl _ _ ho (by simp) (by kernel_rfl) rfl ?_;intro w7 hz7 hc7;have hw5:wp.heap.size≤w5.heap.size:=HG5.out.2.2.size;replace a3:=zcc hc7 (fun e=>by omega) a3;replace p0:=zcc hc7 (fun e=>by omega) p0;replace p1:=zcc hc7 (fun e=>by omega) p1;replace p2:=zcc hc7 (fun e=>by omega) p2;replace p3:=zcc hc7 (fun e=>by omega) p3;replace p4:=zcc hc7 (fun e=>by omega) p4;replace y1:=zcc hc7 (fun e=>by omega) y1;replace r0:=zcc hc7 (fun e=>by omega) r0;replace r1:=zcc hc7 (fun e=>by omega) r1;replace r2:=zcc hc7 (fun e=>by omega) r2;refine hK.out _ _ ⟨a3,p0,p1,p2,p3,p4,y1,r0,r1,r2⟩ ?_;clear hK K
         try simp only [Act.put]
         repeat ((first
          | (refine wpSteady_skip (by rfl) ?_)
          | (refine wpSteady_calm (v:=?_) (by rfl) ?_ ?_;rotate_left;(focus (intro v hSv;(try dsimp only at hSv);go_simp;(try rw [if_neg (by omega)]);(try with_reducible rfl);done))));try simp only [Act.put,sA,sZ,sS])
         refine zn ?_
         go_wp2_with fail
         go_meet;exact ⟨_,_,_,_,_,_,_,_,_,_,_,_,rfl,rfl,hid (Got.one (wr:=wp) (fun g hg=>by have:=HPL.out g hg;have:=HWK.out;omega) (undrew HG5.out.2.2) HG5.out.1 HG5.out.2.1 ha hc7 hz7)⟩
        ·simp only [mv,List.take_succ_cons,List.take_zero,List.drop_succ_cons,List.drop_zero,List.cons_append,List.nil_append]
         repeat ((first
          | (refine wpSteady_skip (by rfl) ?_)
          | (refine wpSteady_calm (v:=?_) (by rfl) ?_ ?_;rotate_left;(focus (intro v hSv;(try dsimp only at hSv);go_simp;(try rw [if_neg (by omega)]);(try with_reducible rfl);done))));try simp only [Act.put,sA,sZ,sS])
         refine wpSteady_loud rfl (by rfl) (fun K hK=>?_)
         go_simp
         have ha:Below wp.drew.heap.size wp.drew (wp.drew.alloc zero5):=(Below.refl _ _).alloc (nR _) _;have ho:=zhh wp.drew zero5;replace a3:=zbb (W:=wp.drew) ha a3;replace p0:=zbb (W:=wp.drew) ha p0;replace p1:=zbb (W:=wp.drew) ha p1;replace p2:=zbb (W:=wp.drew) ha p2;replace p3:=zbb (W:=wp.drew) ha p3;replace p4:=zbb (W:=wp.drew) ha p4;replace y1:=zbb (W:=wp.drew) ha y1;replace r0:=zbb (W:=wp.drew) ha r0;replace r1:=zbb (W:=wp.drew) ha r1;replace r2:=zbb (W:=wp.drew) ha r2;refine hK.out _ _ (⟨a3,p0,p1,p2,p3,p4,y1,r0,r1,r2⟩) ?_;clear hK K
         try simp only [Act.put,sA,sZ,sS]
         refine wpSteady_loud rfl (by rfl) (fun K hK=>?_)
         go_simp
         refine HC2.out.mono ?_;rintro e w5 ⟨u,r,t2,rfl,hu,hsz2,hb5⟩;obtain ⟨ka,na,sa,oia,mia,cia,oka,mka,cka,rfl⟩:=hu.agg5;replace a3:=zbb (W:=wp.drew.alloc zero5) hb5 a3;replace p0:=zbb (W:=wp.drew.alloc zero5) hb5 p0;replace p1:=zbb (W:=wp.drew.alloc zero5) hb5 p1;replace p2:=zbb (W:=wp.drew.alloc zero5) hb5 p2;replace p3:=zbb (W:=wp.drew.alloc zero5) hb5 p3;replace p4:=zbb (W:=wp.drew.alloc zero5) hb5 p4;replace y1:=zbb (W:=wp.drew.alloc zero5) hb5 y1;replace r0:=zbb (W:=wp.drew.alloc zero5) hb5 r0;replace r1:=zbb (W:=wp.drew.alloc zero5) hb5 r1;replace r2:=zbb (W:=wp.drew.alloc zero5) hb5 r2;have HG5:=hid (And.intro hu (And.intro hsz2 hb5));have ho5:=kO ho hb5;clear hu hsz2 hb5;refine hK.out _ _ (⟨a3,p0,p1,p2,p3,p4,y1,r0,r1,r2⟩) ?_;clear hK K
         try simp only [Act.put,sA,sZ,sS]
         repeat ((first
          | (refine wpSteady_skip (by rfl) ?_)
          | (refine wpSteady_calm (v:=?_) (by rfl) ?_ ?_;rotate_left;(focus (intro v hSv;(try dsimp only at hSv);go_simp;(try rw [if_neg (by omega)]);(try with_reducible rfl);done))));try simp only [Act.put,sA,sZ,sS])
         refine wpSteady_loud rfl (by rfl) (fun K hK=>?_);refine zq 32 _ _ rfl wp.heap.size 0 [_,_,_,_,_] rfl rfl _ _ ho5 (by simp) (by kernel_rfl) rfl ?_;intro w7 hz7 hc7;have hw5:wp.heap.size≤wp.heap.size:=nR _;replace a3:=zcc hc7 (fun e=>by omega) a3;replace p0:=zcc hc7 (fun e=>by omega) p0;replace p1:=zcc hc7 (fun e=>by omega) p1;replace p2:=zcc hc7 (fun e=>by omega) p2;replace p3:=zcc hc7 (fun e=>by omega) p3;replace p4:=zcc hc7 (fun e=>by omega) p4;replace y1:=zcc hc7 (fun e=>by omega) y1;replace r0:=zcc hc7 (fun e=>by omega) r0;replace r1:=zcc hc7 (fun e=>by omega) r1;replace r2:=zcc hc7 (fun e=>by omega) r2;refine hK.out _ _ ⟨a3,p0,p1,p2,p3,p4,y1,r0,r1,r2⟩ ?_;clear hK K
         try simp only [Act.put]
         repeat ((first
          | (refine wpSteady_skip (by rfl) ?_)
          | (refine wpSteady_calm (v:=?_) (by rfl) ?_ ?_;rotate_left;(focus (intro v hSv;(try dsimp only at hSv);go_simp;(try rw [if_neg (by omega)]);(try with_reducible rfl);done))));try simp only [Act.put,sA,sZ,sS])
         refine zn ?_
         go_wp2_with fail
         go_meet;exact ⟨_,_,_,_,_,_,_,_,_,_,_,_,rfl,rfl,hid (Got.two (wr:=wp) (fun g hg=>by have:=HPL.out g hg;have:=HWK.out;omega) (undrew ha) (by simp) HG5.out.2.2 HG5.out.1 HG5.out.2.1 hc7 hz7)⟩
       case rest =>
        obtain ⟨Y,r,kb,nb,sb,oib,mib,cib,okb,mkb,ckb,tb,rfl,rfl,G⟩:=hcut;have U2:=hid (U.out.later G.out.bel);have HXZ2:=hid (kO HXZ.out G.out.bel);have HBX:=hid (HBR.out.trans (G.out.bel.mono HBR.out.size));have HWX:=hid G.out.bel.size;clear a3 p0 p1 p2 p3 p4 y1 r0 r1 r2 hWK hG1 hG2 HC1 HC2
        by_cases hr:r=0
        case neg =>
         obtain ⟨rra,rrb,rrc⟩:=tF hr;clear hr
         go_wp2_with (refine zo rfl 32 _ _ rfl (w.heap.size + 2) 0 [_,_,_,_,_] rfl rfl _ _ (HXZ2.out) (by simp) (by kernel_rfl) rfl ?_;intro ws hzs hcs)
         try simp only [Exit.inBlock,Exit.then]
         refine bodyPost_ret (zrt rfl _ ws (w.heap.size + 2) 32 _ (0,0) _ rfl hzs Tryz.underlying32 rfl (by kernel_rfl)) rfl ?_;exact vres_mk (Q:=fun _=>False) _ (VV.flat _ _ 0 0 ⟨#[]⟩ (by decide)) (fun g hg=>hg.elim) (fun hg=>hg) HBX.out (by omega) hcs (by rw [szV_flat];have:=HM.out;omega)
        obtain ⟨rra,rrb,rrc⟩:=tT hr;clear hr;obtain ⟨y0,y1,y2,y3,y4⟩:=C5.of G.out.obj;have o3:=(cII U2.out.obj 3).trans rfl;have HTK:=hid hlt;have HLA:=hid (show acc.length≤1000000 by have:=HAC.out.1;have h1:=HSZ.out.1;rw [szV] at h1;have:=szL_len is;omega)
        have HS9:Hid (∀ g,(P g∨(wp.heap.size≤g∧g≠Y))→(P g∨w.heap.size + 3≤g)∧g≠w.heap.size + 3∧(Value.slice oi' mi' ci').ownBlock≠some g):=hid fun g hg=>by
         rcases hg with h | h
         ·have:=HPL.out g h
          exact ⟨.inl h,by omega,fun e=>by have:=(U2.out.own.block e).1;omega⟩
         ·have:=HWK.out
          exact ⟨.inr (by omega),by omega,fun e=>by have:=(U.out.own.block e).2;omega⟩
        go_upto_region 14 with (first | (at_builtin;obtain ⟨rs,hm,hl2,he4⟩:=U2.out.own;refine app_tag (by rfl) (.tmp 105) (.tmp 107) 29 (by rfl) 32 (.agg #[.int .i64 0,.int .i64 0,.string ⟨#[]⟩,.slice none 0 0,.slice none 0 0]) 5 80 Tryz.underlying29 infoV (by rfl) (by decide) (by decide) _ _ _ hm.1 (by rfl) [.int .i64 kb,.int .i64 nb,.string sb,.slice oib mib cib,.slice okb mkb ckb] wc.heap.size (by rfl) (by rfl) (by rfl) (by simp [Value.oneCell']) (by have:=HLA.out;omega) ?_;intro v9 w9 hown9 hc9 hp9 hne9;obtain ⟨o8,n8,c8,rfl⟩:=zw hown9;have hX9:=(hc9.block _ U2.out.lt (fun e=>U2.out.eown e)).trans U2.out.obj;have HOW:=hid (U2.out.item (r:=(.int .i64 kb,.int .i64 nb,.string sb,.slice oib mib cib,.slice okb mkb ckb)) hm hl2 he4 hown9 G.out.vv HS9.out hp9 hc9);clear hm hl2 he4) | (refine z1s rfl 29 _ _ rfl (w.heap.size + 3) 3 _ rfl rfl _ _ hX9 (by simp) (by kernel_rfl) rfl ?_;intro w10 hz10 hc10))
        have U3:=hid (U2.out.pushI HOW.out hp9 hc9 hc10 hz10);clear hown9 hc9 hp9 hne9 hX9 hz10 hc10 o3 y0 y1 y2 y3 y4 HOW
        go_wp2_with fail
        go_roundw
        case rel =>
         refine ⟨j + 1,_,_,_,acc ++ [tb],by omega,by go_num,U3,hid ⟨by rw [List.length_append,HAC.out.1];rfl,?_⟩⟩;have h1:=HAC.out.2;have h2:=G.out.sz;have h3:=HJ.out;have h4:=HSI.out;rw [szL_app,szL,szL];rw [h4,Nat.add_mul] at h1
         omega
        case measure=>simp [intOf];omega
      ·have HFA:=hid (show szL acc≤szL is * sizeL es by have:=HAC.out.2;omega)
       have HRD:=hid (U.out.read (ks:=ks) (by have:=HAC.out.1;omega) ((HK.out.bel (HDB.out.trans (U.out.bel.mono (by have:=HS.out.2;omega)))).keep (ZK.refl _ _) fun g hg=>.inl hg));obtain ⟨o0,o1,o2,o3,o4⟩:=C5.of U.out.obj;clear hxb a0 a1 a2 a4
       go_wp2_with (refine zo rfl 32 _ _ rfl (w.heap.size + 2) 0 [_,_,_,_,_] rfl rfl _ _ (HXZ.out) (by simp) (by kernel_rfl) rfl ?_;intro ws hzs hcs)
       try simp only [Exit.inBlock,Exit.then]
       refine bodyPost_ret (zrt rfl _ ws (w.heap.size + 2) 32 _ (0,0) _ rfl hzs Tryz.underlying32 rfl (by kernel_rfl)) rfl ?_;refine vres_mk _ HRD.out (fun g hg=>hg.1.imp id fun h=>by omega) (fun hg=>by rcases hg.1 with h | h;(have:=HPL.out _ h;omega);omega) HBR.out (by omega) hcs ?_;have h1:=HFA.out;rw [szV,szV,sizeT_eq,Nat.add_mul,Nat.mul_add,Nat.mul_add]
       omega
end Go.Proofs.YtibiiafcnaijeaaGreat
