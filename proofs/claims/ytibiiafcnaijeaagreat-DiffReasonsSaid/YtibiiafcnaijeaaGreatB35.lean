/- Texts that stand alike under several statements, run together. -/
import Derived.Test.YtibiiafcnaijeaaGreatB00
import Derived.Test.YtibiiafcnaijeaaGreatB34
import Derived.Test.YtibiiafcnaijeaaGreatB01
import Derived.Test.YtibiiafcnaijeaaGreatB07
import Derived.Deep.DeepCutAuto
import Derived.Deep.CutBlock
import Derived.Test.YtibiiafcnaijeaaGreatB32
import Derived.Test.YtibiiafcnaijeaaGreatB15
import Derived.Test.YtibiiafcnaijeaaGreatB20
namespace Go.Proofs.YtibiiafcnaijeaaGreat
open Go Go.RowKit Go.Proofs.YtibiiafcnaijeaaGreat.Steady
set_option linter.unusedVariables false
set_option linter.unusedSimpArgs false
set_option maxRecDepth 100000
set_option maxHeartbeats 40000000
theorem cTo_any (t:Ty) (v:Vl) (P Q:Nat→Prop) (w:World) (x y:Value) (hx:VV P w x v) (hy:TV Q w y t) (hP:∀ g,P g→g < w.heap.size) (hsv:szV v≤1000) (hst:sizeT t≤1000) :
  Calls Tryz.prog 94 #[x,y] w (VRes P (szV v * sizeT t) w):=by
 have HT:Hid (∀ w',Below w.heap.size w w'→Calls Tryz.prog 110 #[x,y] w' (VRes P (szV v * sizeT t) w')):=hid fun w' hb=>cto_any t v P Q w' x y (hx.bel hb) (hy.bel hb) (fun g hg=>by have:=hP g hg;have:=hb.size;omega) (by omega) (by omega)
 have HML:=hid (show szV v * sizeT t≤1000 * 1000 from Nat.mul_le_mul hsv hst);obtain ⟨k,n,s,is,ks⟩:=v;obtain ⟨q,es,ns⟩:=t
 replace hsv:szV (.mk k n s is ks)≤1000000:=by omega
 replace hst:sizeT (.mk q es ns)≤1000000:=by omega
 obtain ⟨vi,vk,rfl,hI,hK,hss⟩:=hx.out;obtain ⟨oi,ci,rfl⟩:=hI.len;obtain ⟨ok,ck,rfl⟩:=hK.len;obtain ⟨ve,vn,rfl,hE,hN⟩:=hy.out;obtain ⟨oe,ce,rfl⟩:=hE.len;obtain ⟨on,cn,rfl⟩:=hN.len;have hli:=hI.le;have hlk:=hK.le;have hle:=hE.le;have hln:=hN.le;generalize hA:w.alloc (.cells #[.int .i64 k,.int .i64 n,.string s,.slice oi is.length ci,.slice ok ks.length ck] 32)=wa
 have hao:wa.heap[w.heap.size]? = some (.cells #[.int .i64 k,.int .i64 n,.string s,.slice oi is.length ci,.slice ok ks.length ck] 32):=by rw [← hA];exact zhh w _
 have has:wa.heap.size=w.heap.size + 1:=by rw [← hA];simp
 have hab:Below w.heap.size w wa:=by rw [← hA];exact (Below.refl _ _).alloc (nR _) _
 generalize hB:wa.alloc (.cells #[.int .i64 q,.slice oe es.length ce,.slice on ns.length cn] 61)=wb
 have hbo:wb.heap[w.heap.size + 1]? = some (.cells #[.int .i64 q,.slice oe es.length ce,.slice on ns.length cn] 61):=by rw [← hB,← has];exact zhh wa _
 have hbs:wb.heap.size=w.heap.size + 2:=by rw [← hB];simp [has]
 have hbb:Below wa.heap.size wa wb:=by rw [← hB];exact (Below.refl _ _).alloc (nR _) _
 generalize hC:wb.alloc zero5=wk
 have hco:wk.heap[w.heap.size + 2]? = some zero5:=by rw [← hC,← hbs];exact zhh wb _
 have hcs:wk.heap.size=w.heap.size + 3:=by rw [← hC];simp [hbs]
 have hcb:Below wb.heap.size wb wk:=by rw [← hC];exact (Below.refl _ _).alloc (nR _) _
 have HA0:=hid hA;have HB0:=hid hB;have HC0:=hid hC;have HB:=hid (hab.trans ((hbb.trans (hcb.mono hbb.size)).mono hab.size));have HS:=hid (And.intro hbs hcs);have HZ:=hid hco;have HXB:=hid (kO hbo hcb);have HXA:=hid (kO (kO hao hbb) hcb);have HV:=hid (hx.bel HB.out);have HY:=hid (hy.bel HB.out);have HI:=hid (hI.bel HB.out);have HK:=hid (hK.bel HB.out);have HE:=hid (hE.bel HB.out);have HN:=hid (hN.bel HB.out);have HPL:=hid hP;have HSZ:=hid (And.intro hsv hst)
 have HM:=hid (show 1≤szV (.mk k n s is ks)∧1≤sizeT (.mk q es ns)∧szV (.mk k n s is ks)≤szV (.mk k n s is ks) * sizeT (.mk q es ns)∧1≤szV (.mk k n s is ks) * sizeT (.mk q es ns) from
  ⟨szV_pos _,by rw [sizeT_eq];omega,Nat.le_mul_of_pos_right _ (by rw [sizeT_eq];omega),Nat.mul_pos (szV_pos _) (by rw [sizeT_eq];omega)⟩)
 clear hA hB hC hao has hab hbo hbs hbb hco hcs hcb hI hK hE hN hx hy hP hsv hst;obtain ⟨a0,a1,a2,a3,a4⟩:=C5.of HXA.out;have b0:=(cII HXB.out 0).trans rfl;have b1:=(cII HXB.out 1).trans rfl;have b2:=(cII HXB.out 2).trans rfl;clear HI HK HE HN HV HY
 go_enter Tryz.func94,Tryz.ntmps94
 go_upto_region 1 with (fail)
 rw [HA0.out,HB0.out,HC0.out]
 go_wp2_with fail
 refine (HT.out wk HB.out).mono ?_;rintro e w2 ⟨u,r,t2,rfl,hu,hsz,hb2⟩;obtain ⟨k2,n2,s2,oi2,mi2,ci2,ok2,mk2,ck2,rfl⟩:=hu.agg5;have hba:Below w2.heap.size w2 (w2.alloc (.cells #[.int .i64 k2,.int .i64 n2,.string s2,.slice oi2 mi2 ci2,.slice ok2 mk2 ck2] 32)):=(Below.refl _ _).alloc (nR _) _;have hoa:=zhh w2 (.cells #[.int .i64 k2,.int .i64 n2,.string s2,.slice oi2 mi2 ci2,.slice ok2 mk2 ck2] 32)
 generalize hA:w2.alloc (.cells #[.int .i64 k2,.int .i64 n2,.string s2,.slice oi2 mi2 ci2,.slice ok2 mk2 ck2] 32)=w3 at *
 have HA3:=hid hA;have HB2:=hid (HB.out.trans (hb2.mono HB.out.size));have HB3:=hid (HB2.out.trans (hba.mono HB2.out.size));have HZ3:=hid (kO (kO HZ.out hb2) hba);have HU3:=hid (hu.ex.bel hba);have HSU:=hid hsz;have HO3:=hid hoa;have HWS:=hid hb2.size;clear a0 a1 a2 a3 a4 b0 b1 b2 hu hsz hb2 hba hoa hA
 go_upto_region 2 with (fail)
 rw [HA3.out]
 by_cases hr:r=0
 case neg =>
  obtain ⟨rra,rrb,rrc⟩:=tF hr;clear hr
  go_wp2_with (refine zo rfl 32 _ _ rfl (w.heap.size + 2) 0 [_,_,_,_,_] rfl rfl _ _ (HZ3.out) (by simp) (by kernel_rfl) rfl ?_;intro ws hzs hcs)
  try simp only [Exit.inBlock,Exit.then]
  refine bodyPost_ret (zrt rfl _ ws (w.heap.size + 2) 32 _ (0,0) _ rfl hzs Tryz.underlying32 rfl (by kernel_rfl)) rfl ?_;exact vres_mk (Q:=fun _=>False) _ (VV.flat _ _ 0 0 ⟨#[]⟩ (by decide)) (fun g hg=>hg.elim) (fun hg=>hg) HB3.out (by omega) hcs (by rw [szV_flat];have:=HM.out;omega)
 obtain ⟨rra,rrb,rrc⟩:=tT hr;clear hr;obtain ⟨y0,y1,y2,y3,y4⟩:=C5.of HO3.out
 go_wp2_with fail
 refine (ovcheck_any _ w3 _ t2 HU3.out (by have:=HSU.out;have:=HML.out;omega)).mono ?_;rintro e w4 ⟨r4,rfl,-,hb4⟩;have HB4:=hid (HB3.out.trans (hb4.mono HB3.out.size));have HZ4:=hid (kO HZ3.out hb4);have HO4:=hid (kO HO3.out hb4);have HU4:=hid (HU3.out.bel hb4);clear y0 y1 y2 y3 y4 hb4
 by_cases hr:r4=0
 case neg =>
  obtain ⟨ssa,ssb,ssc⟩:=tF hr;clear hr
  go_wp2_with (refine zo rfl 32 _ _ rfl (w.heap.size + 2) 0 [_,_,_,_,_] rfl rfl _ _ (HZ4.out) (by simp) (by kernel_rfl) rfl ?_;intro ws hzs hcs)
  try simp only [Exit.inBlock,Exit.then]
  refine bodyPost_ret (zrt rfl _ ws (w.heap.size + 2) 32 _ (0,0) _ rfl hzs Tryz.underlying32 rfl (by kernel_rfl)) rfl ?_;exact vres_mk (Q:=fun _=>False) _ (VV.flat _ _ 0 0 ⟨#[]⟩ (by decide)) (fun g hg=>hg.elim) (fun hg=>hg) HB4.out (by omega) hcs (by rw [szV_flat];have:=HM.out;omega)
 obtain ⟨ssa,ssb,ssc⟩:=tT hr;clear hr;obtain ⟨y0,y1,y2,y3,y4⟩:=C5.of HO4.out
 go_wp2_with (refine zo rfl 32 _ _ rfl (w.heap.size + 2) 0 [_,_,_,_,_] rfl rfl _ _ (HZ4.out) (by simp) (by kernel_rfl) rfl ?_;intro ws hzs hcs)
 try simp only [Exit.inBlock,Exit.then]
 refine bodyPost_ret (zrt rfl _ ws (w.heap.size + 2) 32 _ (0,0) _ rfl hzs Tryz.underlying32 rfl (by kernel_rfl)) rfl ?_;exact vres_mk _ HU4.out (fun g hg=>hg.1.imp id fun h=>by have:=HS.out.2;omega) (fun hg=>by have:=HS.out.2;rcases hg.1 with h | h;(have:=HPL.out _ h;omega);omega) HB4.out (by omega) hcs HSU.out
theorem one_any (a:At) (v:Vl) (P Q:Nat→Prop) (w:World) (ua ux:Value) (who:ByteArray) (ha:ATV Q w ua a) (hx:VV P w ux v) (hP:∀ g,P g→g < w.heap.size) (hsv:szV v≤1000) (hst:sizeT a.ty≤1000) :
  Calls Tryz.prog 83 #[ua,ux,.string who] w (DRes P (szV v * sizeT a.ty) (fun _ _=>True) w):=by
 have HM:=hid (show 1≤szV v * sizeT a.ty from Nat.mul_pos (szV_pos _) (by cases a.ty;rw [sizeT_eq];omega));obtain ⟨kt,oe,me,ce,on,mn,cn,rfl,hT,hnm⟩:=ha;obtain ⟨k,n,s,oi,mi,ci,ok,mk,ck,rfl⟩:=hx.agg5
 have HT:Hid (∀ w',Below w.heap.size w w'→Calls Tryz.prog 94 #[.agg #[.int .i64 k,.int .i64 n,.string s,.slice oi mi ci,.slice ok mk ck],.agg #[.int .i64 kt,.slice oe me ce,.slice on mn cn]] w' (VRes P (szV v * sizeT a.ty) w')):=hid fun w' hb=>cTo_any a.ty v P Q w' _ _ (hx.bel hb) (hT.bel hb) (fun g hg=>by have:=hP g hg;have:=hb.size;omega) hsv hst
 obtain ⟨nm,ty,md,rp,sn,vl⟩:=a
 simp only at *
 generalize szV v * sizeT ty=mm at *
 generalize hA:w.alloc (.cells #[.string nm,.int .i64 kt,.slice oe me ce,.slice on mn cn,.int .i64 md,.bool rp,.bool sn,.bool vl] 64)=wa
 have hao:wa.heap[w.heap.size]? = some (.cells #[.string nm,.int .i64 kt,.slice oe me ce,.slice on mn cn,.int .i64 md,.bool rp,.bool sn,.bool vl] 64):=by rw [← hA];exact zhh w _
 have has:wa.heap.size=w.heap.size + 1:=by rw [← hA];simp
 have hab:Below w.heap.size w wa:=by rw [← hA];exact (Below.refl _ _).alloc (nR _) _
 generalize hB:wa.alloc (.cells #[.int .i64 k,.int .i64 n,.string s,.slice oi mi ci,.slice ok mk ck] 32)=wb
 have hbo:wb.heap[w.heap.size + 1]? = some (.cells #[.int .i64 k,.int .i64 n,.string s,.slice oi mi ci,.slice ok mk ck] 32):=by rw [← hB,← has];exact zhh wa _
 have hbs:wb.heap.size=w.heap.size + 2:=by rw [← hB];simp [has]
 have hbb:Below wa.heap.size wa wb:=by rw [← hB];exact (Below.refl _ _).alloc (nR _) _
 generalize hC:wb.alloc zero5=wc
 have hco:wc.heap[w.heap.size + 2]? = some zero5:=by rw [← hC,← hbs];exact zhh wb _
 have hcs:wc.heap.size=w.heap.size + 3:=by rw [← hC];simp [hbs]
 have hcb:Below wb.heap.size wb wc:=by rw [← hC];exact (Below.refl _ _).alloc (nR _) _
 generalize hD:wc.alloc zeroD=wd
 have hdo:wd.heap[w.heap.size + 3]? = some zeroD:=by rw [← hD,← hcs];exact zhh wc _
 have hds:wd.heap.size=w.heap.size + 4:=by rw [← hD];simp [hcs]
 have hdb:Below wc.heap.size wc wd:=by rw [← hD];exact (Below.refl _ _).alloc (nR _) _
 have HA0:=hid hA;have HB0:=hid hB;have HC0:=hid hC;have HD0:=hid hD;have HB:=hid (hab.trans ((hbb.trans ((hcb.trans (hdb.mono hcb.size)).mono hbb.size)).mono hab.size));have HS:=hid hds;have HY:=hid hdo;have HZ:=hid (kO hco hdb);have HXB:=hid (kO (kO hbo hcb) hdb);have HXA:=hid (kO (kO (kO hao hbb) hcb) hdb);have HPL:=hid hP;clear hA hB hC hD hao hbo hco hdo has hbs hcs hds hab hbb hcb hdb hx hT hP hsv hst;have a1:=(cII HXA.out 1).trans rfl;have a2:=(cII HXA.out 2).trans rfl;have a3:=(cII HXA.out 3).trans rfl;have a4:=(cII HXA.out 4).trans rfl;obtain ⟨b0,b1,b2,b3,b4⟩:=C5.of HXB.out
 go_enter Tryz.func83,Tryz.ntmps83
 go_upto_region 1 with (fail)
 rw [HA0.out,HB0.out,HC0.out,HD0.out]
 by_cases m1:md=1
 ·obtain ⟨maa,mab,mac⟩:=tT m1
  obtain ⟨mca,mcb,mcc⟩:decide (md=3)=false∧(md == 3)=false∧(md != 3)=true:=tF (by omega);clear m1
  by_cases k0:k=0
  ·obtain ⟨kaa,kab,kac⟩:=tT k0
   clear k0
   go_wp2_with fail
   refine (wrong_any _ _ _).mono ?_;rintro e w8 ⟨rfl,hb8⟩;have HB8:=hid ((HB.out).trans (hb8.mono (HB.out).size));have HZ8:=hid (kO (HZ.out) hb8);have HY8:=hid (kO (HY.out) hb8);clear hb8
   go_wp2_with (first | (refine zo rfl 32 _ _ rfl (w.heap.size + 2) 0 [_,_,_,_,_] rfl rfl _ _ (HZ8.out) (by simp) (by kernel_rfl) rfl ?_;intro ws hzs hcs) | (refine zo rfl 71 _ _ rfl (w.heap.size + 3) 0 [_,_,_] rfl rfl _ _ ((hcs.block _ (aS (HY8.out)).1 (by omega)).trans (HY8.out)) (by simp) (by kernel_rfl) rfl ?_;intro wt hzt hct))
   try simp only [Exit.inBlock,Exit.then]
   refine bodyPost_ret (zrc rfl _ wt (w.heap.size + 2) 32 _ (0,0) _ (w.heap.size + 3) 71 _ (0,0) _ rfl ((hct.block _ (aS hzs).1 (by omega)).trans hzs) Tryz.underlying32 rfl (by kernel_rfl) rfl hzt Tryz.underlying71 rfl (by kernel_rfl)) rfl ?_;exact dres_mk (Q:=fun _=>False) (VV.flat _ _ 0 0 ⟨#[]⟩ (by decide)) (fun g hg=>hg.elim) (fun g hg=>hg.elim) HB8.out (by omega) (by omega) hcs hct (by rw [szV_flat];exact HM.out) trivial
  ·obtain ⟨kaa,kab,kac⟩:=tF k0
   clear k0;have HC:=hid (HT.out wd HB.out)
   go_wp2_with fail
   refine HC.out.mono ?_;rintro e w2 ⟨u,r,t2,rfl,hu,hsz,hb2⟩;obtain ⟨k2,n2,s2,oi2,mi2,ci2,ok2,mk2,ck2,rfl⟩:=hu.agg5;have hba:Below w2.heap.size w2 (w2.alloc (.cells #[.int .i64 k2,.int .i64 n2,.string s2,.slice oi2 mi2 ci2,.slice ok2 mk2 ck2] 32)):=(Below.refl _ _).alloc (nR _) _;have hoa:=zhh w2 (.cells #[.int .i64 k2,.int .i64 n2,.string s2,.slice oi2 mi2 ci2,.slice ok2 mk2 ck2] 32)
   generalize hA:w2.alloc (.cells #[.int .i64 k2,.int .i64 n2,.string s2,.slice oi2 mi2 ci2,.slice ok2 mk2 ck2] 32)=w3 at *
   have HA3:=hid hA;have HB3:=hid (HB.out.trans ((hb2.trans (hba.mono hb2.size)).mono HB.out.size));have HZ3:=hid (kO (kO HZ.out hb2) hba);have HY3:=hid (kO (kO HY.out hb2) hba);have HU3:=hid (hu.bel hba);have HO3:=hid hoa;have HSU:=hid hsz;clear a1 a2 a3 a4 b0 b1 b2 b3 b4 hu hsz hb2 hba hoa hA HC
   go_upto_region 6 with (fail)
   rw [HA3.out]
   by_cases hr:r=0
   case neg =>
    obtain ⟨rra,rrb,rrc⟩:=tF hr;clear hr
    go_wp2_with fail
    refine (wrong_any _ _ _).mono ?_;rintro e w8 ⟨rfl,hb8⟩;have HB8:=hid ((HB3.out).trans (hb8.mono (HB3.out).size));have HZ8:=hid (kO (HZ3.out) hb8);have HY8:=hid (kO (HY3.out) hb8);clear hb8
    go_wp2_with (first | (refine zo rfl 32 _ _ rfl (w.heap.size + 2) 0 [_,_,_,_,_] rfl rfl _ _ (HZ8.out) (by simp) (by kernel_rfl) rfl ?_;intro ws hzs hcs) | (refine zo rfl 71 _ _ rfl (w.heap.size + 3) 0 [_,_,_] rfl rfl _ _ ((hcs.block _ (aS (HY8.out)).1 (by omega)).trans (HY8.out)) (by simp) (by kernel_rfl) rfl ?_;intro wt hzt hct))
    try simp only [Exit.inBlock,Exit.then]
    refine bodyPost_ret (zrc rfl _ wt (w.heap.size + 2) 32 _ (0,0) _ (w.heap.size + 3) 71 _ (0,0) _ rfl ((hct.block _ (aS hzs).1 (by omega)).trans hzs) Tryz.underlying32 rfl (by kernel_rfl) rfl hzt Tryz.underlying71 rfl (by kernel_rfl)) rfl ?_;exact dres_mk (Q:=fun _=>False) (VV.flat _ _ 0 0 ⟨#[]⟩ (by decide)) (fun g hg=>hg.elim) (fun g hg=>hg.elim) HB8.out (by omega) (by omega) hcs hct (by rw [szV_flat];exact HM.out) trivial
   obtain ⟨rra,rrb,rrc⟩:=tT hr;clear hr;obtain ⟨y0,y1,y2,y3,y4⟩:=C5.of HO3.out
   go_wp2_with (first | (refine zo rfl 32 _ _ rfl (w.heap.size + 2) 0 [_,_,_,_,_] rfl rfl _ _ (HZ3.out) (by simp) (by kernel_rfl) rfl ?_;intro ws hzs hcs) | (refine zo rfl 71 _ _ rfl (w.heap.size + 3) 0 [_,_,_] rfl rfl _ _ ((hcs.block _ (aS (HY3.out)).1 (by omega)).trans (HY3.out)) (by simp) (by kernel_rfl) rfl ?_;intro wt hzt hct))
   try simp only [Exit.inBlock,Exit.then]
   refine bodyPost_ret (zrc rfl _ wt (w.heap.size + 2) 32 _ (0,0) _ (w.heap.size + 3) 71 _ (0,0) _ rfl ((hct.block _ (aS hzs).1 (by omega)).trans hzs) Tryz.underlying32 rfl (by kernel_rfl) rfl hzt Tryz.underlying71 rfl (by kernel_rfl)) rfl ?_;exact dres_mk HU3.out (fun g hg=>hg.imp id fun h=>by have:=HS.out;omega) (fun g hg=>by have:=HS.out;rcases hg with h | h;(have:=HPL.out _ h;omega);omega) HB3.out (by omega) (by omega) hcs hct HSU.out trivial
 ·obtain ⟨maa,mab,mac⟩:=tF m1
  clear m1
  by_cases m3:md=3
  ·obtain ⟨mca,mcb,mcc⟩:=tT m3
   clear m3
   by_cases k0:k=0
   ·obtain ⟨kaa,kab,kac⟩:=tT k0
    clear k0;have HC:=hid (HT.out wd HB.out)
    go_wp2_with fail
    refine HC.out.mono ?_;rintro e w2 ⟨u,r,t2,rfl,hu,hsz,hb2⟩;obtain ⟨k2,n2,s2,oi2,mi2,ci2,ok2,mk2,ck2,rfl⟩:=hu.agg5;have hba:Below w2.heap.size w2 (w2.alloc (.cells #[.int .i64 k2,.int .i64 n2,.string s2,.slice oi2 mi2 ci2,.slice ok2 mk2 ck2] 32)):=(Below.refl _ _).alloc (nR _) _;have hoa:=zhh w2 (.cells #[.int .i64 k2,.int .i64 n2,.string s2,.slice oi2 mi2 ci2,.slice ok2 mk2 ck2] 32)
    generalize hA:w2.alloc (.cells #[.int .i64 k2,.int .i64 n2,.string s2,.slice oi2 mi2 ci2,.slice ok2 mk2 ck2] 32)=w3 at *
    have HA3:=hid hA;have HB3:=hid (HB.out.trans ((hb2.trans (hba.mono hb2.size)).mono HB.out.size));have HZ3:=hid (kO (kO HZ.out hb2) hba);have HY3:=hid (kO (kO HY.out hb2) hba);have HU3:=hid (hu.bel hba);have HO3:=hid hoa;have HSU:=hid hsz;clear a1 a2 a3 a4 b0 b1 b2 b3 b4 hu hsz hb2 hba hoa hA HC
    go_upto_region 6 with (fail)
    rw [HA3.out]
    by_cases hr:r=0
    case neg =>
     obtain ⟨rra,rrb,rrc⟩:=tF hr;clear hr
     go_wp2_with fail
     refine (wrong_any _ _ _).mono ?_;rintro e w8 ⟨rfl,hb8⟩;have HB8:=hid ((HB3.out).trans (hb8.mono (HB3.out).size));have HZ8:=hid (kO (HZ3.out) hb8);have HY8:=hid (kO (HY3.out) hb8);clear hb8
     go_wp2_with (first | (refine zo rfl 32 _ _ rfl (w.heap.size + 2) 0 [_,_,_,_,_] rfl rfl _ _ (HZ8.out) (by simp) (by kernel_rfl) rfl ?_;intro ws hzs hcs) | (refine zo rfl 71 _ _ rfl (w.heap.size + 3) 0 [_,_,_] rfl rfl _ _ ((hcs.block _ (aS (HY8.out)).1 (by omega)).trans (HY8.out)) (by simp) (by kernel_rfl) rfl ?_;intro wt hzt hct))
     try simp only [Exit.inBlock,Exit.then]
     refine bodyPost_ret (zrc rfl _ wt (w.heap.size + 2) 32 _ (0,0) _ (w.heap.size + 3) 71 _ (0,0) _ rfl ((hct.block _ (aS hzs).1 (by omega)).trans hzs) Tryz.underlying32 rfl (by kernel_rfl) rfl hzt Tryz.underlying71 rfl (by kernel_rfl)) rfl ?_;exact dres_mk (Q:=fun _=>False) (VV.flat _ _ 0 0 ⟨#[]⟩ (by decide)) (fun g hg=>hg.elim) (fun g hg=>hg.elim) HB8.out (by omega) (by omega) hcs hct (by rw [szV_flat];exact HM.out) trivial
    obtain ⟨rra,rrb,rrc⟩:=tT hr;clear hr;obtain ⟨y0,y1,y2,y3,y4⟩:=C5.of HO3.out
    go_wp2_with (first | (refine zo rfl 32 _ _ rfl (w.heap.size + 2) 0 [_,_,_,_,_] rfl rfl _ _ (HZ3.out) (by simp) (by kernel_rfl) rfl ?_;intro ws hzs hcs) | (refine zo rfl 71 _ _ rfl (w.heap.size + 3) 0 [_,_,_] rfl rfl _ _ ((hcs.block _ (aS (HY3.out)).1 (by omega)).trans (HY3.out)) (by simp) (by kernel_rfl) rfl ?_;intro wt hzt hct))
    try simp only [Exit.inBlock,Exit.then]
    refine bodyPost_ret (zrc rfl _ wt (w.heap.size + 2) 32 _ (0,0) _ (w.heap.size + 3) 71 _ (0,0) _ rfl ((hct.block _ (aS hzs).1 (by omega)).trans hzs) Tryz.underlying32 rfl (by kernel_rfl) rfl hzt Tryz.underlying71 rfl (by kernel_rfl)) rfl ?_;exact dres_mk HU3.out (fun g hg=>hg.imp id fun h=>by have:=HS.out;omega) (fun g hg=>by have:=HS.out;rcases hg with h | h;(have:=HPL.out _ h;omega);omega) HB3.out (by omega) (by omega) hcs hct HSU.out trivial
   ·obtain ⟨kaa,kab,kac⟩:=tF k0
    clear k0
    go_wp2_with fail
    refine (wrong_any _ _ _).mono ?_;rintro e w8 ⟨rfl,hb8⟩;have HB8:=hid ((HB.out).trans (hb8.mono (HB.out).size));have HZ8:=hid (kO (HZ.out) hb8);have HY8:=hid (kO (HY.out) hb8);clear hb8
    go_wp2_with (first | (refine zo rfl 32 _ _ rfl (w.heap.size + 2) 0 [_,_,_,_,_] rfl rfl _ _ (HZ8.out) (by simp) (by kernel_rfl) rfl ?_;intro ws hzs hcs) | (refine zo rfl 71 _ _ rfl (w.heap.size + 3) 0 [_,_,_] rfl rfl _ _ ((hcs.block _ (aS (HY8.out)).1 (by omega)).trans (HY8.out)) (by simp) (by kernel_rfl) rfl ?_;intro wt hzt hct))
    try simp only [Exit.inBlock,Exit.then]
    refine bodyPost_ret (zrc rfl _ wt (w.heap.size + 2) 32 _ (0,0) _ (w.heap.size + 3) 71 _ (0,0) _ rfl ((hct.block _ (aS hzs).1 (by omega)).trans hzs) Tryz.underlying32 rfl (by kernel_rfl) rfl hzt Tryz.underlying71 rfl (by kernel_rfl)) rfl ?_;exact dres_mk (Q:=fun _=>False) (VV.flat _ _ 0 0 ⟨#[]⟩ (by decide)) (fun g hg=>hg.elim) (fun g hg=>hg.elim) HB8.out (by omega) (by omega) hcs hct (by rw [szV_flat];exact HM.out) trivial
  ·obtain ⟨mca,mcb,mcc⟩:=tF m3
   clear m3;have HC:=hid (HT.out wd HB.out)
   go_wp2_with fail
   refine HC.out.mono ?_;rintro e w2 ⟨u,r,t2,rfl,hu,hsz,hb2⟩;obtain ⟨k2,n2,s2,oi2,mi2,ci2,ok2,mk2,ck2,rfl⟩:=hu.agg5;have hba:Below w2.heap.size w2 (w2.alloc (.cells #[.int .i64 k2,.int .i64 n2,.string s2,.slice oi2 mi2 ci2,.slice ok2 mk2 ck2] 32)):=(Below.refl _ _).alloc (nR _) _;have hoa:=zhh w2 (.cells #[.int .i64 k2,.int .i64 n2,.string s2,.slice oi2 mi2 ci2,.slice ok2 mk2 ck2] 32)
   generalize hA:w2.alloc (.cells #[.int .i64 k2,.int .i64 n2,.string s2,.slice oi2 mi2 ci2,.slice ok2 mk2 ck2] 32)=w3 at *
   have HA3:=hid hA;have HB3:=hid (HB.out.trans ((hb2.trans (hba.mono hb2.size)).mono HB.out.size));have HZ3:=hid (kO (kO HZ.out hb2) hba);have HY3:=hid (kO (kO HY.out hb2) hba);have HU3:=hid (hu.bel hba);have HO3:=hid hoa;have HSU:=hid hsz;clear a1 a2 a3 a4 b0 b1 b2 b3 b4 hu hsz hb2 hba hoa hA HC
   go_upto_region 6 with (fail)
   rw [HA3.out]
   by_cases hr:r=0
   case neg =>
    obtain ⟨rra,rrb,rrc⟩:=tF hr;clear hr
    go_wp2_with fail
    refine (wrong_any _ _ _).mono ?_;rintro e w8 ⟨rfl,hb8⟩;have HB8:=hid ((HB3.out).trans (hb8.mono (HB3.out).size));have HZ8:=hid (kO (HZ3.out) hb8);have HY8:=hid (kO (HY3.out) hb8);clear hb8
    go_wp2_with (first | (refine zo rfl 32 _ _ rfl (w.heap.size + 2) 0 [_,_,_,_,_] rfl rfl _ _ (HZ8.out) (by simp) (by kernel_rfl) rfl ?_;intro ws hzs hcs) | (refine zo rfl 71 _ _ rfl (w.heap.size + 3) 0 [_,_,_] rfl rfl _ _ ((hcs.block _ (aS (HY8.out)).1 (by omega)).trans (HY8.out)) (by simp) (by kernel_rfl) rfl ?_;intro wt hzt hct))
    try simp only [Exit.inBlock,Exit.then]
    refine bodyPost_ret (zrc rfl _ wt (w.heap.size + 2) 32 _ (0,0) _ (w.heap.size + 3) 71 _ (0,0) _ rfl ((hct.block _ (aS hzs).1 (by omega)).trans hzs) Tryz.underlying32 rfl (by kernel_rfl) rfl hzt Tryz.underlying71 rfl (by kernel_rfl)) rfl ?_;exact dres_mk (Q:=fun _=>False) (VV.flat _ _ 0 0 ⟨#[]⟩ (by decide)) (fun g hg=>hg.elim) (fun g hg=>hg.elim) HB8.out (by omega) (by omega) hcs hct (by rw [szV_flat];exact HM.out) trivial
   obtain ⟨rra,rrb,rrc⟩:=tT hr;clear hr;obtain ⟨y0,y1,y2,y3,y4⟩:=C5.of HO3.out
   go_wp2_with (first | (refine zo rfl 32 _ _ rfl (w.heap.size + 2) 0 [_,_,_,_,_] rfl rfl _ _ (HZ3.out) (by simp) (by kernel_rfl) rfl ?_;intro ws hzs hcs) | (refine zo rfl 71 _ _ rfl (w.heap.size + 3) 0 [_,_,_] rfl rfl _ _ ((hcs.block _ (aS (HY3.out)).1 (by omega)).trans (HY3.out)) (by simp) (by kernel_rfl) rfl ?_;intro wt hzt hct))
   try simp only [Exit.inBlock,Exit.then]
   refine bodyPost_ret (zrc rfl _ wt (w.heap.size + 2) 32 _ (0,0) _ (w.heap.size + 3) 71 _ (0,0) _ rfl ((hct.block _ (aS hzs).1 (by omega)).trans hzs) Tryz.underlying32 rfl (by kernel_rfl) rfl hzt Tryz.underlying71 rfl (by kernel_rfl)) rfl ?_;exact dres_mk HU3.out (fun g hg=>hg.imp id fun h=>by have:=HS.out;omega) (fun g hg=>by have:=HS.out;rcases hg with h | h;(have:=HPL.out _ h;omega);omega) HB3.out (by omega) (by omega) hcs hct HSU.out trivial
theorem zaa {w:World} {o:Obj}:Below w.heap.size w (w.alloc o):=(Below.refl _ _).alloc (nR _) _
theorem boxes4 (w:World) (o1 o2 o3 o4:Obj):∃ wd,(((w.alloc o1).alloc o2).alloc o3).alloc o4=wd∧wd.heap.size=w.heap.size + 4∧Below w.heap.size w wd ∧
  wd.heap[w.heap.size]? = some o1∧wd.heap[w.heap.size + 1]? = some o2∧wd.heap[w.heap.size + 2]? = some o3∧wd.heap[w.heap.size + 3]? = some o4:=by
 have e1:(w.alloc o1).heap.size=w.heap.size + 1:=by simp
 have e2:((w.alloc o1).alloc o2).heap.size=w.heap.size + 2:=by simp
 have e3:(((w.alloc o1).alloc o2).alloc o3).heap.size=w.heap.size + 3:=by simp
 refine ⟨_,rfl,by simp,zaa.trans ((zaa.trans ((zaa.trans (zaa.mono ?_)).mono ?_)).mono ?_),?_,?_,?_,?_⟩
 ·simp
 ·simp
 ·simp
 ·exact kO (kO (kO (zhh w o1) zaa) zaa) zaa
 ·rw [← e1];exact kO (kO (zhh _ o2) zaa) zaa
 ·rw [← e2];exact kO (zhh _ o3) zaa
 ·rw [← e3];exact zhh _ o4
def CB (l:List (Nat × Nat × Value)) (w0 w:World):Prop:=Below w0.heap.size w0 w∧CL l w
theorem CB.start {l:List (Nat × Nat × Value)} {w:World} (h:CL l w):CB l w w.drew:=⟨zdd (Below.refl _ _),CL.bel h (zdd (Below.refl _ _))⟩
theorem CB.later {l:List (Nat × Nat × Value)} {w0 w w':World} (h:CB l w0 w) (hb:Below w.heap.size w w'):CB l w0 w':=⟨h.1.trans (hb.mono h.1.size),CL.bel h.2 hb⟩
theorem CB.chg {l:List (Nat × Nat × Value)} {w0 w w':World} {b:Nat} (h:CB l w0 w) (hc:Chg (fun k=>k=b) w w') (hb:w0.heap.size≤b) (hl:∀ x∈l,x.1 < w0.heap.size):CB l w0 w' :=
 ⟨h.1.trans (zgg hc (fun k hk=>by omega) h.1.size),CL.chg h.2 hc fun x hx e=>by have:=hl x hx;omega⟩
theorem JS.start {P:Nat→Prop} {m:Nat} {Z:Vl→Int→Prop} {w:World} {tx:Vl} (hP:∀ g,P g→g < w.heap.size):JS P m Z w w.drew none none none tx none :=
 ⟨hP,zdd (Below.refl _ _),nF,nF,nF,nF,nF⟩
theorem Pk.al8 {Pr:Program} {C:World→Prop} {Q:Act→World→Prop} {l:List Oper} {L:List Nat} {a:Act} {P:Nat→Prop} {m:Nat} {Z:Vl→Int→Prop} {w0 W:World} {b9:Option Nat} {oX:Option Value} {tx:Vl} {oU:Option (Value × Int)} {cs:List (Nat × Nat × Value)}
  (J:JS P m Z w0 W none b9 oX tx oU) (hc:CB cs w0 W) (h:∀ W',JS P m Z w0 W' (some W.heap.size) b9 oX tx oU→CB cs w0 W'→Pk Pr C Q l L a W'):Pk Pr C Q l L a (W.alloc zero5):=h _ J.alloc8 (hc.later zaa)
theorem Pk.al9 {Pr:Program} {C:World→Prop} {Q:Act→World→Prop} {l:List Oper} {L:List Nat} {a:Act} {P:Nat→Prop} {m:Nat} {Z:Vl→Int→Prop} {w0 W:World} {b8:Option Nat} {oX:Option Value} {tx:Vl} {oU:Option (Value × Int)} {cs:List (Nat × Nat × Value)}
  (J:JS P m Z w0 W b8 none oX tx oU) (hc:CB cs w0 W) (h:∀ W',JS P m Z w0 W' b8 (some W.heap.size) oX tx oU→CB cs w0 W'→Pk Pr C Q l L a W'):Pk Pr C Q l L a (W.alloc zeroD):=h _ J.alloc9 (hc.later zaa)
theorem RAtPost.kinds {P:Nat→Prop} {w0:World} {o:Option At} {w w':World} {e:Ending} (h:RAtPost P w0 o w e w') :
  ∃ z0 z1 z2 z3 z4 z5 z6 z7 z8 z9 za zb,e=.returned (.tuple #[.agg #[.string z0,.int .i64 z1,.slice z2 z3 z4,.slice z5 z6 z7,.int .i64 z8,.bool z9,.bool za,.bool zb],.bool o.isSome])∧Below w.heap.size w w':=by
 obtain ⟨u,rfl,hb,hy,hn⟩:=h
 cases o with
 | none=>exact ⟨_,_,_,_,_,_,_,_,_,_,_,_,by rw [hn rfl],hb⟩
 | some a =>
  obtain ⟨k,oe,me,ce,on2,mn2,cn2,e,-,-⟩:=hy a rfl;exact ⟨_,_,_,_,_,_,_,_,_,_,_,_,by rw [e],hb⟩
def NEV (P:Nat→Prop) (w:World) (v:Value) (n:Ne):Prop:=∃ oa ca,v=.agg #[.string n.name,.int .i64 n.mn,.int .i64 n.mx,.slice oa n.attrs.length ca,.bool n.rep]∧AV P w (.slice oa n.attrs.length ca) n.attrs∧n.name.size≤140737488355328
theorem NEV.bel {P:Nat→Prop} {w w':World} {v:Value} {n:Ne} (h:NEV P w v n) (hb:Below w.heap.size w w'):NEV P w' v n:=by
 obtain ⟨oa,ca,e,h1,h2⟩:=h;exact ⟨oa,ca,e,h1.bel hb,h2⟩
end Go.Proofs.YtibiiafcnaijeaaGreat
