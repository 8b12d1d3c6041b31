/- A part. -/
import Derived.Test.YtibiiafcnaijeaaGreatB00
import Derived.Test.YtibiiafcnaijeaaGreatB36
namespace Go.Proofs.YtibiiafcnaijeaaGreat
open Go Go.RowKit Go.Proofs.YtibiiafcnaijeaaGreat.Steady
set_option linter.unusedVariables false
set_option linter.unusedSimpArgs false
set_option maxRecDepth 100000
set_option maxHeartbeats 40000000
abbrev list0:Obj:=.cells #[.int .i64 4,.int .i64 0,.string ⟨#[]⟩,.slice none 0 0,.slice none 0 0] 32
theorem nested_any (n:Ne) (v:Vl) (P Q:Nat→Prop) (w:World) (un ux:Value) (hn:NEV Q w un n) (hx:VV P w ux v) (hP:∀ g,P g→g<w.heap.size) (hsv:szV v≤300) (hla:n.attrs.length≤20) (hst:∀ a∈n.attrs,sizeT a.ty≤60) :
  Calls Tryz.prog 84 #[un,ux] w (DRes P 108000301 (fun _ _=>True) w):=by
 obtain⟨oa,ca,rfl,hA,hnm⟩:=hn;have HV0:=hid hx;obtain⟨k,m,s,is,ks⟩:=v;obtain⟨vi,vk,rfl,hI,hK,hss⟩:=hx.out;obtain⟨oi,ci,rfl⟩:=hI.len;obtain⟨ok,ck,rfl⟩:=hK.len
 have hli:is.length≤300:=by rw[szV] at hsv;have:=szL_len is;omega
 obtain⟨wk,hW,hS,hB,h0,h1,h2,h3⟩:=boxes4 w (.cells #[.string n.name,.int .i64 n.mn,.int .i64 n.mx,.slice oa n.attrs.length ca,.bool n.rep] 102) (.cells #[.int .i64 k,.int .i64 m,.string s,.slice oi is.length ci,.slice ok ks.length ck] 32) zero5 zeroD;have HW:=hid hW;have HS:=hid hS;have HB:=hid hB;have HXA:=hid h0;have HXB:=hid h1;have HZ:=hid h2;have HY:=hid h3;have HV:=hid (HV0.out.bel HB.out);have HI:=hid (hI.bel HB.out);have HA:=hid (hA.bel HB.out);have HPL:=hid hP;have HLA:=hid hla;have HSV:=hid hsv;have HLI:=hid hli;have HST:=hid hst;have HNM:=hid hnm
 have HSZ:=hid (show ∀ j (h:j<is.length),szV is[j]≤300 from fun j h=>by
  rw[szV] at hsv;have:=szV_mem (lM h)
  omega)
 clear hW hS hB h0 h1 h2 h3 hI hK hA hx HV0 hP hsv hst hnm hli;obtain⟨n0,n1,n2,n3,n4⟩:=C5.of HXA.out;obtain⟨b0,b1,b2,b3,b4⟩:=C5.of HXB.out
 go_enter Tryz.func84,Tryz.ntmps84
 go_upto_region 1 with (fail)
 rw[HW.out]
 by_cases h6:k=6
 ·obtain⟨d6a,d6b,d6c⟩:=tT h6
  clear h6
  go_wp2_with (first|(refine zo rfl 32 _ _ rfl (w.heap.size+2) 0 [_,_,_,_,_] rfl rfl _ _ (HZ.out) (by simp) (by kernel_rfl) rfl ?_;intro ws hzs hcs)|(refine zo rfl 71 _ _ rfl (w.heap.size+3) 0 [_,_,_] rfl rfl _ _ ((hcs.block _ (aS (HY.out)).1 (by omega)).trans (HY.out)) (by simp) (by kernel_rfl) rfl ?_;intro wt hzt hct))
  try simp only[Exit.inBlock,Exit.then]
  refine bodyPost_ret (zrc rfl _ wt (w.heap.size+2) 32 _ (0,0) _ (w.heap.size+3) 71 _ (0,0) _ rfl ((hct.block _ (aS hzs).1 (by omega)).trans hzs) Tryz.underlying32 rfl (by kernel_rfl) rfl hzt Tryz.underlying71 rfl (by kernel_rfl)) rfl ?_;exact dres_mk HV.out (fun g hg=>.inl hg) (fun g hg=>by have:=HPL.out g hg;omega) HB.out (by omega) (by omega) hcs hct (by have:=HSV.out;omega) trivial
 obtain⟨d6a,d6b,d6c⟩:=tF h6
 by_cases hk0:k=0
 ·obtain⟨d0a,d0b,d0c⟩:=tT hk0
  clear h6 hk0;have f4:=zff HXB.out
  go_upto_region 5 with (refine zo rfl 32 _ _ rfl (w.heap.size+1) 0 [_,_,_,_,_] rfl rfl _ _ HXB.out (by simp) (by kernel_rfl) rfl ?_;intro wx hzx hcx)
  have HBX:=hid (HB.out.trans (zgg hcx (fun k hk=>by omega) HB.out.size));have HZX:=kS hcx HZ (by omega);have HYX:=kS hcx HY (by omega);have HXX:=kS hcx HXA (by omega);have HSX:=hid (show wk.heap.size≤wx.heap.size from hcx.size);have HZZ:=hid hzx;clear n0 n1 n2 n3 n4 b0 b1 b2 b3 b4 f4 hzx hcx;obtain⟨n0,n1,n2,n3,n4⟩:=C5.of HXX.out;obtain⟨b0,b1,b2,b3,b4⟩:=C5.of HZZ.out
  by_cases hmn:(0:Int)<n.mn
  ·have f1:decide ((0:Int)<n.mn)=true:=dTT hmn
   clear hmn
   go_wp2_with fail
   refine(wrong_any _ _ _).mono ?_;rintro e w8 ⟨rfl,hb8⟩;have HB8:=hid ((HBX.out).trans (hb8.mono (HBX.out).size));have HZ8:=hid (kO (HZX.out) hb8);have HY8:=hid (kO (HYX.out) hb8);clear hb8
   go_wp2_with (first|(refine zo rfl 32 _ _ rfl (w.heap.size+2) 0 [_,_,_,_,_] rfl rfl _ _ (HZ8.out) (by simp) (by kernel_rfl) rfl ?_;intro ws hzs hcs)|(refine zo rfl 71 _ _ rfl (w.heap.size+3) 0 [_,_,_] rfl rfl _ _ ((hcs.block _ (aS (HY8.out)).1 (by omega)).trans (HY8.out)) (by simp) (by kernel_rfl) rfl ?_;intro wt hzt hct))
   try simp only[Exit.inBlock,Exit.then]
   refine bodyPost_ret (zrc rfl _ wt (w.heap.size+2) 32 _ (0,0) _ (w.heap.size+3) 71 _ (0,0) _ rfl ((hct.block _ (aS hzs).1 (by omega)).trans hzs) Tryz.underlying32 rfl (by kernel_rfl) rfl hzt Tryz.underlying71 rfl (by kernel_rfl)) rfl ?_;exact dres_mk (Q:=fun _=>False) (VV.flat _ _ 0 0 ⟨#[]⟩ (by decide)) (fun g hg=>hg.elim) (fun g hg=>hg.elim) HB8.out (by omega) (by omega) hcs hct (by rw[szV_flat];omega) (trivial)
  have f1:decide ((0:Int)<n.mn)=false:=dF hmn;clear hmn
  by_cases hmx:n.mx<0
  ·have f2:decide (n.mx<0)=true:=dTT hmx
   clear hmx
   go_wp2_with fail
   refine(wrong_any _ _ _).mono ?_;rintro e w8 ⟨rfl,hb8⟩;have HB8:=hid ((HBX.out).trans (hb8.mono (HBX.out).size));have HZ8:=hid (kO (HZX.out) hb8);have HY8:=hid (kO (HYX.out) hb8);clear hb8
   go_wp2_with (first|(refine zo rfl 32 _ _ rfl (w.heap.size+2) 0 [_,_,_,_,_] rfl rfl _ _ (HZ8.out) (by simp) (by kernel_rfl) rfl ?_;intro ws hzs hcs)|(refine zo rfl 71 _ _ rfl (w.heap.size+3) 0 [_,_,_] rfl rfl _ _ ((hcs.block _ (aS (HY8.out)).1 (by omega)).trans (HY8.out)) (by simp) (by kernel_rfl) rfl ?_;intro wt hzt hct))
   try simp only[Exit.inBlock,Exit.then]
   refine bodyPost_ret (zrc rfl _ wt (w.heap.size+2) 32 _ (0,0) _ (w.heap.size+3) 71 _ (0,0) _ rfl ((hct.block _ (aS hzs).1 (by omega)).trans hzs) Tryz.underlying32 rfl (by kernel_rfl) rfl hzt Tryz.underlying71 rfl (by kernel_rfl)) rfl ?_;exact dres_mk (Q:=fun _=>False) (VV.flat _ _ 0 0 ⟨#[]⟩ (by decide)) (fun g hg=>hg.elim) (fun g hg=>hg.elim) HB8.out (by omega) (by omega) hcs hct (by rw[szV_flat];omega) (trivial)
  have f2:decide (n.mx<0)=false:=dF hmx;clear hmx;have hbl:=zaa (w:=wx) (o:=list0);have hol:=zhh wx list0
  generalize hD:wx.alloc list0=wd at *
  have HD0:=hid hD;have HBD:=hT HBX hbl;have HZD:=kH HZX hbl;have HYD:=kH HYX hbl;have HBB:=kH HZZ hbl;have HOL:=hid hol;clear hD hbl hol
  go_upto_region 12 with (fail)
  rw[HD0.out];clear n0 n1 n2 n3 n4 b0 b1 b2 b3 b4 f1 f2
  go_wp2_with fail
  go_loopw [7] (fun iv wr=>iv=.int .i64 0∧wr=wd) (fun _ _=>0)
  case atStart=>exact⟨rfl,rfl⟩
  case round =>
   obtain⟨rfl,rfl⟩:=hrel;have b3:=(cII HBB.out 3).trans rfl;obtain⟨o0,o1,o2,o3,o4⟩:=C5.of HOL.out;have hsx:=HSX.out;have hs:=HS.out
   go_wp2_with (first|(refine zo rfl 32 _ _ rfl (w.heap.size+2) 0 [_,_,_,_,_] rfl rfl _ _ (HZD.out) (by simp) (by kernel_rfl) rfl ?_;intro ws hzs hcs)|(refine zo rfl 71 _ _ rfl (w.heap.size+3) 0 [_,_,_] rfl rfl _ _ ((hcs.block _ (aS (HYD.out)).1 (by omega)).trans (HYD.out)) (by simp) (by kernel_rfl) rfl ?_;intro wt hzt hct))
   try simp only[Exit.inBlock,Exit.then]
   refine bodyPost_ret (zrc rfl _ wt (w.heap.size+2) 32 _ (0,0) _ (w.heap.size+3) 71 _ (0,0) _ rfl ((hct.block _ (aS hzs).1 (by omega)).trans hzs) Tryz.underlying32 rfl (by kernel_rfl) rfl hzt Tryz.underlying71 rfl (by kernel_rfl)) rfl ?_;exact dres_mk (Q:=fun _=>False) (VV.flat _ _ 4 0 ⟨#[]⟩ (by decide)) (fun g hg=>hg.elim) (fun g hg=>hg.elim) HBD.out (by omega) (by omega) hcs hct (by rw[szV_flat];omega) trivial
 obtain⟨d0a,d0b,d0c⟩:=tF hk0
 by_cases h4:k=4
 case neg =>
  obtain⟨d4a,d4b,d4c⟩:=tF h4;clear h6 h4 hk0
  go_wp2_with fail
  refine(wrong_any _ _ _).mono ?_;rintro e w8 ⟨rfl,hb8⟩;have HB8:=hid ((HB.out).trans (hb8.mono (HB.out).size));have HZ8:=hid (kO (HZ.out) hb8);have HY8:=hid (kO (HY.out) hb8);clear hb8
  go_wp2_with (first|(refine zo rfl 32 _ _ rfl (w.heap.size+2) 0 [_,_,_,_,_] rfl rfl _ _ (HZ8.out) (by simp) (by kernel_rfl) rfl ?_;intro ws hzs hcs)|(refine zo rfl 71 _ _ rfl (w.heap.size+3) 0 [_,_,_] rfl rfl _ _ ((hcs.block _ (aS (HY8.out)).1 (by omega)).trans (HY8.out)) (by simp) (by kernel_rfl) rfl ?_;intro wt hzt hct))
  try simp only[Exit.inBlock,Exit.then]
  refine bodyPost_ret (zrc rfl _ wt (w.heap.size+2) 32 _ (0,0) _ (w.heap.size+3) 71 _ (0,0) _ rfl ((hct.block _ (aS hzs).1 (by omega)).trans hzs) Tryz.underlying32 rfl (by kernel_rfl) rfl hzt Tryz.underlying71 rfl (by kernel_rfl)) rfl ?_;exact dres_mk (Q:=fun _=>False) (VV.flat _ _ 0 0 ⟨#[]⟩ (by decide)) (fun g hg=>hg.elim) (fun g hg=>hg.elim) HB8.out (by omega) (by omega) hcs hct (by rw[szV_flat];omega) (trivial)
 obtain⟨d4a,d4b,d4c⟩:=tT h4;subst h4;clear h6 hk0
 by_cases hmn:(is.length:Int)<n.mn
 ·have f1:decide ((is.length:Int)<n.mn)=true:=dTT hmn
  clear hmn
  go_wp2_with fail
  refine(wrong_any _ _ _).mono ?_;rintro e w8 ⟨rfl,hb8⟩;have HB8:=hid ((HB.out).trans (hb8.mono (HB.out).size));have HZ8:=hid (kO (HZ.out) hb8);have HY8:=hid (kO (HY.out) hb8);clear hb8
  go_wp2_with (first|(refine zo rfl 32 _ _ rfl (w.heap.size+2) 0 [_,_,_,_,_] rfl rfl _ _ (HZ8.out) (by simp) (by kernel_rfl) rfl ?_;intro ws hzs hcs)|(refine zo rfl 71 _ _ rfl (w.heap.size+3) 0 [_,_,_] rfl rfl _ _ ((hcs.block _ (aS (HY8.out)).1 (by omega)).trans (HY8.out)) (by simp) (by kernel_rfl) rfl ?_;intro wt hzt hct))
  try simp only[Exit.inBlock,Exit.then]
  refine bodyPost_ret (zrc rfl _ wt (w.heap.size+2) 32 _ (0,0) _ (w.heap.size+3) 71 _ (0,0) _ rfl ((hct.block _ (aS hzs).1 (by omega)).trans hzs) Tryz.underlying32 rfl (by kernel_rfl) rfl hzt Tryz.underlying71 rfl (by kernel_rfl)) rfl ?_;exact dres_mk (Q:=fun _=>False) (VV.flat _ _ 0 0 ⟨#[]⟩ (by decide)) (fun g hg=>hg.elim) (fun g hg=>hg.elim) HB8.out (by omega) (by omega) hcs hct (by rw[szV_flat];omega) (trivial)
 have f1:decide ((is.length:Int)<n.mn)=false:=dF hmn;clear hmn
 by_cases hmx:(is.length:Int) > n.mx
 ·have f2:decide ((is.length:Int) > n.mx)=true:=dTT hmx
  clear hmx
  go_wp2_with fail
  refine(wrong_any _ _ _).mono ?_;rintro e w8 ⟨rfl,hb8⟩;have HB8:=hid ((HB.out).trans (hb8.mono (HB.out).size));have HZ8:=hid (kO (HZ.out) hb8);have HY8:=hid (kO (HY.out) hb8);clear hb8
  go_wp2_with (first|(refine zo rfl 32 _ _ rfl (w.heap.size+2) 0 [_,_,_,_,_] rfl rfl _ _ (HZ8.out) (by simp) (by kernel_rfl) rfl ?_;intro ws hzs hcs)|(refine zo rfl 71 _ _ rfl (w.heap.size+3) 0 [_,_,_] rfl rfl _ _ ((hcs.block _ (aS (HY8.out)).1 (by omega)).trans (HY8.out)) (by simp) (by kernel_rfl) rfl ?_;intro wt hzt hct))
  try simp only[Exit.inBlock,Exit.then]
  refine bodyPost_ret (zrc rfl _ wt (w.heap.size+2) 32 _ (0,0) _ (w.heap.size+3) 71 _ (0,0) _ rfl ((hct.block _ (aS hzs).1 (by omega)).trans hzs) Tryz.underlying32 rfl (by kernel_rfl) rfl hzt Tryz.underlying71 rfl (by kernel_rfl)) rfl ?_;exact dres_mk (Q:=fun _=>False) (VV.flat _ _ 0 0 ⟨#[]⟩ (by decide)) (fun g hg=>hg.elim) (fun g hg=>hg.elim) HB8.out (by omega) (by omega) hcs hct (by rw[szV_flat];omega) (trivial)
 have f2:decide ((is.length:Int) > n.mx)=false:=dF hmx;clear hmx;have HAD:=hid (kO HXA.out (zaa (o:=list0)));have HBD:=hid (kO HXB.out (zaa (o:=list0)));have HZD:=hid (kO HZ.out (zaa (o:=list0)));have HYD:=hid (kO HY.out (zaa (o:=list0)));have hdo:=zhh wk list0;have hdb:Below wk.heap.size wk (wk.alloc list0):=zaa
 generalize hD:wk.alloc list0=wd at *
 have hX0:w.heap.size+4≤wk.heap.size:=by have:=HS.out;omega
 generalize hXX:wk.heap.size=X at *
 have HD0:=hid hD;have HX0:=hid hX0;have HDX:=hid hXX;have BD:=hid hdb;have HT:Hid (VI P X X wd wd 4 (.slice none 0 0) (.slice none 0 0) []):=hid ⟨by have:=hdb.size;omega,Below.refl _ _,nR _,hdo,OwnW.nil _ _ _ _,fun e=>by cases e⟩;clear hdo hdb hD hX0 hXX
 go_upto_region 12 with (fail)
 rw[HD0.out,HDX.out];clear n0 n1 n2 n3 n4 b0 b1 b2 b3 b4 f1 f2
 go_wp2_with fail
 go_loopw [7] (fun iv wr=>∃ (j:Nat) (oi':Option Addr) (mi' ci':Nat) (acc:List Vl),j≤is.length∧iv=.int .i64 j∧Hid (VI P X X wd wr 4 (.slice oi' mi' ci') (.slice none 0 0) acc)∧Hid (acc.length=j∧szL acc≤j*360001)) (fun iv _=>is.length - (intOf iv).toNat)
 case atStart=>exact⟨0,_,_,_,[],Nat.zero_le _,rfl,HT,hid ⟨rfl,by rw[szL];omega⟩⟩
 case round =>
  clear HT;obtain⟨j,oi',mi',ci',acc,hj,rfl,U,HAC⟩:=hrel;have HBK:=hid (show Below wk.heap.size wk wr from(HDX.out▸BD.out:Below wk.heap.size wk wd).trans (by rw[HDX.out];exact U.out.bel));have HBR2:=hT HB HBK.out;have HXA2:Hid (wr.heap[w.heap.size]? = _):=hid ((U.out.bel.block _ (by have:=HX0.out;omega)).trans HAD.out);have HXB2:Hid (wr.heap[w.heap.size+1]? = _):=hid ((U.out.bel.block _ (by have:=HX0.out;omega)).trans HBD.out);have HZ2:Hid (wr.heap[w.heap.size+2]? = _):=hid ((U.out.bel.block _ (by have:=HX0.out;omega)).trans HZD.out);have HY2:Hid (wr.heap[w.heap.size+3]? = _):=hid ((U.out.bel.block _ (by have:=HX0.out;omega)).trans HYD.out);have HWK:=hid (show X<wr.heap.size from U.out.lt);have b3:=(cII HXB2.out 3).trans rfl;have hli:=HLI.out
  by_cases hn:j<is.length
  ·have hj0:(0:Int)≤(j:Int):=by omega
   have hj1:(j:Int)<(is.length:Int):=by omega
   obtain⟨g2,o2,c2,k2,n2',s2,oi2,mi2,ci2,ok2,mk2,ck2,hg2,e2,r0,r1,r2,r3,r4,hXV⟩:=HI.out.atP hn
   cases e2
   replace r0:=zbb HBK.out r0;replace r1:=zbb HBK.out r1;replace r2:=zbb HBK.out r2;replace r3:=zbb HBK.out r3;replace r4:=zbb HBK.out r4;have HXV:=hid hXV;have HSJ:=hid (HSZ.out j hn);clear hXV
   generalize is[j]=x0 at *
   obtain⟨n0,n1,n2,n3,n4⟩:=C5.of HXA2.out;have HJM:=hid (nR 360001)
   have HEL:Hid (∀ w',Below wr.heap.size wr w'→Calls Tryz.prog 95 #[.agg #[.string n.name,.int .i64 n.mn,.int .i64 n.mx,.slice oa n.attrs.length ca,.bool n.rep],.agg #[.int .i64 k2,.int .i64 n2',.string s2,.slice oi2 mi2 ci2,.slice ok2 mk2 ck2]] w' (DRes P 360001 (fun _ _=>True) w')):=hid fun w' hb=>by
    have hbk:=HBK.out.trans (hb.mono HBK.out.size);exact element_any n x0 P Q w' _ _ ⟨oa,ca,rfl,HA.out.bel hbk,HNM.out⟩ (HXV.out.bel hbk) (fun g hg=>by have:=HPL.out g hg;have:=hbk.size;have:=HS.out;have:=HDX.out;omega) HSJ.out HLA.out HST.out
   go_upto_region 15 with (fail)
   obtain⟨wp,rfl⟩:∃ v,v=wr:=⟨_,rfl⟩
   go_cut [8,9] (fun pv qv wx=>∃ (Y8 Y9:Nat) (k2 n2:Int) (s2:ByteArray) (oi2:Option Addr) (mi2 ci2:Nat) (ok2:Option Addr) (mk2 ck2:Nat) (dk dn:Int) (dm:ByteArray) (t2:Vl),pv=.pointer (some ⟨Y8,0,none⟩)∧qv=.pointer (some ⟨Y9,0,none⟩)∧Hid (GotD P 360001 (fun _ _=>True) wp wx Y8 Y9 (.int .i64 k2) (.int .i64 n2) (.string s2) (.slice oi2 mi2 ci2) (.slice ok2 mk2 ck2) dk dn dm t2))
   case first =>
    have hcl:CL [(w.heap.size,0,.string n.name),(w.heap.size,1,.int .i64 n.mn),(w.heap.size,2,.int .i64 n.mx),(w.heap.size,3,.slice oa n.attrs.length ca),(w.heap.size,4,.bool n.rep),(w.heap.size+1,3,.slice (some ⟨g2,o2,none⟩) is.length ci),(g2,o2+j*5,.int .i64 k2),(g2,o2+j*5+1,.int .i64 n2'),(g2,o2+j*5+2,.string s2),(g2,o2+j*5+3,.slice oi2 mi2 ci2),(g2,o2+j*5+4,.slice ok2 mk2 ck2)] wp:=⟨n0,n1,n2,n3,n4,b3,r0,r1,r2,r3,r4,trivial⟩;have HLT:=hid (CL.lt hcl);have hc0:=CB.start hcl;have J0:=hid (JS.start (m:=360001) (Z:=fun _ _=>True) (tx:=x0) (show ∀ g,P g→g<wp.heap.size from fun g hg=>by have:=HPL.out g hg;have:=HWK.out;have:=HX0.out;omega));clear hcl n0 n1 n2 n3 n4 b3 r0 r1 r2 r3 r4;refine wp_region_pk (.node 10 6 (.node 11 6 (.node 10 11 (.leaf [0,1,2,3,4,5,10,11,6,7,8,9,12,13]) (.leaf [0,1,2,3,4,5,11,10,6,7,8,9,12,13])) (.leaf [0,1,2,3,4,5,10,6,7,8,9,11,12,13])) (.node 11 6 (.leaf [0,1,2,3,4,5,11,6,7,8,9,10,12,13]) (.node 10 11 (.leaf [0,1,2,3,4,5,6,7,8,9,10,11,12,13]) (.leaf [0,1,2,3,4,5,6,7,8,9,11,10,12,13])))) (CB _ wp) (by kernel_rfl) (by kernel_rfl) hc0 ?_
    with_reducible repeat' (first|refine OT.Ok.node ?_ ?_|refine OT.Ok.leaf ?_)
    all_goals
     have J:=hid J0.out;have hc:=hc0
     repeat (first
      | (refine Pk.skip (by rfl) (by rfl) ?_;try simp only[pT])
      | (refine Pk.calm (v:=?_) (by rfl) (by rfl) (by rfl) ?_ ?_;rotate_left;(focus intro v hSv;(try simp only[CB,CL] at hSv);go_simp;(try rw[if_neg (by omega)]);(try with_reducible rfl);done);try simp only[pT])
      | (refine Pk.loud (by rfl) (by rfl) (by rfl) (fun K hK=>?_);go_simp;first
       | (refine hK.out _ _ (hc.later (zaa (o:=zero5))) ?_;clear hK K;(try simp only[pT]);refine Pk.al8 J.out hc (fun Wn J1 hc1=>?_);replace J:=hid J1;replace hc:=hc1;clear J1 hc1)
       | (refine hK.out _ _ (hc.later (zaa (o:=zeroD))) ?_;clear hK K;(try simp only[pT]);refine Pk.al9 J.out hc (fun Wn J1 hc1=>?_);replace J:=hid J1;replace hc:=hc1;clear J1 hc1)
       | (refine(HOF.out _ J.out.bel).mono ?_;rintro e w5 ⟨u,rfl,hu,hb5⟩;obtain⟨ka,na,sa,oia,mia,cia,oka,mka,cka,rfl⟩:=hu.agg5;replace hc:=hc.later hb5;replace J:=hid (J.out.gotX hb5 hu);refine hK.out _ _ hc ?_;clear hK K hu hb5;try simp only[pT])
       | (refine(HONE.out _ _ J.out.bel (J.out.xv _ rfl)).mono ?_;rintro e w6 ⟨u,t,dk,dn,dm,rfl,hu,hm,hz,hb6⟩;obtain⟨kb,nb,sb,oib,mib,cib,okb,mkb,ckb,rfl⟩:=hu.agg5;replace hc:=hc.later hb6;replace J:=hid (J.out.gotU (dk:=dk) hb6 (fun g hg=>hg) hu (Nat.le_trans hm HJM.out) hz);refine hK.out _ _ hc ?_;clear hK K hu hb6 hm hz;try simp only[pT])
       | (refine(HEL.out _ J.out.bel).mono ?_;rintro e w6 ⟨u,t,dk,dn,dm,rfl,hu,hm,hz,hb6⟩;obtain⟨kb,nb,sb,oib,mib,cib,okb,mkb,ckb,rfl⟩:=hu.agg5;replace hc:=hc.later hb6;replace J:=hid (J.out.gotU (dk:=dk) hb6 (fun g hg=>hg) hu (Nat.le_trans hm HJM.out) hz);refine hK.out _ _ hc ?_;clear hK K hu hb6 hm hz;try simp only[pT])))
     refine Pk.loud (by rfl) (by rfl) (by rfl) (fun K hK=>?_);refine zq 32 _ _ rfl _ 0 [_,_,_,_,_] rfl rfl _ _ (J.out.h8 _ rfl).2 (by simp) (by kernel_rfl) rfl ?_;intro w7 hz7 hc7;replace hc:=hc.chg hc7 (J.out.h8 _ rfl).1 HLT.out;refine hK.out _ _ hc ?_;clear hK K
     try simp only[pT]
     refine pR0 ?_;refine Pk.loud (by rfl) (by rfl) (by rfl) (fun K hK=>?_);refine zq 71 _ _ rfl _ 0 [_,_,_] rfl rfl _ _ ((hc7.block _ (aS (J.out.h9 _ rfl).2).1 (fun e=>J.out.ne _ _ rfl rfl e.symm)).trans (J.out.h9 _ rfl).2) (by simp) (by kernel_rfl) rfl ?_;intro w8 hz8 hc8;refine hK.out _ _ (hc.chg hc8 (J.out.h9 _ rfl).1 HLT.out) ?_;clear hK K
     try simp only[pT]
     refine pR0 ?_;refine Pk.nil ?_
     go_wp2_with fail
     go_meet;obtain⟨t,G⟩:=GotD.mk' J.out hc7 hc8 hz7 hz8;exact⟨_,_,_,_,_,_,_,_,_,_,_,_,_,_,_,rfl,rfl,hid G⟩
   case rest =>
    obtain⟨Y8,Y9,kb,nb,sb,oib,mib,cib,okb,mkb,ckb,dk,dn,dm,tb,rfl,rfl,G⟩:=hcut;clear n0 n1 n2 n3 n4 b3 r0 r1 r2 r3 r4 HEL;have U3:=hid (U.out.later G.out.bel);have HBR4:=hid (HBR2.out.trans (G.out.bel.mono HBR2.out.size));have HZ4:=hid (kO HZ2.out G.out.bel);have HY4:=hid (kO HY2.out G.out.bel);have HW4:=hid (And.intro G.out.bel.size G.out.hX);have d0:=(cII G.out.objD 0).trans rfl
    by_cases hr:dk=0
    case neg =>
     obtain⟨rra,rrb,rrc⟩:=tF hr;clear hr
     go_wp2_with fail
     clear d0;have hcE:CL [(Y9,0,.int .i64 dk),(Y9,1,.int .i64 dn),(Y9,2,.string dm)] wc.drew:=⟨(cII (G.out.objD) 0).trans rfl,(cII (G.out.objD) 1).trans rfl,(cII (G.out.objD) 2).trans rfl,trivial⟩
     have hyE:w.heap.size+4≤Y9:=by have:=HW4.out.2.2.1;have:=HWK.out;have:=HX0.out;omega
     refine zss (CL _) (by kernel_rfl) (by kernel_rfl) (hcE) ?_;refine cR0 ?_;refine qqL rfl (by rfl) (fun K hK=>?_);refine zq 32 _ _ rfl (w.heap.size+2) 0 [_,_,_,_,_] rfl rfl _ _ (HZ4.out) (by simp) (by kernel_rfl) rfl ?_;intro ws hzs hcs;have hcE2:=CL.chg hcE hcs (fun x hx e=>by simp only[List.mem_cons,List.not_mem_nil,or_false] at hx;rcases hx with h|h|h <;> (rw[h] at e;simp only at e;omega));refine hK.out _ _ hcE2 ?_;clear hK K
     try simp only[pT]
     refine cR0 ?_;refine qqL rfl (by rfl) (fun K hK=>?_);refine zq 71 _ _ rfl (w.heap.size+3) 0 [_,_,_] rfl rfl _ _ ((hcs.block _ (aS (HY4.out)).1 (by omega)).trans (HY4.out)) (by simp) (by kernel_rfl) rfl ?_;intro wt hzt hct;refine hK.out _ _ (CL.chg hcE2 hct (fun x hx e=>by simp only[List.mem_cons,List.not_mem_nil,or_false] at hx;rcases hx with h|h|h <;> (rw[h] at e;simp only at e;omega))) ?_;clear hK K
     try simp only[pT]
     refine cR0 ?_;refine zn ?_
     go_wp2_with fail
     try simp only[Exit.inBlock,Exit.then]
     refine bodyPost_ret (zrc rfl _ wt (w.heap.size+2) 32 _ (0,0) _ (w.heap.size+3) 71 _ (0,0) _ rfl ((hct.block _ (aS hzs).1 (by omega)).trans hzs) Tryz.underlying32 rfl (by kernel_rfl) rfl hzt Tryz.underlying71 rfl (by kernel_rfl)) rfl ?_;exact dres_mk (Q:=fun _=>False) (VV.flat _ _ 0 0 ⟨#[]⟩ (by decide)) (fun g hg=>hg.elim) (fun g hg=>hg.elim) (zdd (HBR4.out)) (by omega) (by omega) hcs hct (by rw[szV_flat];omega) (trivial)
    obtain⟨rra,rrb,rrc⟩:=tT hr;clear hr
    have HS9:Hid (∀ g,((P g∨(wp.heap.size≤g∧g≠Y8∧g≠Y9))∧g<wc.heap.size)→(P g∨X≤g)∧g≠X∧(Value.slice oi' mi' ci').ownBlock≠some g):=hid fun g hg=>by
     have h0:=HX0.out;have h1:=U.out.lt
     rcases hg.1 with h|h
     ·have:=HPL.out g h
      exact⟨.inl h,by omega,fun e=>by have:=(U.out.own.block e).1;omega⟩
     ·exact⟨.inr (by omega),by omega,fun e=>by have:=(U.out.own.block e).2;omega⟩
    have HVV5:=hid G.out.vv.ex;obtain⟨y0,y1,y2,y3,y4⟩:=C5.of G.out.obj;have o3':=(cII U3.out.obj 3).trans rfl;have HLN:=hid (show acc.length≤1000000 by have:=HAC.out.1;have:=HLI.out;omega)
    go_upto_region 18 with (fail)
    clear d0
    go_upto_region 14 with (first|(at_builtin;obtain⟨rs,hm,hl2,he4⟩:=U3.out.own;refine app_tag (by rfl) (.tmp 70) (.tmp 72) 29 (by rfl) 32 (.agg #[.int .i64 0,.int .i64 0,.string ⟨#[]⟩,.slice none 0 0,.slice none 0 0]) 5 80 Tryz.underlying29 infoV (by rfl) (by decide) (by decide) _ _ _ hm.1 (by rfl) [.int .i64 kb,.int .i64 nb,.string sb,.slice oib mib cib,.slice okb mkb ckb] wc.heap.size (by rfl) (by rfl) (by rfl) (by simp[Value.oneCell']) (by have:=HLN.out;omega) ?_;intro v9 w9 hown9 hc9 hp9 hne9;obtain⟨o8,n8,c8,rfl⟩:=zw hown9;have hX9:=(hc9.block _ U3.out.lt (fun e=>U3.out.eown e)).trans U3.out.obj;have HOW:=hid (U3.out.item (r:=(.int .i64 kb,.int .i64 nb,.string sb,.slice oib mib cib,.slice okb mkb ckb)) hm hl2 he4 hown9 HVV5.out HS9.out hp9 hc9);clear hm hl2 he4)|(refine z1s rfl 29 _ _ rfl X 3 _ rfl rfl _ _ hX9 (by simp) (by kernel_rfl) rfl ?_;intro w10 hz10 hc10))
    have U6:=hid (U3.out.pushI HOW.out hp9 hc9 hc10 hz10);clear hown9 hc9 hp9 hne9 hX9 hz10 hc10 o3' y0 y1 y2 y3 y4 HOW
    go_wp2_with fail
    go_roundw
    case rel =>
     refine⟨j+1,_,_,_,acc++[tb],by omega,by go_num,U6,hid ⟨by rw[List.length_append,HAC.out.1];rfl,?_⟩⟩;have h1:=HAC.out.2;have h2:=G.out.sz;rw[szL_app,szL,szL]
     omega
    case measure=>simp[intOf];omega
  ·have fe:decide ((j:Int)<(is.length:Int))=false:=dF (by omega)
   have HFA:=hid (show szL acc≤108000300 by have:=HAC.out.2;have:=HLI.out;omega);have HRD:=hid (U.out.read (ks:=[]) (by have:=HAC.out.1;have:=HLI.out;omega) (SV.zero _ _));obtain⟨o0,o1,o2,o3,o4⟩:=C5.of U.out.obj;have hX0:=HX0.out
   go_wp2_with (first|(refine zo rfl 32 _ _ rfl (w.heap.size+2) 0 [_,_,_,_,_] rfl rfl _ _ (HZ2.out) (by simp) (by kernel_rfl) rfl ?_;intro ws hzs hcs)|(refine zo rfl 71 _ _ rfl (w.heap.size+3) 0 [_,_,_] rfl rfl _ _ ((hcs.block _ (aS (HY2.out)).1 (by omega)).trans (HY2.out)) (by simp) (by kernel_rfl) rfl ?_;intro wt hzt hct))
   try simp only[Exit.inBlock,Exit.then]
   refine bodyPost_ret (zrc rfl _ wt (w.heap.size+2) 32 _ (0,0) _ (w.heap.size+3) 71 _ (0,0) _ rfl ((hct.block _ (aS hzs).1 (by omega)).trans hzs) Tryz.underlying32 rfl (by kernel_rfl) rfl hzt Tryz.underlying71 rfl (by kernel_rfl)) rfl ?_;refine dres_mk HRD.out (fun g hg=>hg.1.imp id fun h=>by omega) (fun g hg=>by rcases hg.1 with h|h;(have:=HPL.out _ h;omega);omega) HBR2.out (by omega) (by omega) hcs hct ?_ trivial;rw[szV];have:=HFA.out
   omega
end Go.Proofs.YtibiiafcnaijeaaGreat
