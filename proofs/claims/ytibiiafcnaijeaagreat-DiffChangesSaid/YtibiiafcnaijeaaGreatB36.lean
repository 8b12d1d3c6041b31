/- A part. -/
import Derived.Test.YtibiiafcnaijeaaGreatB00
import Derived.Test.YtibiiafcnaijeaaGreatB35
namespace Go.Proofs.YtibiiafcnaijeaaGreat
open Go Go.RowKit Go.Proofs.YtibiiafcnaijeaaGreat.Steady
set_option linter.unusedVariables false
set_option linter.unusedSimpArgs false
set_option maxRecDepth 100000
set_option maxHeartbeats 40000000
theorem element_any (n:Ne) (v:Vl) (P Q:Nat→Prop) (w:World) (un ux:Value) (hn:NEV Q w un n) (hx:VV P w ux v) (hP:∀ g,P g→g<w.heap.size) (hsv:szV v≤300) (hla:n.attrs.length≤20) (hst:∀ a∈n.attrs,sizeT a.ty≤60) :
  Calls Tryz.prog 95 #[un,ux] w (DRes P 360001 (fun _ _=>True) w):=by
 obtain⟨oa,ca,rfl,hA,hnm⟩:=hn;have HV0:=hid hx;have HGG:=hid (getR_sz v);obtain⟨k,m,s,is,ks⟩:=v;obtain⟨vi,vk,rfl,hI,hK,hss⟩:=hx.out;obtain⟨oi,ci,rfl⟩:=hI.len;obtain⟨ok,ck,rfl⟩:=hK.len;have hlk:=hK.le;obtain⟨wk,hW,hS,hB,h0,h1,h2,h3⟩:=boxes4 w (.cells #[.string n.name,.int .i64 n.mn,.int .i64 n.mx,.slice oa n.attrs.length ca,.bool n.rep] 102) (.cells #[.int .i64 k,.int .i64 m,.string s,.slice oi is.length ci,.slice ok ks.length ck] 32) zero5 zeroD;have HW:=hid hW;have HS:=hid hS;have HB:=hid hB;have HXA:=hid h0;have HXB:=hid h1;have HZ:=hid h2;have HY:=hid h3;have HV:=hid (HV0.out.bel HB.out);have HK:=hid (hK.bel HB.out);have HA:=hid (hA.bel HB.out);have HPL:=hid hP;have HLA:=hid hla;have HSV:=hid hsv;have HST:=hid hst;have HNM:=hid hnm;clear hW hS hB h0 h1 h2 h3 hI hK hA hx HV0 hP hsv hst hnm
 have n0:=(cII HXA.out 0).trans rfl;have n3:=(cII HXA.out 3).trans rfl;obtain⟨b0,b1,b2,b3,b4⟩:=C5.of HXB.out
 go_enter Tryz.func95,Tryz.ntmps95
 go_upto_region 1 with (fail)
 rw[HW.out]
 by_cases h6:k=6
 ·obtain⟨d6a,d6b,d6c⟩:=tT h6
  clear h6
  go_wp2_with (first|(refine zo rfl 32 _ _ rfl (w.heap.size+2) 0 [_,_,_,_,_] rfl rfl _ _ (HZ.out) (by simp) (by kernel_rfl) rfl ?_;intro ws hzs hcs)|(refine zo rfl 71 _ _ rfl (w.heap.size+3) 0 [_,_,_] rfl rfl _ _ ((hcs.block _ (aS (HY.out)).1 (by omega)).trans (HY.out)) (by simp) (by kernel_rfl) rfl ?_;intro wt hzt hct))
  try simp only[Exit.inBlock,Exit.then]
  refine bodyPost_ret (zrc rfl _ wt (w.heap.size+2) 32 _ (0,0) _ (w.heap.size+3) 71 _ (0,0) _ rfl ((hct.block _ (aS hzs).1 (by omega)).trans hzs) Tryz.underlying32 rfl (by kernel_rfl) rfl hzt Tryz.underlying71 rfl (by kernel_rfl)) rfl ?_;exact dres_mk HV.out (fun g hg=>.inl hg) (fun g hg=>by have:=HPL.out g hg;omega) HB.out (by omega) (by omega) hcs hct (by have:=HSV.out;omega) trivial
 obtain⟨d6a,d6b,d6c⟩:=tF h6
 by_cases h5:k=5
 case neg =>
  obtain⟨d5a,d5b,d5c⟩:=tF h5;clear h6 h5
  go_wp2_with fail
  refine(wrong_any _ _ _).mono ?_;rintro e w8 ⟨rfl,hb8⟩;have HB8:=hid ((HB.out).trans (hb8.mono (HB.out).size));have HZ8:=hid (kO (HZ.out) hb8);have HY8:=hid (kO (HY.out) hb8);clear hb8
  go_wp2_with (first|(refine zo rfl 32 _ _ rfl (w.heap.size+2) 0 [_,_,_,_,_] rfl rfl _ _ (HZ8.out) (by simp) (by kernel_rfl) rfl ?_;intro ws hzs hcs)|(refine zo rfl 71 _ _ rfl (w.heap.size+3) 0 [_,_,_] rfl rfl _ _ ((hcs.block _ (aS (HY8.out)).1 (by omega)).trans (HY8.out)) (by simp) (by kernel_rfl) rfl ?_;intro wt hzt hct))
  try simp only[Exit.inBlock,Exit.then]
  refine bodyPost_ret (zrc rfl _ wt (w.heap.size+2) 32 _ (0,0) _ (w.heap.size+3) 71 _ (0,0) _ rfl ((hct.block _ (aS hzs).1 (by omega)).trans hzs) Tryz.underlying32 rfl (by kernel_rfl) rfl hzt Tryz.underlying71 rfl (by kernel_rfl)) rfl ?_;exact dres_mk (Q:=fun _=>False) (VV.flat _ _ 0 0 ⟨#[]⟩ (by decide)) (fun g hg=>hg.elim) (fun g hg=>hg.elim) HB8.out (by omega) (by omega) hcs hct (by rw[szV_flat];omega) (trivial)
 obtain⟨d5a,d5b,d5c⟩:=tT h5;clear h6;subst h5
 go_wp2_with fail
 go_loopw [6] (fun iv wr=>∃ j:Nat,j≤ks.length∧iv=.int .i64 j∧Hid (Below wk.heap.size wk wr)) (fun iv _=>ks.length - (intOf iv).toNat)
 case atStart=>exact⟨0,Nat.zero_le _,rfl,hid (Below.refl _ _)⟩
 case round =>
  clear n0 n3 b0 b1 b2 b3 b4;obtain⟨j,hj,rfl,B⟩:=hrel;have HBR:=hT HB B.out;have HZ1:=kH HZ B.out;have HY1:=kH HY B.out;have HXA1:=kH HXA B.out;have HXB1:=kH HXB B.out;have b4:=(cII HXB1.out 4).trans rfl
  by_cases hlt:j<ks.length
  ·obtain⟨g1,o1,c1,e1,p0⟩:=HK.out.at hlt
   cases e1
   have hj0:(0:Int)≤(j:Int):=by omega
   have hj1:(j:Int)<(ks.length:Int):=by omega
   replace p0:=zbb B.out p0;obtain⟨kj,hkj⟩:∃ kj,ks[j]=kj:=⟨_,rfl⟩;rw[hkj] at p0;have n3:=(cII HXA1.out 3).trans rfl;clear hkj
   go_upto_region 8 with (fail)
   obtain⟨wp,rfl⟩:∃ v,v=wr:=⟨_,rfl⟩
   go_cut [8] (fun hv wx=>∃ c:Bool,hv=.bool c∧Hid (Below wp.heap.size wp wx))
   case first =>
    have hc0:CL [(w.heap.size,3,.slice oa n.attrs.length ca),(w.heap.size+1,4,.slice (some ⟨g1,o1,none⟩) ks.length ck),(g1,o1+j,.string kj)] wp:=⟨n3,b4,p0,trivial⟩;have HLT:=hid (CL.lt hc0);have hc:=CB.start hc0;clear hc0 n3 b4 p0;refine wp_region_pk (.node 11 7 (.leaf [0,1,2,3,4,5,6,11,7,8,9,10,12,13]) (.leaf [0,1,2,3,4,5,6,7,8,9,10,11,12,13])) (CB _ wp) (by kernel_rfl) (by kernel_rfl) hc ?_
    with_reducible repeat' (first|refine OT.Ok.node ?_ ?_|refine OT.Ok.leaf ?_)
    ·repeat (first
      | (refine Pk.skip (by rfl) (by rfl) ?_;try simp only[pT])
      | (refine Pk.calm (v:=?_) (by rfl) (by rfl) (by rfl) ?_ ?_;rotate_left;(focus intro v hSv;(try simp only[CB,CL] at hSv);go_simp;(try rw[if_neg (by omega)]);(try with_reducible rfl);done);try simp only[pT]))
     refine Pk.loud (by rfl) (by rfl) (by rfl) (fun K hK=>?_)
     go_simp
     have ho:=zhh wp.drew zero8;refine hK.out _ _ ((hc.later zaa)) ?_;clear hK K
     try simp only[pT]
     replace hc:=hc.later (zaa (o:=zero8));refine pR0 ?_;refine Pk.loud (by rfl) (by rfl) (by rfl) (fun K hK=>?_)
     go_simp
     refine(rAttr_any n.attrs _ Q wp _ _ ((HA.out.bel B.out)) (hc.1)).mono ?_;intro e w5 hpost;obtain⟨z0,z1,z2,z3,z4,z5,z6,z7,z8,z9,za,zb,rfl,hb5⟩:=hpost.kinds;clear hpost;replace ho:=kO ho hb5;refine hK.out _ _ ((hc.later hb5)) ?_;clear hK K
     try simp only[pT]
     replace hc:=hc.later hb5;clear hb5;refine pR0 ?_;refine Pk.loud (by rfl) (by rfl) (by rfl) (fun K hK=>?_);refine zq 64 _ _ rfl _ 0 [_,_,_,_,_,_,_,_] rfl rfl _ _ (ho) (by simp) (by kernel_rfl) rfl ?_;intro w7 hz7 hc7;refine hK.out _ _ ((hc.chg hc7 (nR _) HLT.out)) ?_;clear hK K
     try simp only[pT]
     replace hc:=hc.chg hc7 (nR _) HLT.out;refine pR0 ?_;refine Pk.nil ?_
     go_wp2_with fail
     go_meet;exact⟨_,rfl,hid hc.1⟩
    ·repeat (first
      | (refine Pk.skip (by rfl) (by rfl) ?_;try simp only[pT])
      | (refine Pk.calm (v:=?_) (by rfl) (by rfl) (by rfl) ?_ ?_;rotate_left;(focus intro v hSv;(try simp only[CB,CL] at hSv);go_simp;(try rw[if_neg (by omega)]);(try with_reducible rfl);done);try simp only[pT]))
     refine Pk.loud (by rfl) (by rfl) (by rfl) (fun K hK=>?_)
     go_simp
     refine(rAttr_any n.attrs _ Q wp _ _ ((HA.out.bel B.out)) (hc.1)).mono ?_;intro e w5 hpost;obtain⟨z0,z1,z2,z3,z4,z5,z6,z7,z8,z9,za,zb,rfl,hb5⟩:=hpost.kinds;clear hpost;refine hK.out _ _ ((hc.later hb5)) ?_;clear hK K
     try simp only[pT]
     replace hc:=hc.later hb5;clear hb5;refine pR0 ?_;refine Pk.loud (by rfl) (by rfl) (by rfl) (fun K hK=>?_)
     go_simp
     have hle:=hc.1.size;have ho:=zhh w5 zero8;refine hK.out _ _ ((hc.later zaa)) ?_;clear hK K
     try simp only[pT]
     replace hc:=hc.later (zaa (o:=zero8));refine pR0 ?_;refine Pk.loud (by rfl) (by rfl) (by rfl) (fun K hK=>?_);refine zq 64 _ _ rfl _ 0 [_,_,_,_,_,_,_,_] rfl rfl _ _ (ho) (by simp) (by kernel_rfl) rfl ?_;intro w7 hz7 hc7;refine hK.out _ _ ((hc.chg hc7 hle HLT.out)) ?_;clear hK K
     try simp only[pT]
     replace hc:=hc.chg hc7 hle HLT.out;refine pR0 ?_;refine Pk.nil ?_
     go_wp2_with fail
     go_meet;exact⟨_,rfl,hid hc.1⟩
   case rest =>
    obtain⟨c,rfl,B2⟩:=hcut;have BB:=hT B B2.out;have HB2:=hT HB BB.out;have HZ2:=kH HZ BB.out;have HY2:=kH HY BB.out;have n0:=(cII (kO HXA.out BB.out) 0).trans rfl;clear n3 b4 p0
    cases c with
    | false =>
     go_wp2_with fail
     refine(wrong_any _ _ _).mono ?_;rintro e w8 ⟨rfl,hb8⟩;have HB8:=hid ((HB2.out).trans (hb8.mono (HB2.out).size));have HZ8:=hid (kO (HZ2.out) hb8);have HY8:=hid (kO (HY2.out) hb8);clear hb8
     go_wp2_with (first|(refine zo rfl 32 _ _ rfl (w.heap.size+2) 0 [_,_,_,_,_] rfl rfl _ _ (HZ8.out) (by simp) (by kernel_rfl) rfl ?_;intro ws hzs hcs)|(refine zo rfl 71 _ _ rfl (w.heap.size+3) 0 [_,_,_] rfl rfl _ _ ((hcs.block _ (aS (HY8.out)).1 (by omega)).trans (HY8.out)) (by simp) (by kernel_rfl) rfl ?_;intro wt hzt hct))
     try simp only[Exit.inBlock,Exit.then]
     refine bodyPost_ret (zrc rfl _ wt (w.heap.size+2) 32 _ (0,0) _ (w.heap.size+3) 71 _ (0,0) _ rfl ((hct.block _ (aS hzs).1 (by omega)).trans hzs) Tryz.underlying32 rfl (by kernel_rfl) rfl hzt Tryz.underlying71 rfl (by kernel_rfl)) rfl ?_;exact dres_mk (Q:=fun _=>False) (VV.flat _ _ 0 0 ⟨#[]⟩ (by decide)) (fun g hg=>hg.elim) (fun g hg=>hg.elim) HB8.out (by omega) (by omega) hcs hct (by rw[szV_flat];omega) (trivial)
    | true =>
     go_wp2_with fail
     go_roundw
     case rel=>exact⟨j+1,by omega,by go_num,BB⟩
     case measure=>simp[intOf];omega
  ·have hdo:=zhh wr map0
   have hdb:Below wr.heap.size wr (wr.alloc map0):=zaa
   generalize hD:wr.alloc map0=wd at *
   have hX0:w.heap.size+4≤wr.heap.size:=by have:=B.out.size;have:=HS.out;omega
   generalize hXX:wr.heap.size=X at *
   have HD0:=hid hD;have HX0:=hid hX0;have HDX:=hid hXX;have BD:=hid (B.out.trans (hdb.mono (by have:=B.out.size;omega)));have HAD:=kH HXA BD.out;have HBD:=kH HXB BD.out;have HZD:=kH HZ BD.out;have HYD:=kH HY BD.out;have HT:Hid (VB P X X wd wd 5 (.slice none 0 0) (.slice none 0 0) [] []):=hid ⟨by have:=hdb.size;omega,Below.refl _ _,nR _,hdo,OwnW.nil _ _ _ _,(fun e=>by cases e),.inl ⟨rfl,rfl⟩,(fun g e=>by cases e),fun s h=>by cases h⟩;clear hdo hdb hD hX0 hXX
   go_upto_region 12 with (fail)
   rw[HD0.out,HDX.out];clear b4
   go_wp2_with fail
   go_loopw [10] (fun iv wr=>∃ (j:Nat) (oi':Option Addr) (mi' ci':Nat) (ok':Option Addr) (mk' ck':Nat) (acc:List Vl),j≤n.attrs.length∧iv=.int .i64 j∧Hid (VB P X X wd wr 5 (.slice oi' mi' ci') (.slice ok' mk' ck') acc ((n.attrs.map (·.name)).take j))∧Hid (acc.length=j∧szL acc≤j*18000)) (fun iv _=>n.attrs.length - (intOf iv).toNat)
   case atStart=>exact⟨0,_,_,_,_,_,_,[],Nat.zero_le _,rfl,HT,hid ⟨rfl,by rw[szL];omega⟩⟩
   case round =>
    clear HT;obtain⟨j,oi',mi',ci',ok',mk',ck',acc,hj,rfl,U,HAC⟩:=hrel;have HBK:=hid (show Below wk.heap.size wk wr from BD.out.trans (U.out.bel.mono (by have:=HX0.out;have:=HS.out;omega)));have HBR2:=hT HB HBK.out;have HXA2:Hid (wr.heap[w.heap.size]? = _):=hid ((U.out.bel.block _ (by have:=HX0.out;omega)).trans HAD.out);have HXB2:Hid (wr.heap[w.heap.size+1]? = _):=hid ((U.out.bel.block _ (by have:=HX0.out;omega)).trans HBD.out);have HZ2:Hid (wr.heap[w.heap.size+2]? = _):=hid ((U.out.bel.block _ (by have:=HX0.out;omega)).trans HZD.out);have HY2:Hid (wr.heap[w.heap.size+3]? = _):=hid ((U.out.bel.block _ (by have:=HX0.out;omega)).trans HYD.out);have hWK:X<wr.heap.size:=U.out.lt;have HWK:=hid hWK;clear hWK;obtain⟨L,hL⟩:∃ L,(n.attrs.map (·.name)).take j=L:=⟨_,rfl⟩;rw[hL] at U;have HLL:=hid (show L.length≤20 by rw[←hL,List.length_take,List.length_map];have:=HLA.out;omega)
    have n3:=(cII HXA2.out 3).trans rfl
    by_cases hn:j<n.attrs.length
    ·have hj0:(0:Int)≤(j:Int):=by omega
     have hj1:(j:Int)<(n.attrs.length:Int):=by omega
     obtain⟨g2,o2,c2,k2,oe2,me2,ce2,on2,mn2,cn2,hg2,e2,r0,r1,r2,r3,r4,r5,r6,r7,hTV,hsz⟩:=HA.out.at hn
     cases e2
     have HQW:=hid r0;have HG2:=hid (show g2<wk.heap.size from World.block_lt_of_cell? wk _ r0);replace r0:=zbb HBK.out r0;replace r1:=zbb HBK.out r1;replace r2:=zbb HBK.out r2;replace r3:=zbb HBK.out r3;replace r4:=zbb HBK.out r4;replace r5:=zbb HBK.out r5;replace r6:=zbb HBK.out r6;replace r7:=zbb HBK.out r7;have HAT:Hid (ATV Q wk (.agg #[.string n.attrs[j].name,.int .i64 k2,.slice oe2 me2 ce2,.slice on2 mn2 cn2,.int .i64 n.attrs[j].mode,.bool n.attrs[j].rep,.bool n.attrs[j].sens,.bool n.attrs[j].vol]) n.attrs[j]):=hid ⟨k2,oe2,me2,ce2,on2,mn2,cn2,rfl,hTV,hsz⟩;have HTY:=hid (HST.out n.attrs[j] (lM hn));have HTK:=hid (show(n.attrs.map (·.name)).take (j+1)=L++[n.attrs[j].name] by rw[←hL,List.take_add_one,List.getElem?_map,lG hn];rfl);have HNS:=hid hsz;clear hTV hsz;clear hL
     generalize n.attrs[j]=at' at *
     obtain⟨nj,ty,md,rp,sn,vl⟩:=at'
     simp only at *
     have n0:=(cII HXA2.out 0).trans rfl;obtain⟨b0,b1,b2,b3,b4⟩:=C5.of HXB2.out;obtain⟨x0,hx0⟩:∃ x0,ofR (.mk 5 m s is ks) nj=x0:=⟨_,rfl⟩;have HGS:=hid (show szV x0≤300 from by rw[←hx0];exact Nat.le_trans (HGG.out nj) HSV.out);have HJM:=hid (show szV x0*sizeT ty≤18000 from Nat.mul_le_mul HGS.out HTY.out)
     have HOF:Hid (∀ w',Below wr.heap.size wr w'→Calls Tryz.prog 76 #[.agg #[.int .i64 5,.int .i64 m,.string s,.slice oi is.length ci,.slice ok ks.length ck],.string nj] w' (OfPost P x0 w')):=hid fun w' hb=>by
      have hbk:=HBK.out.trans (hb.mono HBK.out.size);rw[←hx0];exact of_any (.mk 5 m s is ks) nj P w' _ (HV.out.bel hbk) (fun g hg=>by have:=HPL.out g hg;have:=hbk.size;have:=HS.out;omega)
     have HONE:Hid (∀ w' u,Below wr.heap.size wr w'→VV P w' u x0→Calls Tryz.prog 83 #[.agg #[.string nj,.int .i64 k2,.slice oe2 me2 ce2,.slice on2 mn2 cn2,.int .i64 md,.bool rp,.bool sn,.bool vl],u,.string n.name] w' (DRes P (szV x0*sizeT ty) (fun _ _=>True) w')):=hid fun w' u hb hu=>by
      have hbk:=HBK.out.trans (hb.mono HBK.out.size);exact one_any ⟨nj,ty,md,rp,sn,vl⟩ x0 P Q w' _ u n.name (HAT.out.bel hbk) hu (fun g hg=>by have:=HPL.out g hg;have:=hbk.size;have:=HS.out;omega) (by have:=HGS.out;omega) (by have:=HTY.out;show sizeT ty≤1000;omega)
     clear hx0
     go_upto_region 15 with (fail)
     obtain⟨wp,rfl⟩:∃ v,v=wr:=⟨_,rfl⟩
     go_cut [11,12] (fun pv qv wx=>∃ (Y8 Y9:Nat) (k2 n2:Int) (s2:ByteArray) (oi2:Option Addr) (mi2 ci2:Nat) (ok2:Option Addr) (mk2 ck2:Nat) (dk dn:Int) (dm:ByteArray) (t2:Vl),pv=.pointer (some ⟨Y8,0,none⟩)∧qv=.pointer (some ⟨Y9,0,none⟩)∧Hid (GotD P 18000 (fun _ _=>True) wp wx Y8 Y9 (.int .i64 k2) (.int .i64 n2) (.string s2) (.slice oi2 mi2 ci2) (.slice ok2 mk2 ck2) dk dn dm t2))
     case first =>
      have hcl:CL [(w.heap.size,0,.string n.name),(w.heap.size,3,.slice (some ⟨g2,o2,none⟩) n.attrs.length ca),(w.heap.size+1,0,.int .i64 5),(w.heap.size+1,1,.int .i64 m),(w.heap.size+1,2,.string s),(w.heap.size+1,3,.slice oi is.length ci),(w.heap.size+1,4,.slice ok ks.length ck),(g2,o2+j*8,.string nj),(g2,o2+j*8+1,.int .i64 k2),(g2,o2+j*8+2,.slice oe2 me2 ce2),(g2,o2+j*8+3,.slice on2 mn2 cn2),(g2,o2+j*8+4,.int .i64 md),(g2,o2+j*8+5,.bool rp),(g2,o2+j*8+6,.bool sn),(g2,o2+j*8+7,.bool vl)] wp:=⟨n0,n3,b0,b1,b2,b3,b4,r0,r1,r2,r3,r4,r5,r6,r7,trivial⟩;have HLT:=hid (CL.lt hcl);have hc0:=CB.start hcl;have J0:=hid (JS.start (m:=18000) (Z:=fun _ _=>True) (tx:=x0) (show ∀ g,P g→g<wp.heap.size from fun g hg=>by have:=HPL.out g hg;have:=HWK.out;have:=HX0.out;omega))
      clear hcl n0 n3 b0 b1 b2 b3 b4 r0 r1 r2 r3 r4 r5 r6 r7;refine wp_region_pk (.node 19 12 (.node 20 12 (.node 19 20 (.leaf [0,1,2,3,4,5,6,7,8,9,10,11,19,20,12,13,14,15,16,17,18,21,22]) (.leaf [0,1,2,3,4,5,6,7,8,9,10,11,20,19,12,13,14,15,16,17,18,21,22])) (.node 20 15 (.leaf [0,1,2,3,4,5,6,7,8,9,10,11,19,12,13,14,20,15,16,17,18,21,22]) (.leaf [0,1,2,3,4,5,6,7,8,9,10,11,19,12,13,14,15,16,17,18,20,21,22]))) (.node 19 15 (.node 20 12 (.leaf [0,1,2,3,4,5,6,7,8,9,10,11,20,12,13,14,19,15,16,17,18,21,22]) (.node 20 15 (.node 19 20 (.leaf [0,1,2,3,4,5,6,7,8,9,10,11,12,13,14,19,20,15,16,17,18,21,22]) (.leaf [0,1,2,3,4,5,6,7,8,9,10,11,12,13,14,20,19,15,16,17,18,21,22])) (.leaf [0,1,2,3,4,5,6,7,8,9,10,11,12,13,14,19,15,16,17,18,20,21,22]))) (.node 20 12 (.leaf [0,1,2,3,4,5,6,7,8,9,10,11,20,12,13,14,15,16,17,18,19,21,22]) (.node 20 15 (.leaf [0,1,2,3,4,5,6,7,8,9,10,11,12,13,14,20,15,16,17,18,19,21,22]) (.node 19 20 (.leaf [0,1,2,3,4,5,6,7,8,9,10,11,12,13,14,15,16,17,18,19,20,21,22]) (.leaf [0,1,2,3,4,5,6,7,8,9,10,11,12,13,14,15,16,17,18,20,19,21,22])))))) (CB _ wp) (by kernel_rfl) (by kernel_rfl) hc0 ?_
      with_reducible repeat' (first|refine OT.Ok.node ?_ ?_|refine OT.Ok.leaf ?_)
      all_goals
       have J:=hid J0.out;have hc:=hc0
       repeat (first
        | (refine Pk.skip (by rfl) (by rfl) ?_;try simp only[pT])
        | (refine Pk.calm (v:=?_) (by rfl) (by rfl) (by rfl) ?_ ?_;rotate_left;(focus intro v hSv;(try simp only[CB,CL] at hSv);go_simp;(try rw[if_neg (by omega)]);(try with_reducible rfl);done);try simp only[pT])
        | (refine Pk.loud (by rfl) (by rfl) (by rfl) (fun K hK=>?_);go_simp;first
         | (refine hK.out _ _ (hc.later (zaa (o:=zero5))) ?_;clear hK K;(try simp only[pT]);refine Pk.al8 J.out hc (fun Wn J1 hc1=>?_);replace J:=hid J1;replace hc:=hc1;clear J1 hc1)
         | (refine hK.out _ _ (hc.later (zaa (o:=zeroD))) ?_;clear hK K;(try simp only[pT]);refine Pk.al9 J.out hc (fun Wn J1 hc1=>?_);replace J:=hid J1;replace hc:=hc1;clear J1 hc1)
         | (refine(HOF.out _ J.out.bel).mono ?_;rintro e w5 ⟨u,rfl,hu,hb5⟩;obtain⟨ka,na,sa,oia,mia,cia,oka,mka,cka,rfl⟩:=hu.agg5;replace hc:=hc.later hb5;replace J:=hid (J.out.gotX hb5 hu);refine hK.out _ _ hc ?_;clear hK K hu hb5;try simp only[pT])
         | (refine(HONE.out _ _ J.out.bel (J.out.xv _ rfl)).mono ?_;rintro e w6 ⟨u,t,dk,dn,dm,rfl,hu,hm,hz,hb6⟩;obtain⟨kb,nb,sb,oib,mib,cib,okb,mkb,ckb,rfl⟩:=hu.agg5;replace hc:=hc.later hb6;replace J:=hid (J.out.gotU (dk:=dk) hb6 (fun g hg=>hg) hu (Nat.le_trans hm HJM.out) hz);refine hK.out _ _ hc ?_;clear hK K hu hb6 hm hz;try simp only[pT])
         | (refine(HEL.out _ J.out.bel).mono ?_;rintro e w6 ⟨u,t,dk,dn,dm,rfl,hu,hm,hz,hb6⟩;obtain⟨kb,nb,sb,oib,mib,cib,okb,mkb,ckb,rfl⟩:=hu.agg5;replace hc:=hc.later hb6;replace J:=hid (J.out.gotU (dk:=dk) hb6 (fun g hg=>hg) hu (Nat.le_trans hm HJM.out) hz);refine hK.out _ _ hc ?_;clear hK K hu hb6 hm hz;try simp only[pT])))
       refine Pk.loud (by rfl) (by rfl) (by rfl) (fun K hK=>?_);refine zq 32 _ _ rfl _ 0 [_,_,_,_,_] rfl rfl _ _ (J.out.h8 _ rfl).2 (by simp) (by kernel_rfl) rfl ?_;intro w7 hz7 hc7;replace hc:=hc.chg hc7 (J.out.h8 _ rfl).1 HLT.out;refine hK.out _ _ hc ?_;clear hK K
       try simp only[pT]
       refine pR0 ?_;refine Pk.loud (by rfl) (by rfl) (by rfl) (fun K hK=>?_);refine zq 71 _ _ rfl _ 0 [_,_,_] rfl rfl _ _ ((hc7.block _ (aS (J.out.h9 _ rfl).2).1 (fun e=>J.out.ne _ _ rfl rfl e.symm)).trans (J.out.h9 _ rfl).2) (by simp) (by kernel_rfl) rfl ?_;intro w8 hz8 hc8;refine hK.out _ _ (hc.chg hc8 (J.out.h9 _ rfl).1 HLT.out) ?_;clear hK K
       try simp only[pT]
       refine pR0 ?_;refine Pk.nil ?_
       go_wp2_with fail
       go_meet;obtain⟨t,G⟩:=GotD.mk' J.out hc7 hc8 hz7 hz8;exact⟨_,_,_,_,_,_,_,_,_,_,_,_,_,_,_,rfl,rfl,hid G⟩
     case rest =>
      obtain⟨Y8,Y9,kb,nb,sb,oib,mib,cib,okb,mkb,ckb,dk,dn,dm,tb,rfl,rfl,G⟩:=hcut;clear n0 n3 b0 b1 b2 b3 b4 r0 r1 r2 r3 r4 r5 r6 r7 HOF HONE;have U3:=hid (U.out.later G.out.bel);have HBR4:=hid (HBR2.out.trans (G.out.bel.mono HBR2.out.size));have HZ4:=hid (kO HZ2.out G.out.bel);have HY4:=hid (kO HY2.out G.out.bel);have HXA4:=hid (kO HXA2.out G.out.bel);have HW4:=hid (And.intro G.out.bel.size G.out.hX);have d0:=(cII G.out.objD 0).trans rfl
      by_cases hr:dk=0
      case neg =>
       obtain⟨rra,rrb,rrc⟩:=tF hr;clear hr
       go_wp2_with fail
       clear d0;have hcE:CL [(Y9,0,.int .i64 dk),(Y9,1,.int .i64 dn),(Y9,2,.string dm)] wc.drew:=⟨(cII (G.out.objD) 0).trans rfl,(cII (G.out.objD) 1).trans rfl,(cII (G.out.objD) 2).trans rfl,trivial⟩
       have hyE:w.heap.size+4≤Y9:=by have:=HW4.out.2.2.1;have:=HWK.out;have:=HX0.out;omega
       refine zss (CL _) (by kernel_rfl) (by kernel_rfl) (hcE) ?_;refine cR0 ?_;refine qqL rfl (by rfl) (fun K hK=>?_);refine zq 32 _ _ rfl (w.heap.size+2) 0 [_,_,_,_,_] rfl rfl _ _ (HZ4.out) (by simp) (by kernel_rfl) rfl ?_;intro ws hzs hcs;have hcE2:=CL.chg hcE hcs (fun x hx e=>by simp only[List.mem_cons,List.not_mem_nil,or_false] at hx;rcases hx with h|h|h <;> (rw[h] at e;simp only at e;omega));refine hK.out _ _ hcE2 ?_;clear hK K
       try simp only[pT]
       refine cR0 ?_;refine qqL rfl (by rfl) (fun K hK=>?_);refine zq 71 _ _ rfl (w.heap.size+3) 0 [_,_,_] rfl rfl _ _ ((hcs.block _ (aS (HY4.out)).1 (by omega)).trans (HY4.out)) (by simp) (by kernel_rfl) rfl ?_;intro wt hzt hct;refine hK.out _ _ (CL.chg hcE2 hct (fun x hx e=>by simp only[List.mem_cons,List.not_mem_nil,or_false] at hx;rcases hx with h|h|h <;> (rw[h] at e;simp only at e;omega))) ?_;clear hK K
       try simp only[pT]
       refine cR0 ?_;refine zn ?_
       go_wp2_with fail
       try simp only[Exit.inBlock,Exit.then]
       refine bodyPost_ret (zrc rfl _ wt (w.heap.size+2) 32 _ (0,0) _ (w.heap.size+3) 71 _ (0,0) _ rfl ((hct.block _ (aS hzs).1 (by omega)).trans hzs) Tryz.underlying32 rfl (by kernel_rfl) rfl hzt Tryz.underlying71 rfl (by kernel_rfl)) rfl ?_;exact dres_mk (Q:=fun _=>False) (VV.flat _ _ 0 0 ⟨#[]⟩ (by decide)) (fun g hg=>hg.elim) (fun g hg=>hg.elim) (zdd (HBR4.out)) (by omega) (by omega) hcs hct (by rw[szV_flat];omega) (trivial)
      obtain⟨rra,rrb,rrc⟩:=tT hr;clear hr
      go_upto_region 18 with (fail)
      clear d0;have T1:=hid (U3.out.later (zdd (Below.refl _ _)));have o4:=(cII T1.out.obj 4).trans rfl;have n3:=(cII HXA4.out 3).trans rfl;have q0:=zbb (HBK.out.trans (G.out.bel.mono HBK.out.size)) HQW.out;have HLN:=hid (show acc.length≤1000000∧L.length≤1000000 by have:=HAC.out.1;have:=HLA.out;have:=HLL.out;omega);have hXw:w.heap.size+4≤X:=HX0.out
      have hWX:wk.heap.size≤X:=by have:=HS.out;omega
      have HVN:=hid (show ¬ (Value.slice ok' mk' ck').ownBlock=some g2 from fun e=>by have:=(T1.out.rown _ e).1;have:=HG2.out;omega);have HVN1:=hid (show ¬ (Value.slice ok' mk' ck').ownBlock=some w.heap.size from fun e=>by have:=(T1.out.rown _ e).1;omega);clear hXw hWX;refine zt 11 (fun v=>v.cell? ⟨X,4,none⟩=some (.slice ok' mk' ck')∧v.cell? ⟨w.heap.size,3,none⟩=some (.slice (some ⟨g2,o2,none⟩) n.attrs.length ca)∧v.cell? ⟨g2,o2+j*8,none⟩=some (.string nj)) (by kernel_rfl) (by kernel_rfl) (⟨o4,n3,q0⟩) ?_;simp only[List.take_succ_cons,List.take_zero,List.drop_succ_cons,List.drop_zero];refine cR2 ?_;refine qqL rfl (by rfl) (fun K hK=>?_)
      go_simp
      have hal:Below wc.drew.heap.size wc.drew (wc.drew.alloc (.cells #[.string nj] 9)):=zaa;refine hK.out _ _ (⟨zbb (W:=wc.drew) hal o4,zbb (W:=wc.drew) hal n3,zbb (W:=wc.drew) hal q0⟩) ?_;clear hK K
      try simp only[pT]
      clear hal;refine qqL rfl (by rfl) (fun K hK=>?_);refine app_tag_wp (.tmp 82) (.tmp 89) 30 (by rfl) 9 (.string ⟨#[]⟩) 1 16 Tryz.underlying30 info9 (by rfl) (by decide) (by decide) _ _ _ T1.out.row.owns (by rfl) [.string nj] wc.drew.heap.size (by rfl) (by rfl) (by rfl) (by simp[Value.oneCell']) (by have:=HLN.out.2;omega) ?_;intro v3 w3 hown3 hc3 hp3 hne3;obtain⟨o3,n3',c3,rfl⟩:=zw hown3;have hT3:w3.heap[X]? = _:=(hc3.block _ T1.out.lt (fun e=>(T1.out.rown _ e).2.1 rfl)).trans T1.out.obj;refine hK.out _ _ ⟨zcc hc3 (fun e=>(T1.out.rown _ e).2.1 rfl) o4,zcc hc3 HVN1.out n3,zcc hc3 HVN.out q0⟩ ?_;clear hK K
      try simp only[pT]
      have T4:=hid (T1.out.pushK (owns_row (l:=L++[nj]) (by rw[strs,List.map_append];exact hown3) (by simp)) (snocS T1.out.strs HNS.out) hp3 hc3 (Chg.setCell w3 X 4 (.slice o3 n3' c3) rfl) (obj_set (po:=4) hT3 (.slice o3 n3' c3)));have t2:=(cII hT3 4).trans rfl;have tf:=zff hT3
      have HC4:=hid (show Chg (fun g=>(Value.slice ok' mk' ck').ownBlock=some g∨g=X) wc (w3.setCell ⟨X,4,none⟩ (.slice o3 n3' c3)) from
       ((Chg.drew (fun g=>(Value.slice ok' mk' ck').ownBlock=some g∨g=X) wc).trans (hc3.mono fun g _ h=>.inl h)).trans (Chg.setCell w3 X 4 (.slice o3 n3' c3) (Or.inr rfl)))
      have HP3:Hid ((Value.slice o3 n3' c3).ownBlock=(Value.slice ok' mk' ck').ownBlock∨∃ g,(Value.slice o3 n3' c3).ownBlock=some g∧wc.heap.size≤g):=hid hp3;clear hown3 hc3 hp3 hne3 hT3 o4 n3 q0 T1;refine cR2 ?_;refine zn ?_
      go_upto_region 19 with (fail)
      clear t2 tf
      generalize w3.setCell ⟨X,4,none⟩ (.slice o3 n3' c3)=w4 at *
      have HO5:=hid ((HC4.out.block Y8 (aS G.out.obj).1 (fun e=>by
       have:=HW4.out.2.1
       rcases e with e|e
       ·have:=U.out.row.lt e;omega
       ·have:=U.out.lt;omega)).trans G.out.obj)
      have HVV5:=hid (G.out.vv.ex.keep (ZK.chg HC4.out fun g hg e=>by
       have h0:=HX0.out
       rcases hg.1 with h|h
       ·have:=HPL.out g h
        rcases e with e|e
        ·have:=(U.out.rown _ e).1;omega
        ·omega
       ·rcases e with e|e
        ·have:=U.out.row.lt e;omega
        ·have:=U.out.lt;omega) fun g hg=>hg)
      have HS9:Hid (∀ g,((P g∨(wp.heap.size≤g∧g≠Y8∧g≠Y9))∧g<wc.heap.size)→((P g∨X≤g)∧(Value.slice o3 n3' c3).ownBlock≠some g)∧g≠X∧(Value.slice oi' mi' ci').ownBlock≠some g):=hid fun g hg=>by
       have h0:=HX0.out;have h1:=U.out.lt
       rcases hg.1 with h|h
       ·have:=HPL.out g h
        exact⟨⟨.inl h,fun e=>by have:=(T4.out.rown _ e).1;omega⟩,by omega,fun e=>by have:=(U.out.own.block e).1;omega⟩
       ·refine⟨⟨.inr (by omega),fun e=>?_⟩,by omega,fun e=>by have:=(U.out.own.block e).2;omega⟩
        rcases HP3.out with h2|⟨g',h2,h3⟩
        ·rw[h2] at e
         have:=U.out.row.lt e;omega
        ·rw[h2] at e
         cases e
         omega
      obtain⟨y0,y1,y2,y3,y4⟩:=C5.of HO5.out;have o3':=(cII T4.out.obj 3).trans rfl
      go_upto_region 14 with (first|(at_builtin;obtain⟨rs,hm,hl2,he4⟩:=T4.out.own;refine app_tag (by rfl) (.tmp 93) (.tmp 95) 29 (by rfl) 32 (.agg #[.int .i64 0,.int .i64 0,.string ⟨#[]⟩,.slice none 0 0,.slice none 0 0]) 5 80 Tryz.underlying29 infoV (by rfl) (by decide) (by decide) _ _ _ hm.1 (by rfl) [.int .i64 kb,.int .i64 nb,.string sb,.slice oib mib cib,.slice okb mkb ckb] w4.heap.size (by rfl) (by rfl) (by rfl) (by simp[Value.oneCell']) (by have:=HLN.out.1;omega) ?_;intro v9 w9 hown9 hc9 hp9 hne9;obtain⟨o8,n8,c8,rfl⟩:=zw hown9;have hX9:=(hc9.block _ T4.out.lt (fun e=>T4.out.eown e)).trans T4.out.obj;have HOW:=hid (T4.out.item (r:=(.int .i64 kb,.int .i64 nb,.string sb,.slice oib mib cib,.slice okb mkb ckb)) hm hl2 he4 hown9 HVV5.out HS9.out hp9 hc9);clear hm hl2 he4)|(refine z1s rfl 29 _ _ rfl X 3 _ rfl rfl _ _ hX9 (by simp) (by kernel_rfl) rfl ?_;intro w10 hz10 hc10))
      have U6:=hid (T4.out.pushI HOW.out hp9 hc9 hc10 hz10);clear hown9 hc9 hp9 hne9 hX9 hz10 hc10 o3' y0 y1 y2 y3 y4 HOW
      go_wp2_with fail
      go_roundw
      case rel =>
       refine⟨j+1,_,_,_,_,_,_,acc++[tb],by omega,by go_num,by rw[HTK.out];exact U6,hid ⟨by rw[List.length_append,HAC.out.1];rfl,?_⟩⟩;have h1:=HAC.out.2;have h2:=G.out.sz;rw[szL_app,szL,szL]
       omega
      case measure=>simp[intOf];omega
    ·have fe:decide ((j:Int)<(n.attrs.length:Int))=false:=dF (by omega)
     have HFA:=hid (show szL acc≤360000 by have:=HAC.out.2;have:=HLA.out;omega);have HRD:=hid (U.out.read (by have:=HAC.out.1;have:=HLA.out;omega) (by have:=HLL.out;omega));obtain⟨o0,o1,o2,o3,o4⟩:=C5.of U.out.obj;have hX0:=HX0.out
     go_wp2_with (first|(refine zo rfl 32 _ _ rfl (w.heap.size+2) 0 [_,_,_,_,_] rfl rfl _ _ (HZ2.out) (by simp) (by kernel_rfl) rfl ?_;intro ws hzs hcs)|(refine zo rfl 71 _ _ rfl (w.heap.size+3) 0 [_,_,_] rfl rfl _ _ ((hcs.block _ (aS (HY2.out)).1 (by omega)).trans (HY2.out)) (by simp) (by kernel_rfl) rfl ?_;intro wt hzt hct))
     try simp only[Exit.inBlock,Exit.then]
     refine bodyPost_ret (zrc rfl _ wt (w.heap.size+2) 32 _ (0,0) _ (w.heap.size+3) 71 _ (0,0) _ rfl ((hct.block _ (aS hzs).1 (by omega)).trans hzs) Tryz.underlying32 rfl (by kernel_rfl) rfl hzt Tryz.underlying71 rfl (by kernel_rfl)) rfl ?_;refine dres_mk HRD.out (fun g hg=>hg.1.imp id fun h=>by omega) (fun g hg=>by rcases hg.1 with h|h;(have:=HPL.out _ h;omega);omega) HBR2.out (by omega) (by omega) hcs hct ?_ trivial;rw[szV];have:=HFA.out
     omega
end Go.Proofs.YtibiiafcnaijeaaGreat
