/- Texts that stand alike under several statements, run together. -/
import Derived.Test.YtibiiafcnaijeaaGreatB00
import Derived.Test.YtibiiafcnaijeaaGreatB38
import Derived.Test.YtibiiafcnaijeaaGreatB15
namespace Go.Proofs.YtibiiafcnaijeaaGreat
open Go Go.RowKit Go.Proofs.YtibiiafcnaijeaaGreat.Steady
set_option linter.unusedVariables false
set_option linter.unusedSimpArgs false
set_option maxRecDepth 100000
set_option maxHeartbeats 40000000
def CoerceZ (sc:Sc) (v:Vl) (t:Vl) (dk:Int):Prop:=dk=0→VOk v∧kdV v=5∧VOk t∧∃ ps,ps.map (·.1)=keysC sc∧t=putsV ps
theorem coerce_any (sc:Sc) (v:Vl) (P Q:Nat→Prop) (w:World) (va vn ux:Value) (hs:SCV Q w va vn sc) (hx:VV P w ux v) (hP:∀ g,P g→g < w.heap.size) (hsv:szV v≤300) (hok:ScS sc) :
  Calls Tryz.prog 23 #[.agg #[va,vn],ux] w (DRes P 3000000000 (CoerceZ sc v) w):=by
 obtain ⟨oa,ca,rfl⟩:=hs.1.len;obtain ⟨on,cn,rfl⟩:=hs.2.len;have HV0:=hid hx;obtain ⟨k,m,s,is,ks⟩:=v;have HKD:=hid (show kdV (.mk k m s is ks)=k from rfl);obtain ⟨vi,vk,rfl,hI,hK,hss⟩:=hx.out;obtain ⟨oi,ci,rfl⟩:=hI.len;obtain ⟨ok,ck,rfl⟩:=hK.len;have hlk:=hK.le;obtain ⟨wk,hW,hS,hB,h0,h1,h2,h3⟩:=boxes4 w (.cells #[.slice oa sc.attrs.length ca,.slice on sc.nested.length cn] 25) (.cells #[.int .i64 k,.int .i64 m,.string s,.slice oi is.length ci,.slice ok ks.length ck] 32) zero5 zeroD;have HW:=hid hW;have HS:=hid hS;have HB:=hid hB;have HXA:=hid h0;have HXB:=hid h1;have HZ:=hid h2;have HY:=hid h3;have HV:=hid (HV0.out.bel HB.out);have HSC:=hid (hs.bel HB.out);have HK:=hid (hK.bel HB.out);have HPL:=hid hP;have HSV:=hid hsv;have HOK:=hid hok;clear hW hS hB h0 h1 h2 h3 hI hK hx HV0 hP hsv hok hs;obtain ⟨b0,b1,b2,b3,b4⟩:=C5.of HXB.out
 have HC:=hid (ovcheck_any P wk _ _ HV.out (by have:=HSV.out;omega))
 go_enter Tryz.func23,Tryz.ntmps23
 go_upto_region 1 with (fail)
 rw [HW.out]
 go_wp2_with fail
 refine HC.out.mono ?_;rintro e w1 ⟨r,rfl,hok,hb1⟩;have HOV:=hid hok;have HB1:=hid hb1;have HB2:=hid (HB.out.trans (hb1.mono HB.out.size));have HZ1:=hid (kO HZ.out hb1);have HY1:=hid (kO HY.out hb1);have HXB1:=hid (kO HXB.out hb1);clear hok hb1 b0 b1 b2 b3 b4 HC
 by_cases hr:r=0
 case neg =>
  obtain ⟨rra,rrb,rrc⟩:=tF hr;clear hr
  go_wp2_with fail
  refine (wrong_any _ _ _).mono ?_;rintro e w8 ⟨rfl,hb8⟩;have HB8:=hid ((HB2.out).trans (hb8.mono (HB2.out).size));have HZ8:=hid (kO (HZ1.out) hb8);have HY8:=hid (kO (HY1.out) hb8);clear hb8
  go_wp2_with (first | (refine zo rfl 32 _ _ rfl (w.heap.size + 2) 0 [_,_,_,_,_] rfl rfl _ _ (HZ8.out) (by simp) (by kernel_rfl) rfl ?_;intro ws hzs hcs) | (refine zo rfl 71 _ _ rfl (w.heap.size + 3) 0 [_,_,_] rfl rfl _ _ ((hcs.block _ (aS (HY8.out)).1 (by omega)).trans (HY8.out)) (by simp) (by kernel_rfl) rfl ?_;intro wt hzt hct))
  try simp only [Exit.inBlock,Exit.then]
  refine bodyPost_ret (zrc rfl _ wt (w.heap.size + 2) 32 _ (0,0) _ (w.heap.size + 3) 71 _ (0,0) _ rfl ((hct.block _ (aS hzs).1 (by omega)).trans hzs) Tryz.underlying32 rfl (by kernel_rfl) rfl hzt Tryz.underlying71 rfl (by kernel_rfl)) rfl ?_;exact dres_mk (Q:=fun _=>False) (VV.flat _ _ 0 0 ⟨#[]⟩ (by decide)) (fun g hg=>hg.elim) (fun g hg=>hg.elim) HB8.out (by omega) (by omega) hcs hct (by rw [szV_flat];omega) (nF)
 obtain ⟨rra,rrb,rrc⟩:=tT hr;have HVO:=hid (HOV.out hr);clear hr HOV;have b0:=(cII HXB1.out 0).trans rfl
 by_cases h5:k=5
 case neg =>
  obtain ⟨d5a,d5b,d5c⟩:=tF h5;clear h5
  go_wp2_with fail
  refine (wrong_any _ _ _).mono ?_;rintro e w8 ⟨rfl,hb8⟩;have HB8:=hid ((HB2.out).trans (hb8.mono (HB2.out).size));have HZ8:=hid (kO (HZ1.out) hb8);have HY8:=hid (kO (HY1.out) hb8);clear hb8
  go_wp2_with (first | (refine zo rfl 32 _ _ rfl (w.heap.size + 2) 0 [_,_,_,_,_] rfl rfl _ _ (HZ8.out) (by simp) (by kernel_rfl) rfl ?_;intro ws hzs hcs) | (refine zo rfl 71 _ _ rfl (w.heap.size + 3) 0 [_,_,_] rfl rfl _ _ ((hcs.block _ (aS (HY8.out)).1 (by omega)).trans (HY8.out)) (by simp) (by kernel_rfl) rfl ?_;intro wt hzt hct))
  try simp only [Exit.inBlock,Exit.then]
  refine bodyPost_ret (zrc rfl _ wt (w.heap.size + 2) 32 _ (0,0) _ (w.heap.size + 3) 71 _ (0,0) _ rfl ((hct.block _ (aS hzs).1 (by omega)).trans hzs) Tryz.underlying32 rfl (by kernel_rfl) rfl hzt Tryz.underlying71 rfl (by kernel_rfl)) rfl ?_;exact dres_mk (Q:=fun _=>False) (VV.flat _ _ 0 0 ⟨#[]⟩ (by decide)) (fun g hg=>hg.elim) (fun g hg=>hg.elim) HB8.out (by omega) (by omega) hcs hct (by rw [szV_flat];omega) (nF)
 obtain ⟨d5a,d5b,d5c⟩:=tT h5;subst h5;have b4:=(cII HXB1.out 4).trans rfl
 go_wp2_with fail
 go_loopw [6] (fun iv wr=>∃ j:Nat,j≤ks.length∧iv=.int .i64 j∧Hid (Below w1.heap.size w1 wr)) (fun iv _=>ks.length - (intOf iv).toNat)
 case atStart=>exact ⟨0,Nat.zero_le _,rfl,hid (Below.refl _ _)⟩
 case round =>
  clear b0 b4;obtain ⟨j,hj,rfl,B1⟩:=hrel;have B:=hid (HB1.out.trans (B1.out.mono HB1.out.size));have HBR:=hid (HB.out.trans (B.out.mono HB.out.size));have HZ2:=hid (kO HZ.out B.out);have HY2:=hid (kO HY.out B.out);have HXA2:=hid (kO HXA.out B.out);have HXB2:=hid (kO HXB.out B.out);have b4:=(cII HXB2.out 4).trans rfl
  by_cases hlt:j < ks.length
  ·obtain ⟨g1,o1,c1,e1,p0⟩:=HK.out.at hlt
   cases e1
   have hj0:(0:Int)≤(j:Int):=by omega
   have hj1:(j:Int) < (ks.length:Int):=by omega
   replace p0:=zbb B.out p0;obtain ⟨kj,hkj⟩:∃ kj,ks[j]=kj:=⟨_,rfl⟩;rw [hkj] at p0;have n0:=(cII HXA2.out 0).trans rfl;clear hkj;have HP0:=hid p0
   go_upto_region 8 with (fail)
   obtain ⟨wp,rfl⟩:∃ v,v=wr:=⟨_,rfl⟩
   go_cut [8] (fun hv wx=>∃ c:Bool,hv=.bool c∧Hid (Below wp.heap.size wp wx))
   case first =>
    have hc0:CL [(w.heap.size,0,.slice oa sc.attrs.length ca),(w.heap.size + 1,4,.slice (some ⟨g1,o1,none⟩) ks.length ck),(g1,o1 + j,.string kj)] wp:=⟨n0,b4,p0,trivial⟩;have HLT:=hid (CL.lt hc0);have hc:=CB.start hc0;clear hc0 n0 b4 p0 HP0;refine wp_region_pk (.node 11 7 (.leaf [0,1,2,3,4,5,6,11,7,8,9,10,12,13]) (.leaf [0,1,2,3,4,5,6,7,8,9,10,11,12,13])) (CB [(w.heap.size,0,.slice oa sc.attrs.length ca),(w.heap.size + 1,4,.slice (some ⟨g1,o1,none⟩) ks.length ck),(g1,o1 + j,.string kj)] wp) (by kernel_rfl) (by kernel_rfl) hc ?_
    with_reducible repeat' (first | refine OT.Ok.node ?_ ?_ | refine OT.Ok.leaf ?_)
    ·repeat (first
      | (refine Pk.skip (by rfl) (by rfl) ?_;try simp only [Act.put,sA,sZ,sS])
      | (refine Pk.calm (v:=?_) (by rfl) (by rfl) (by rfl) ?_ ?_;rotate_left;(focus (intro v hSv;(try simp only [CB,CL] at hSv);go_simp;(try rw [if_neg (by omega)]);(try with_reducible rfl);done));try simp only [Act.put,sA,sZ,sS]))
     refine Pk.loud (by rfl) (by rfl) (by rfl) (fun K hK=>?_)
     go_simp
     have ho:=zhh wp.drew zero8;refine hK.out _ _ ((hc.later zaa)) ?_;clear hK K
     try simp only [Act.put,sA,sZ,sS]
     replace hc:=hc.later (zaa (o:=zero8))
     repeat ((first
      | (refine Pk.skip (by rfl) (by rfl) ?_)
      | (refine Pk.calm (v:=?_) (by rfl) (by rfl) (by rfl) ?_ ?_;rotate_left;(focus (intro v hSv;(try simp only [CB,CL] at hSv);go_simp;(try rw [if_neg (by omega)]);(try with_reducible rfl);done))));try simp only [Act.put,sA,sZ,sS])
     refine Pk.loud (by rfl) (by rfl) (by rfl) (fun K hK=>?_)
     go_simp
     refine (rAttr_any sc.attrs _ Q wp _ _ ((HSC.out.1.bel B.out)) (hc.1)).mono ?_;intro e w5 hpost;obtain ⟨z0,z1,z2,z3,z4,z5,z6,z7,z8,z9,za,zb,rfl,hb5⟩:=hpost.kinds;clear hpost;replace ho:=kO ho hb5;refine hK.out _ _ ((hc.later hb5)) ?_;clear hK K
     try simp only [Act.put,sA,sZ,sS]
     replace hc:=hc.later hb5;clear hb5
     repeat ((first
      | (refine Pk.skip (by rfl) (by rfl) ?_)
      | (refine Pk.calm (v:=?_) (by rfl) (by rfl) (by rfl) ?_ ?_;rotate_left;(focus (intro v hSv;(try simp only [CB,CL] at hSv);go_simp;(try rw [if_neg (by omega)]);(try with_reducible rfl);done))));try simp only [Act.put,sA,sZ,sS])
     refine Pk.loud (by rfl) (by rfl) (by rfl) (fun K hK=>?_);refine zq 64 _ _ rfl _ 0 [_,_,_,_,_,_,_,_] rfl rfl _ _ (ho) (by simp) (by kernel_rfl) rfl ?_;intro w7 hz7 hc7;refine hK.out _ _ ((hc.chg hc7 (nR _) HLT.out)) ?_;clear hK K
     try simp only [Act.put,sA,sZ,sS]
     replace hc:=hc.chg hc7 (nR _) HLT.out
     repeat ((first
      | (refine Pk.skip (by rfl) (by rfl) ?_)
      | (refine Pk.calm (v:=?_) (by rfl) (by rfl) (by rfl) ?_ ?_;rotate_left;(focus (intro v hSv;(try simp only [CB,CL] at hSv);go_simp;(try rw [if_neg (by omega)]);(try with_reducible rfl);done))));try simp only [Act.put,sA,sZ,sS])
     refine Pk.nil ?_
     go_wp2_with fail
     go_meet;exact ⟨_,rfl,hid hc.1⟩
    ·repeat (first
      | (refine Pk.skip (by rfl) (by rfl) ?_;try simp only [Act.put,sA,sZ,sS])
      | (refine Pk.calm (v:=?_) (by rfl) (by rfl) (by rfl) ?_ ?_;rotate_left;(focus (intro v hSv;(try simp only [CB,CL] at hSv);go_simp;(try rw [if_neg (by omega)]);(try with_reducible rfl);done));try simp only [Act.put,sA,sZ,sS]))
     refine Pk.loud (by rfl) (by rfl) (by rfl) (fun K hK=>?_)
     go_simp
     refine (rAttr_any sc.attrs _ Q wp _ _ ((HSC.out.1.bel B.out)) (hc.1)).mono ?_;intro e w5 hpost;obtain ⟨z0,z1,z2,z3,z4,z5,z6,z7,z8,z9,za,zb,rfl,hb5⟩:=hpost.kinds;clear hpost;refine hK.out _ _ ((hc.later hb5)) ?_;clear hK K
     try simp only [Act.put,sA,sZ,sS]
     replace hc:=hc.later hb5;clear hb5
     repeat ((first
      | (refine Pk.skip (by rfl) (by rfl) ?_)
      | (refine Pk.calm (v:=?_) (by rfl) (by rfl) (by rfl) ?_ ?_;rotate_left;(focus (intro v hSv;(try simp only [CB,CL] at hSv);go_simp;(try rw [if_neg (by omega)]);(try with_reducible rfl);done))));try simp only [Act.put,sA,sZ,sS])
     refine Pk.loud (by rfl) (by rfl) (by rfl) (fun K hK=>?_)
     go_simp
     have hle:=hc.1.size;have ho:=zhh w5 zero8;refine hK.out _ _ ((hc.later zaa)) ?_;clear hK K
     try simp only [Act.put,sA,sZ,sS]
     replace hc:=hc.later (zaa (o:=zero8))
     repeat ((first
      | (refine Pk.skip (by rfl) (by rfl) ?_)
      | (refine Pk.calm (v:=?_) (by rfl) (by rfl) (by rfl) ?_ ?_;rotate_left;(focus (intro v hSv;(try simp only [CB,CL] at hSv);go_simp;(try rw [if_neg (by omega)]);(try with_reducible rfl);done))));try simp only [Act.put,sA,sZ,sS])
     refine Pk.loud (by rfl) (by rfl) (by rfl) (fun K hK=>?_);refine zq 64 _ _ rfl _ 0 [_,_,_,_,_,_,_,_] rfl rfl _ _ (ho) (by simp) (by kernel_rfl) rfl ?_;intro w7 hz7 hc7;refine hK.out _ _ ((hc.chg hc7 hle HLT.out)) ?_;clear hK K
     try simp only [Act.put,sA,sZ,sS]
     replace hc:=hc.chg hc7 hle HLT.out
     repeat ((first
      | (refine Pk.skip (by rfl) (by rfl) ?_)
      | (refine Pk.calm (v:=?_) (by rfl) (by rfl) (by rfl) ?_ ?_;rotate_left;(focus (intro v hSv;(try simp only [CB,CL] at hSv);go_simp;(try rw [if_neg (by omega)]);(try with_reducible rfl);done))));try simp only [Act.put,sA,sZ,sS])
     refine Pk.nil ?_
     go_wp2_with fail
     go_meet;exact ⟨_,rfl,hid hc.1⟩
   case rest =>
    obtain ⟨c,rfl,C2⟩:=hcut;have B2:=hid (B.out.trans (C2.out.mono B.out.size));have B12:=hid (B1.out.trans (C2.out.mono B1.out.size));have p0:=zbb C2.out HP0.out;have HXA3:=hid (kO HXA2.out C2.out);have HXB3:=hid (kO HXB2.out C2.out);have HP1:=hid p0;clear n0 b4 C2;have n0:=(cII HXA3.out 0).trans rfl;have n1:=(cII HXA3.out 1).trans rfl;have b4:=(cII HXB3.out 4).trans rfl;obtain ⟨wq,rfl⟩:∃ v,v=wc:=⟨_,rfl⟩
    go_upto_region 9 with (fail)
    obtain ⟨wp,rfl⟩:∃ v,v=wq:=⟨_,rfl⟩
    go_cut [10] (fun hv wx=>∃ c:Bool,hv=.bool c∧Hid (Below wp.heap.size wp wx))
    case first =>
     have hc0:CL [(w.heap.size,0,.slice oa sc.attrs.length ca),(w.heap.size,1,.slice on sc.nested.length cn),(w.heap.size + 1,4,.slice (some ⟨g1,o1,none⟩) ks.length ck),(g1,o1 + j,.string kj)] wp:=⟨n0,n1,b4,p0,trivial⟩;have HLT:=hid (CL.lt hc0);have hc:=CB.start hc0;clear hc0 n0 n1 b4 p0 HP1;refine wp_region_pk (.node 10 6 (.leaf [0,1,2,3,4,5,10,6,7,8,9,11,12]) (.leaf [0,1,2,3,4,5,6,7,8,9,10,11,12])) (CB [(w.heap.size,0,.slice oa sc.attrs.length ca),(w.heap.size,1,.slice on sc.nested.length cn),(w.heap.size + 1,4,.slice (some ⟨g1,o1,none⟩) ks.length ck),(g1,o1 + j,.string kj)] wp) (by kernel_rfl) (by kernel_rfl) hc ?_
     with_reducible repeat' (first | refine OT.Ok.node ?_ ?_ | refine OT.Ok.leaf ?_)
     ·repeat (first
       | (refine Pk.skip (by rfl) (by rfl) ?_;try simp only [Act.put,sA,sZ,sS])
       | (refine Pk.calm (v:=?_) (by rfl) (by rfl) (by rfl) ?_ ?_;rotate_left;(focus (intro v hSv;(try simp only [CB,CL] at hSv);go_simp;(try rw [if_neg (by omega)]);(try with_reducible rfl);done));try simp only [Act.put,sA,sZ,sS]))
      refine Pk.loud (by rfl) (by rfl) (by rfl) (fun K hK=>?_)
      go_simp
      have ho:=zhh wp.drew zeroN;refine hK.out _ _ ((hc.later zaa)) ?_;clear hK K
      try simp only [Act.put,sA,sZ,sS]
      replace hc:=hc.later (zaa (o:=zeroN))
      repeat ((first
       | (refine Pk.skip (by rfl) (by rfl) ?_)
       | (refine Pk.calm (v:=?_) (by rfl) (by rfl) (by rfl) ?_ ?_;rotate_left;(focus (intro v hSv;(try simp only [CB,CL] at hSv);go_simp;(try rw [if_neg (by omega)]);(try with_reducible rfl);done))));try simp only [Act.put,sA,sZ,sS])
      refine Pk.loud (by rfl) (by rfl) (by rfl) (fun K hK=>?_)
      go_simp
      refine (rnested_any sc _ Q wp _ _ _ ((HSC.out.bel B2.out)) (hc.1)).mono ?_;rintro e w5 ⟨z0,z1,z2,z3,z4,z5,z6,rfl,hb5,-,-⟩;replace ho:=kO ho hb5;refine hK.out _ _ ((hc.later hb5)) ?_;clear hK K
      try simp only [Act.put,sA,sZ,sS]
      replace hc:=hc.later hb5;clear hb5
      repeat ((first
       | (refine Pk.skip (by rfl) (by rfl) ?_)
       | (refine Pk.calm (v:=?_) (by rfl) (by rfl) (by rfl) ?_ ?_;rotate_left;(focus (intro v hSv;(try simp only [CB,CL] at hSv);go_simp;(try rw [if_neg (by omega)]);(try with_reducible rfl);done))));try simp only [Act.put,sA,sZ,sS])
      refine Pk.loud (by rfl) (by rfl) (by rfl) (fun K hK=>?_);refine zq 102 _ _ rfl _ 0 [_,_,_,_,_] rfl rfl _ _ (ho) (by simp) (by kernel_rfl) rfl ?_;intro w7 hz7 hc7;refine hK.out _ _ ((hc.chg hc7 (nR _) HLT.out)) ?_;clear hK K
      try simp only [Act.put,sA,sZ,sS]
      replace hc:=hc.chg hc7 (nR _) HLT.out
      repeat ((first
       | (refine Pk.skip (by rfl) (by rfl) ?_)
       | (refine Pk.calm (v:=?_) (by rfl) (by rfl) (by rfl) ?_ ?_;rotate_left;(focus (intro v hSv;(try simp only [CB,CL] at hSv);go_simp;(try rw [if_neg (by omega)]);(try with_reducible rfl);done))));try simp only [Act.put,sA,sZ,sS])
      refine Pk.nil ?_
      go_wp2_with fail
      go_meet;exact ⟨_,rfl,hid hc.1⟩
     ·repeat (first
       | (refine Pk.skip (by rfl) (by rfl) ?_;try simp only [Act.put,sA,sZ,sS])
       | (refine Pk.calm (v:=?_) (by rfl) (by rfl) (by rfl) ?_ ?_;rotate_left;(focus (intro v hSv;(try simp only [CB,CL] at hSv);go_simp;(try rw [if_neg (by omega)]);(try with_reducible rfl);done));try simp only [Act.put,sA,sZ,sS]))
      refine Pk.loud (by rfl) (by rfl) (by rfl) (fun K hK=>?_)
      go_simp
      refine (rnested_any sc _ Q wp _ _ _ ((HSC.out.bel B2.out)) (hc.1)).mono ?_;rintro e w5 ⟨z0,z1,z2,z3,z4,z5,z6,rfl,hb5,-,-⟩;refine hK.out _ _ ((hc.later hb5)) ?_;clear hK K
      try simp only [Act.put,sA,sZ,sS]
      replace hc:=hc.later hb5;clear hb5
      repeat ((first
       | (refine Pk.skip (by rfl) (by rfl) ?_)
       | (refine Pk.calm (v:=?_) (by rfl) (by rfl) (by rfl) ?_ ?_;rotate_left;(focus (intro v hSv;(try simp only [CB,CL] at hSv);go_simp;(try rw [if_neg (by omega)]);(try with_reducible rfl);done))));try simp only [Act.put,sA,sZ,sS])
      refine Pk.loud (by rfl) (by rfl) (by rfl) (fun K hK=>?_)
      go_simp
      have hle:=hc.1.size;have ho:=zhh w5 zeroN;refine hK.out _ _ ((hc.later zaa)) ?_;clear hK K
      try simp only [Act.put,sA,sZ,sS]
      replace hc:=hc.later (zaa (o:=zeroN))
      repeat ((first
       | (refine Pk.skip (by rfl) (by rfl) ?_)
       | (refine Pk.calm (v:=?_) (by rfl) (by rfl) (by rfl) ?_ ?_;rotate_left;(focus (intro v hSv;(try simp only [CB,CL] at hSv);go_simp;(try rw [if_neg (by omega)]);(try with_reducible rfl);done))));try simp only [Act.put,sA,sZ,sS])
      refine Pk.loud (by rfl) (by rfl) (by rfl) (fun K hK=>?_);refine zq 102 _ _ rfl _ 0 [_,_,_,_,_] rfl rfl _ _ (ho) (by simp) (by kernel_rfl) rfl ?_;intro w7 hz7 hc7;refine hK.out _ _ ((hc.chg hc7 hle HLT.out)) ?_;clear hK K
      try simp only [Act.put,sA,sZ,sS]
      replace hc:=hc.chg hc7 hle HLT.out
      repeat ((first
       | (refine Pk.skip (by rfl) (by rfl) ?_)
       | (refine Pk.calm (v:=?_) (by rfl) (by rfl) (by rfl) ?_ ?_;rotate_left;(focus (intro v hSv;(try simp only [CB,CL] at hSv);go_simp;(try rw [if_neg (by omega)]);(try with_reducible rfl);done))));try simp only [Act.put,sA,sZ,sS])
      refine Pk.nil ?_
      go_wp2_with fail
      go_meet;exact ⟨_,rfl,hid hc.1⟩
    case rest =>
     obtain ⟨d,rfl,C3⟩:=hcut;have B3:=hid (B2.out.trans (C3.out.mono B2.out.size));have B13:=hid (B12.out.trans (C3.out.mono B12.out.size));have HBR3:=hid (HB.out.trans (B3.out.mono HB.out.size));have HZ3:=hid (kO HZ.out B3.out);have HY3:=hid (kO HY.out B3.out);have HXB4:=hid (kO HXB3.out C3.out);clear n0 n1 b4 p0;have p0:=zbb C3.out HP1.out;have b4:=(cII HXB4.out 4).trans rfl
     cases c with
     | true =>
      go_wp2_with fail
      go_roundw
      case rel=>exact ⟨j + 1,by omega,by go_num,B13⟩
      case measure=>simp [intOf];omega
     | false =>
      cases d with
      | true =>
       go_wp2_with fail
       go_roundw
       case rel=>exact ⟨j + 1,by omega,by go_num,B13⟩
       case measure=>simp [intOf];omega
      | false =>
       go_wp2_with fail
       refine (wrong_any _ _ _).mono ?_;rintro e w8 ⟨rfl,hb8⟩;have HB8:=hid ((HBR3.out).trans (hb8.mono (HBR3.out).size));have HZ8:=hid (kO (HZ3.out) hb8);have HY8:=hid (kO (HY3.out) hb8);clear hb8
       go_wp2_with (first | (refine zo rfl 32 _ _ rfl (w.heap.size + 2) 0 [_,_,_,_,_] rfl rfl _ _ (HZ8.out) (by simp) (by kernel_rfl) rfl ?_;intro ws hzs hcs) | (refine zo rfl 71 _ _ rfl (w.heap.size + 3) 0 [_,_,_] rfl rfl _ _ ((hcs.block _ (aS (HY8.out)).1 (by omega)).trans (HY8.out)) (by simp) (by kernel_rfl) rfl ?_;intro wt hzt hct))
       try simp only [Exit.inBlock,Exit.then]
       refine bodyPost_ret (zrc rfl _ wt (w.heap.size + 2) 32 _ (0,0) _ (w.heap.size + 3) 71 _ (0,0) _ rfl ((hct.block _ (aS hzs).1 (by omega)).trans hzs) Tryz.underlying32 rfl (by kernel_rfl) rfl hzt Tryz.underlying71 rfl (by kernel_rfl)) rfl ?_;exact dres_mk (Q:=fun _=>False) (VV.flat _ _ 0 0 ⟨#[]⟩ (by decide)) (fun g hg=>hg.elim) (fun g hg=>hg.elim) HB8.out (by omega) (by omega) hcs hct (by rw [szV_flat];omega) (nF)
  ·obtain ⟨n0,n1⟩:wr.cell? ⟨w.heap.size,0,none⟩=some (.slice oa sc.attrs.length ca)∧wr.cell? ⟨w.heap.size,1,none⟩=some (.slice on sc.nested.length cn):=⟨(cII HXA2.out 0).trans rfl,(cII HXA2.out 1).trans rfl⟩
   have b0:=(cII HXB2.out 0).trans rfl;have b1:=(cII HXB2.out 1).trans rfl;have b2:=(cII HXB2.out 2).trans rfl;have b3:=(cII HXB2.out 3).trans rfl;have HPA:=hid (parts_any sc (.mk 5 m s is ks) P Q wr _ _ _ (HSC.out.bel B.out) (HV.out.bel B.out) (fun g hg=>by have:=HPL.out g hg;have:=B.out.size;have:=HS.out;omega) HSV.out HOK.out)
   go_wp2_with fail
   refine HPA.out.mono ?_;rintro e w2 ⟨u,t,dk,dn,dm,rfl,hu,hsz,hz,hb2⟩;obtain ⟨ku,nu,su,oiu,miu,ciu,oku,mku,cku,rfl⟩:=hu.agg5;have HU:=hid hu;have HSU:=hid hsz;have HZU:=hid hz;have HB4:=hid (HBR.out.trans (hb2.mono HBR.out.size));have HZ4:=hid (kO HZ2.out hb2);have HY4:=hid (kO HY2.out hb2);have HSW:=hid (show wr.heap.size≤w2.heap.size∧w.heap.size + 4≤wr.heap.size from ⟨hb2.size,by have:=B.out.size;have:=HS.out;omega⟩);clear b0 b1 b2 b3 b4 n0 n1 HPA hu hsz hz hb2;have e1:=zaa (w:=w2) (o:=.cells #[.int .i64 ku,.int .i64 nu,.string su,.slice oiu miu ciu,.slice oku mku cku] 32);have e2:=zhh w2 (.cells #[.int .i64 ku,.int .i64 nu,.string su,.slice oiu miu ciu,.slice oku mku cku] 32)
   have e3:(w2.alloc (.cells #[.int .i64 ku,.int .i64 nu,.string su,.slice oiu miu ciu,.slice oku mku cku] 32)).heap.size=w2.heap.size + 1:=by simp
   generalize hg3:w2.alloc (.cells #[.int .i64 ku,.int .i64 nu,.string su,.slice oiu miu ciu,.slice oku mku cku] 32)=w3 at *
   have f1:=zaa (w:=w3) (o:=.cells #[.int .i64 dk,.int .i64 dn,.string dm] 71);have f2:=zhh w3 (.cells #[.int .i64 dk,.int .i64 dn,.string dm] 71)
   generalize hg4:w3.alloc (.cells #[.int .i64 dk,.int .i64 dn,.string dm] 71)=wc at *
   rw [e3] at f2;have HG3:=hid hg3;have HG4:=hid hg4;have HB24:=hid (e1.trans (f1.mono e1.size));have HO3:=hid (kO e2 f1);have HO4:=hid f2;clear e1 e2 e3 f1 f2 hg3 hg4
   go_upto_region 13 with (fail)
   rw [HG3.out,HG4.out];have HB5:=hid (HB4.out.trans (HB24.out.mono HB4.out.size));have HZ5:=hid (kO HZ4.out HB24.out);have HY5:=hid (kO HY4.out HB24.out);have d0:=(cII HO4.out 0).trans rfl
   by_cases hr:dk=0
   case neg =>
    have HNZ:=hid hr;obtain ⟨rra,rrb,rrc⟩:=tF hr;clear hr
    go_wp2_with fail
    clear d0;have hcE:CL [((w2.heap.size + 1),0,.int .i64 dk),((w2.heap.size + 1),1,.int .i64 dn),((w2.heap.size + 1),2,.string dm)] wc.drew:=⟨(cII (HO4.out) 0).trans rfl,(cII (HO4.out) 1).trans rfl,(cII (HO4.out) 2).trans rfl,trivial⟩
    have hyE:w.heap.size + 4≤(w2.heap.size + 1):=by have:=HSW.out;omega
    refine zss (CL [((w2.heap.size + 1),0,.int .i64 dk),((w2.heap.size + 1),1,.int .i64 dn),((w2.heap.size + 1),2,.string dm)]) (by kernel_rfl) (by kernel_rfl) (hcE) ?_
    repeat ((first
     | (refine wpSteady_skip (by rfl) ?_)
     | (refine wpSteady_calm (v:=?_) (by rfl) ?_ ?_;rotate_left;(focus (intro v hSv;(try simp only [CL] at hSv);go_simp;(try with_reducible rfl);done))));try simp only [Act.put,sA,sZ,sS])
    refine wpSteady_loud rfl (by rfl) (fun K hK=>?_);refine zq 32 _ _ rfl (w.heap.size + 2) 0 [_,_,_,_,_] rfl rfl _ _ (HZ5.out) (by simp) (by kernel_rfl) rfl ?_;intro ws hzs hcs;have hcE2:=CL.chg hcE hcs (fun x hx e=>by simp only [List.mem_cons,List.not_mem_nil,or_false] at hx;rcases hx with h | h | h <;> (rw [h] at e;simp only at e;omega));refine hK.out _ _ hcE2 ?_;clear hK K
    try simp only [Act.put,sA,sZ,sS]
    repeat ((first
     | (refine wpSteady_skip (by rfl) ?_)
     | (refine wpSteady_calm (v:=?_) (by rfl) ?_ ?_;rotate_left;(focus (intro v hSv;(try simp only [CL] at hSv);go_simp;(try with_reducible rfl);done))));try simp only [Act.put,sA,sZ,sS])
    refine wpSteady_loud rfl (by rfl) (fun K hK=>?_);refine zq 71 _ _ rfl (w.heap.size + 3) 0 [_,_,_] rfl rfl _ _ ((hcs.block _ (aS (HY5.out)).1 (by omega)).trans (HY5.out)) (by simp) (by kernel_rfl) rfl ?_;intro wt hzt hct;refine hK.out _ _ (CL.chg hcE2 hct (fun x hx e=>by simp only [List.mem_cons,List.not_mem_nil,or_false] at hx;rcases hx with h | h | h <;> (rw [h] at e;simp only at e;omega))) ?_;clear hK K
    try simp only [Act.put,sA,sZ,sS]
    repeat ((first
     | (refine wpSteady_skip (by rfl) ?_)
     | (refine wpSteady_calm (v:=?_) (by rfl) ?_ ?_;rotate_left;(focus (intro v hSv;(try simp only [CL] at hSv);go_simp;(try with_reducible rfl);done))));try simp only [Act.put,sA,sZ,sS])
    refine zn ?_
    go_wp2_with fail
    try simp only [Exit.inBlock,Exit.then]
    refine bodyPost_ret (zrc rfl _ wt (w.heap.size + 2) 32 _ (0,0) _ (w.heap.size + 3) 71 _ (0,0) _ rfl ((hct.block _ (aS hzs).1 (by omega)).trans hzs) Tryz.underlying32 rfl (by kernel_rfl) rfl hzt Tryz.underlying71 rfl (by kernel_rfl)) rfl ?_;exact dres_mk (Q:=fun _=>False) (VV.flat _ _ 0 0 ⟨#[]⟩ (by decide)) (fun g hg=>hg.elim) (fun g hg=>hg.elim) (zdd (HB5.out)) (by omega) (by omega) hcs hct (by rw [szV_flat];omega) (fun h=>absurd h HNZ.out)
   obtain ⟨rra,rrb,rrc⟩:=tT hr;have HPZ:=hid (HZU.out hr);clear hr;obtain ⟨u0,u1,u2,u3,u4⟩:=C5.of HO3.out;have HVU:=hid (HU.out.bel HB24.out);have HCK:=hid (ovcheck_any _ wc _ t HVU.out (by have:=HSU.out;omega))
   go_wp2_with fail
   refine HCK.out.mono ?_;rintro e w6 ⟨r,rfl,hok,hb6⟩;have HOT:=hid hok;have HB6:=hid (HB5.out.trans (hb6.mono HB5.out.size));have HZ6:=hid (kO HZ5.out hb6);have HY6:=hid (kO HY5.out hb6);have HO6:=hid (kO HO3.out hb6);have HVV:=hid (HVU.out.bel hb6);clear d0 u0 u1 u2 u3 u4 HCK hok hb6
   by_cases hr:r=0
   case neg =>
    have HNZ:=hid hr;obtain ⟨r2a,r2b,r2c⟩:=tF hr;clear hr
    go_wp2_with fail
    refine (wrong_any _ _ _).mono ?_;rintro e w8 ⟨rfl,hb8⟩;have HB8:=hid ((HB6.out).trans (hb8.mono (HB6.out).size));have HZ8:=hid (kO (HZ6.out) hb8);have HY8:=hid (kO (HY6.out) hb8);clear hb8
    go_wp2_with (first | (refine zo rfl 32 _ _ rfl (w.heap.size + 2) 0 [_,_,_,_,_] rfl rfl _ _ (HZ8.out) (by simp) (by kernel_rfl) rfl ?_;intro ws hzs hcs) | (refine zo rfl 71 _ _ rfl (w.heap.size + 3) 0 [_,_,_] rfl rfl _ _ ((hcs.block _ (aS (HY8.out)).1 (by omega)).trans (HY8.out)) (by simp) (by kernel_rfl) rfl ?_;intro wt hzt hct))
    try simp only [Exit.inBlock,Exit.then]
    refine bodyPost_ret (zrc rfl _ wt (w.heap.size + 2) 32 _ (0,0) _ (w.heap.size + 3) 71 _ (0,0) _ rfl ((hct.block _ (aS hzs).1 (by omega)).trans hzs) Tryz.underlying32 rfl (by kernel_rfl) rfl hzt Tryz.underlying71 rfl (by kernel_rfl)) rfl ?_;exact dres_mk (Q:=fun _=>False) (VV.flat _ _ 0 0 ⟨#[]⟩ (by decide)) (fun g hg=>hg.elim) (fun g hg=>hg.elim) HB8.out (by omega) (by omega) hcs hct (by rw [szV_flat];omega) (fun h=>absurd h HNZ.out)
   obtain ⟨r2a,r2b,r2c⟩:=tT hr;have HTO:=hid (HOT.out hr);clear hr;obtain ⟨o0,o1,o2,o3,o4⟩:=C5.of HO6.out;have hsw:=HSW.out
   go_wp2_with (first | (refine zo rfl 32 _ _ rfl (w.heap.size + 2) 0 [_,_,_,_,_] rfl rfl _ _ (HZ6.out) (by simp) (by kernel_rfl) rfl ?_;intro ws hzs hcs) | (refine zo rfl 71 _ _ rfl (w.heap.size + 3) 0 [_,_,_] rfl rfl _ _ ((hcs.block _ (aS (HY6.out)).1 (by omega)).trans (HY6.out)) (by simp) (by kernel_rfl) rfl ?_;intro wt hzt hct))
   try simp only [Exit.inBlock,Exit.then]
   refine bodyPost_ret (zrc rfl _ wt (w.heap.size + 2) 32 _ (0,0) _ (w.heap.size + 3) 71 _ (0,0) _ rfl ((hct.block _ (aS hzs).1 (by omega)).trans hzs) Tryz.underlying32 rfl (by kernel_rfl) rfl hzt Tryz.underlying71 rfl (by kernel_rfl)) rfl ?_;exact dres_mk HVV.out (fun g hg=>hg.imp id fun h=>by omega) (fun g hg=>by rcases hg with h | h;(have:=HPL.out _ h;omega);omega) HB6.out (by omega) (by omega) hcs hct HSU.out (fun _=>⟨HVO.out,rfl,HTO.out,HPZ.out⟩)
end Go.Proofs.YtibiiafcnaijeaaGreat
