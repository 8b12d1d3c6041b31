/- The statement DiffReasons holds of the given program for every input. -/
import Derived.Test.YtibiiafcnaijeaaGreatB00
import Derived.Test.YtibiiafcnaijeaaGreatE00
import Derived.Test.YtibiiafcnaijeaaGreatB45
namespace Go.Proofs.YtibiiafcnaijeaaGreat.diffReasons
set_option maxRecDepth 100000
set_option maxHeartbeats 40000000
open Go Go.ChangeShapes Go.WideShapes Go.ChangeAt Go.RowKit Go.Proofs.YtibiiafcnaijeaaGreat.Steady
set_option linter.unusedVariables false
set_option linter.unusedSimpArgs false
theorem cases_of (i:Inp):(i.has=false∧∃ af,changeD i=⟨i.addr,⟨#[]⟩,i.tname,1,1,nullV,af,⟨#[]⟩,[],false,i.protect,false,i.deps,[]⟩)∨(i.has=true∧(
  (i.prior.tainted=true∧∃ af rp,changeD i=⟨i.addr,⟨#[]⟩,i.tname,3,4,i.prior.attrs,af,i.prior.id,rp,i.createFirst,i.protect,false,i.deps,i.prior.deps⟩) ∨
  (i.prior.tainted=false∧i.requested=true∧∃ af rp,changeD i=⟨i.addr,⟨#[]⟩,i.tname,3,6,i.prior.attrs,af,i.prior.id,rp,i.createFirst,i.protect,false,i.deps,i.prior.deps⟩) ∨
  (i.prior.tainted=false∧i.requested=false∧i.triggered=true∧∃ af rp,changeD i=⟨i.addr,⟨#[]⟩,i.tname,3,5,i.prior.attrs,af,i.prior.id,rp,i.createFirst,i.protect,false,i.deps,i.prior.deps⟩) ∨
  (i.prior.tainted=false∧i.requested=false∧i.triggered=false∧∃ af rp,rp≠[]∧changeD i=⟨i.addr,⟨#[]⟩,i.tname,3,3,i.prior.attrs,af,i.prior.id,rp,i.createFirst,i.protect,false,i.deps,i.prior.deps⟩) ∨
  (i.prior.tainted=false∧i.requested=false∧i.triggered=false∧∃ af,changeD i=⟨i.addr,⟨#[]⟩,i.tname,0,0,i.prior.attrs,af,i.prior.id,[],false,i.protect,false,i.deps,i.prior.deps⟩) ∨
  (i.prior.tainted=false∧i.requested=false∧i.triggered=false∧∃ af,changeD i=⟨i.addr,⟨#[]⟩,i.tname,2,2,i.prior.attrs,af,i.prior.id,[],false,i.protect,false,i.deps,i.prior.deps⟩))):=by
 unfold changeD
 cases hh:i.has with
 | false=>exact .inl ⟨rfl,_,by rw [if_pos rfl]⟩
 | true =>
  refine .inr ⟨rfl,?_⟩;simp only [Bool.true_eq_false,if_false];generalize proposeS i.sc i.prior.attrs (effD i)=af;generalize proposeS i.sc nullV (effD i)=ff;generalize replacedS i.sc i.prior.attrs af=rp;unfold reasonD
  cases ht:i.prior.tainted with
  | true=>exact .inl ⟨rfl,ff,rp,by simp⟩
  | false =>
  refine .inr ?_
  cases hq:i.requested with
  | true=>exact .inl ⟨rfl,rfl,ff,rp,by simp⟩
  | false =>
  refine .inr ?_
  cases hg:i.triggered with
  | true=>exact .inl ⟨rfl,rfl,rfl,ff,rp,by simp⟩
  | false =>
  refine .inr ?_
  by_cases hr:rp = []
  ·refine .inr ?_
   by_cases hc:changedS i.sc i.prior.attrs af = []
   ·exact .inl ⟨rfl,rfl,rfl,af,by simp [hr,hc]⟩
   ·exact .inr ⟨rfl,rfl,rfl,af,by simp [hr,hc]⟩
  ·exact .inl ⟨rfl,rfl,rfl,ff,rp,hr,by simp [hr]⟩
def Facts (i:Inp) (c:Chg'):Prop:=(c.addr=i.addr∧c.deposed=⟨#[]⟩∧c.type=i.tname∧c.imp=false∧c.protect=i.protect) ∧
 ((i.has=false∧c.action=1∧c.reason=1∧c.createFirst=false∧c.id=⟨#[]⟩∧c.replace.length=0∧kdV c.before=0) ∨
  (i.has=true∧i.prior.tainted=true∧c.action=3∧c.reason=4∧c.createFirst=i.createFirst) ∨
  (i.has=true∧i.prior.tainted=false∧i.requested=true∧c.action=3∧c.reason=6∧c.createFirst=i.createFirst) ∨
  (i.has=true∧i.prior.tainted=false∧i.requested=false∧i.triggered=true∧c.action=3∧c.reason=5∧c.createFirst=i.createFirst) ∨
  (i.has=true∧i.prior.tainted=false∧i.requested=false∧i.triggered=false∧c.action=3∧c.reason=3∧c.createFirst=i.createFirst∧c.replace.length≠0∧c.id=i.prior.id) ∨
  (i.has=true∧i.prior.tainted=false∧i.requested=false∧i.triggered=false∧c.action=0∧c.reason=0∧c.createFirst=false∧c.replace.length=0) ∨
  (i.has=true∧i.prior.tainted=false∧i.requested=false∧i.triggered=false∧c.action=2∧c.reason=2∧c.createFirst=false∧c.replace.length=0∧c.id=i.prior.id))
theorem facts (i:Inp):Facts i (changeD i):=by
 rcases cases_of i with ⟨hh,af,h⟩ | ⟨hh,⟨ht,af,rp,h⟩ | ⟨ht,hq,af,rp,h⟩ | ⟨ht,hq,hg,af,rp,h⟩ | ⟨ht,hq,hg,af,rp,hr,h⟩ | ⟨ht,hq,hg,af,h⟩ | ⟨ht,hq,hg,af,h⟩⟩ <;> rw [h]
 ·exact ⟨⟨rfl,rfl,rfl,rfl,rfl⟩,.inl ⟨hh,rfl,rfl,rfl,rfl,rfl,rfl⟩⟩
 ·exact ⟨⟨rfl,rfl,rfl,rfl,rfl⟩,.inr (.inl ⟨hh,ht,rfl,rfl,rfl⟩)⟩
 ·exact ⟨⟨rfl,rfl,rfl,rfl,rfl⟩,.inr (.inr (.inl ⟨hh,ht,hq,rfl,rfl,rfl⟩))⟩
 ·exact ⟨⟨rfl,rfl,rfl,rfl,rfl⟩,.inr (.inr (.inr (.inl ⟨hh,ht,hq,hg,rfl,rfl,rfl⟩)))⟩
 ·exact ⟨⟨rfl,rfl,rfl,rfl,rfl⟩,.inr (.inr (.inr (.inr (.inl ⟨hh,ht,hq,hg,rfl,rfl,rfl,fun e=>hr (List.eq_nil_of_length_eq_zero e),rfl⟩))))⟩
 ·exact ⟨⟨rfl,rfl,rfl,rfl,rfl⟩,.inr (.inr (.inr (.inr (.inr (.inl ⟨hh,ht,hq,hg,rfl,rfl,rfl,rfl⟩)))))⟩
 ·exact ⟨⟨rfl,rfl,rfl,rfl,rfl⟩,.inr (.inr (.inr (.inr (.inr (.inr ⟨hh,ht,hq,hg,rfl,rfl,rfl,rfl,rfl⟩)))))⟩
theorem walk (w:World) (x:Value) (i:Inp) (hx:INV (fun _=>True) w x i):Calls Tryz.prog 5 #[x] w (Ret (.bool true) w):=by
 have hx0:=hx;obtain ⟨oa,ca,on,cn,kp,np,sp,oip,mip,cip,okp,mkp,ckp,od,cd,kc,nc,sc,oic,mic,cic,okc,mkc,ckc,og,cg,ot,mt,ct,oD,cD,rfl,-,-,-,-,-,-⟩:=hx;have hbo:=zaa (w:=w) (o:=.cells #[.string i.addr,.string i.tname,.slice oa i.sc.attrs.length ca,.slice on i.sc.nested.length cn,.int .i64 i.quota,.bool i.has,.string i.prior.addr,.string i.prior.deposed,.string i.prior.id,.string i.prior.type,.int .i64 kp,.int .i64 np,.string sp,.slice oip mip cip,.slice okp mkp ckp,.int .i64 i.prior.version,.bool i.prior.tainted,.bool i.prior.createFirst,.slice od i.prior.deps.length cd,.int .i64 kc,.int .i64 nc,.string sc,.slice oic mic cic,.slice okc mkc ckc,.bool i.createFirst,.bool i.protect,.slice og i.ignore.length cg,.slice ot mt ct,.bool i.triggered,.bool i.requested,.slice oD i.deps.length cD] 39);have hoo:=zhh w (.cells #[.string i.addr,.string i.tname,.slice oa i.sc.attrs.length ca,.slice on i.sc.nested.length cn,.int .i64 i.quota,.bool i.has,.string i.prior.addr,.string i.prior.deposed,.string i.prior.id,.string i.prior.type,.int .i64 kp,.int .i64 np,.string sp,.slice oip mip cip,.slice okp mkp ckp,.int .i64 i.prior.version,.bool i.prior.tainted,.bool i.prior.createFirst,.slice od i.prior.deps.length cd,.int .i64 kc,.int .i64 nc,.string sc,.slice oic mic cic,.slice okc mkc ckc,.bool i.createFirst,.bool i.protect,.slice og i.ignore.length cg,.slice ot mt ct,.bool i.triggered,.bool i.requested,.slice oD i.deps.length cD] 39)
 generalize hA:w.alloc (.cells #[.string i.addr,.string i.tname,.slice oa i.sc.attrs.length ca,.slice on i.sc.nested.length cn,.int .i64 i.quota,.bool i.has,.string i.prior.addr,.string i.prior.deposed,.string i.prior.id,.string i.prior.type,.int .i64 kp,.int .i64 np,.string sp,.slice oip mip cip,.slice okp mkp ckp,.int .i64 i.prior.version,.bool i.prior.tainted,.bool i.prior.createFirst,.slice od i.prior.deps.length cd,.int .i64 kc,.int .i64 nc,.string sc,.slice oic mic cic,.slice okc mkc ckc,.bool i.createFirst,.bool i.protect,.slice og i.ignore.length cg,.slice ot mt ct,.bool i.triggered,.bool i.requested,.slice oD i.deps.length cD] 39)=wa at *
 have HA:=hid hA;have HB:=hid hbo;have HXI:=hid hoo;have HIN:=hid (hx0.bel hbo);clear hA hbo hoo hx0
 go_enter Tryz.func5,Tryz.ntmps5
 go_upto_region 1 with (fail)
 rw [HA.out]
 go_wp2_with (refine wpList_load_row rfl 39 (.tmp 1) rfl w.heap.size rfl _ _ (0,0) _ HXI.out Tryz.underlying39 rfl (by kernel_rfl) ?_)
 refine (valI_any i _ wa _ HIN.out).mono ?_;rintro e w2 ⟨b,rfl,hv,hb2⟩;have HB2:=hid (HB.out.trans (hb2.mono HB.out.size));have HXI2:=hid (kO HXI.out hb2);have HIN2:=hid (HIN.out.bel hb2)
 cases b with
 | false =>
  clear hv hb2
  go_wp2_with fail
  refine (awake_any _).mono ?_;rintro e wz ⟨rfl,hb⟩;have HBZ:=hid ((HB2.out).trans (hb.mono (HB2.out).size));clear hb
  go_wp2_with fail
  go_ret;exact ⟨rfl,HBZ.out⟩
 | true =>
 have HV:=hid (hv rfl)
 have HCH:Hid (∀ w3,Below w2.heap.size w2 w3→Calls Tryz.prog 10 #[.agg #[.string i.addr,.string i.tname,.slice oa i.sc.attrs.length ca,.slice on i.sc.nested.length cn,.int .i64 i.quota,.bool i.has,.string i.prior.addr,.string i.prior.deposed,.string i.prior.id,.string i.prior.type,.int .i64 kp,.int .i64 np,.string sp,.slice oip mip cip,.slice okp mkp ckp,.int .i64 i.prior.version,.bool i.prior.tainted,.bool i.prior.createFirst,.slice od i.prior.deps.length cd,.int .i64 kc,.int .i64 nc,.string sc,.slice oic mic cic,.slice okc mkc ckc,.bool i.createFirst,.bool i.protect,.slice og i.ignore.length cg,.slice ot mt ct,.bool i.triggered,.bool i.requested,.slice oD i.deps.length cD]] w3 (FreshC (changeD i) w3)):=hid fun w3 hb=>change_any i _ w3 _ (HIN2.out.bel hb) HV.out.sm.inOk
 have HCS:=hid (facts i);generalize changeD i=c at HCH HCS;clear hv hb2 HXI HB HIN
 go_upto_region 3 with (fail)
 go_wp2_with (refine wpList_load_row rfl 39 (.tmp 1) rfl w.heap.size rfl _ _ (0,0) _ HXI2.out Tryz.underlying39 rfl (by kernel_rfl) ?_)
 refine (linput_any i _ w2 _ HIN2.out).mono ?_;rintro e w3 ⟨rfl,hb3⟩;have HB3:=hid (HB2.out.trans (hb3.mono HB2.out.size));have HXI3:=hid (kO HXI2.out hb3);have HCC:=hid (HCH.out w3 hb3);clear hb3 HCH
 go_wp2_with fail
 refine HCC.out.mono ?_;rintro e w4 ⟨u,rfl,hu,hb4⟩;obtain ⟨k1,n1,s1,oi1,mi1,ci1,ok1,mk1,ck1,k2,n2,s2,oi2,mi2,ci2,ok2,mk2,ck2,oR,cR,od1,cd1,oo,co,rfl,hVB,hVA,hSR,hSD,hSO⟩:=hu;have HK1:=hid hVB.kd.symm;have HB4:=hid (HB3.out.trans (hb4.mono HB3.out.size));have HXI4:=hid (kO HXI3.out hb4);clear hb4 hVB hVA hSR hSD hSO HCC HXI3;have e1:=zaa (w:=w4) (o:=zero22);have e2:=zhh w4 zero22
 generalize hg:w4.alloc zero22=wz at *
 obtain ⟨Y,hY⟩:∃ Y,w4.heap.size=Y:=⟨_,rfl⟩
 have hYW:w.heap.size + 1≤Y:=by have h1:=(aS HXI4.out).1;have h2:w.heap.size < w4.heap.size:=h1;omega
 rw [hY] at e2;have HG:=hid hg;have HY:=hid hY;have HBZ0:=hid (HB4.out.trans (e1.mono HB4.out.size));have HXIZ:=hid (kO HXI4.out e1);have HZ0:=hid e2;clear e1 e2 hg hY HXI4
 go_upto_region 4 with (rw [HG.out,HY.out];refine zo rfl 46 _ _ rfl Y 0 [_,_,_,_,_,_,_,_,_,_,_,_,_,_,_,_,_,_,_,_,_,_] rfl rfl _ _ HZ0.out (by simp) (by kernel_rfl) rfl ?_;intro w5 hz5 hc5)
 have HB5:=hid (HBZ0.out.trans (zgg hc5 (fun k hk=>by omega) HBZ0.out.size));have HO5:Hid (w5.heap[Y]? = some (.cells #[.string c.addr,.string c.deposed,.string c.type,.int .i64 c.action,.int .i64 c.reason,.int .i64 k1,.int .i64 n1,.string s1,.slice oi1 mi1 ci1,.slice ok1 mk1 ck1,.int .i64 k2,.int .i64 n2,.string s2,.slice oi2 mi2 ci2,.slice ok2 mk2 ck2,.string c.id,.slice oR c.replace.length cR,.bool c.createFirst,.bool c.protect,.bool c.imp,.slice od1 c.deps.length cd1,.slice oo c.oldDeps.length co] 46)):=hid hz5;have HXI5:=hid ((hc5.block _ (aS HXIZ.out).1 (by omega)).trans HXIZ.out);clear hz5 hc5 HXIZ HZ0;generalize (Value.agg #[.string i.addr,.string i.tname,.slice oa i.sc.attrs.length ca,.slice on i.sc.nested.length cn,.int .i64 i.quota,.bool i.has,.string i.prior.addr,.string i.prior.deposed,.string i.prior.id,.string i.prior.type,.int .i64 kp,.int .i64 np,.string sp,.slice oip mip cip,.slice okp mkp ckp,.int .i64 i.prior.version,.bool i.prior.tainted,.bool i.prior.createFirst,.slice od i.prior.deps.length cd,.int .i64 kc,.int .i64 nc,.string sc,.slice oic mic cic,.slice okc mkc ckc,.bool i.createFirst,.bool i.protect,.slice og i.ignore.length cg,.slice ot mt ct,.bool i.triggered,.bool i.requested,.slice oD i.deps.length cD])=vx
 generalize (Value.agg #[.string c.addr,.string c.deposed,.string c.type,.int .i64 c.action,.int .i64 c.reason,.int .i64 k1,.int .i64 n1,.string s1,.slice oi1 mi1 ci1,.slice ok1 mk1 ck1,.int .i64 k2,.int .i64 n2,.string s2,.slice oi2 mi2 ci2,.slice ok2 mk2 ck2,.string c.id,.slice oR c.replace.length cR,.bool c.createFirst,.bool c.protect,.bool c.imp,.slice od1 c.deps.length cd1,.slice oo c.oldDeps.length co])=vc;obtain ⟨x0,x1,x2,x3,x4,x5,x6,x7,x8,x9,x10,x11,x12,x13,x14,x15,x16,x17,x18,x19,x20,x21,x22,x23,x24,x25,x26,x27,x28,x29,x30⟩:=C31.of HXI5.out;clear x2 x3 x4 x6 x7 x9 x10 x11 x12 x13 x14 x15 x17 x18 x19 x20 x21 x22 x23 x26 x27 x30;obtain ⟨z0,z1,z2,z3,z4,z5,z6,z7,z8,z9,za,zb,zc,zd,ze,zf,zg,zh,zi,zj,zk,zl⟩:=C22.of HO5.out;clear z6 z7 z8 z9 za zb zc zd ze zk zl;clear HXI5 HO5 HA HG HY HV HIN2 HXI2;obtain ⟨⟨f1,f2,f3,f4,f5⟩,f6⟩:=HCS.out
 rw [f1] at z0;rw [f2] at z1;rw [f3] at z2;rw [f4] at zj;rw [f5] at zi;clear f1 f2 f3 f4 f5 HCS
 rcases f6 with ⟨hh,h3,h4,h5,hi,hl,hk⟩ | ⟨hh,ht,h3,h4,h5⟩ | ⟨hh,ht,hq,h3,h4,h5⟩ | ⟨hh,ht,hq,hg,h3,h4,h5⟩ | ⟨hh,ht,hq,hg,h3,h4,h5,hl,hi⟩ | ⟨hh,ht,hq,hg,h3,h4,h5,hl⟩ | ⟨hh,ht,hq,hg,h3,h4,h5,hl,hi⟩
 ·as_aux_lemma =>
  rw [hh] at x5;rw [h3] at z3;rw [h4] at z4;rw [h5] at zh;rw [hi] at zf;rw [hl] at zg;clear hh h3 h4 h5 hi hl;have hk1:k1=0:=HK1.out.trans hk;subst hk1;clear HK1 hk
  go_wp2_with fail
  refine (awake_any _).mono ?_;rintro e wz ⟨rfl,hb⟩;have HBZ:=hid ((HB5.out).trans (hb.mono (HB5.out).size));clear hb
  go_wp2_with fail
  go_ret;exact ⟨rfl,HBZ.out⟩
 ·as_aux_lemma =>
  rw [hh] at x5;rw [ht] at x16;rw [h3] at z3;rw [h4] at z4;rw [h5] at zh;clear hh ht h3 h4 h5
  go_wp2_with fail
  refine (awake_any _).mono ?_;rintro e wz ⟨rfl,hb⟩;have HBZ:=hid ((HB5.out).trans (hb.mono (HB5.out).size));clear hb
  go_wp2_with fail
  go_ret;exact ⟨rfl,HBZ.out⟩
 ·as_aux_lemma =>
  rw [hh] at x5;rw [ht] at x16;rw [hq] at x29;rw [h3] at z3;rw [h4] at z4;rw [h5] at zh;clear hh ht hq h3 h4 h5
  go_wp2_with fail
  refine (awake_any _).mono ?_;rintro e wz ⟨rfl,hb⟩;have HBZ:=hid ((HB5.out).trans (hb.mono (HB5.out).size));clear hb
  go_wp2_with fail
  go_ret;exact ⟨rfl,HBZ.out⟩
 ·as_aux_lemma =>
  rw [hh] at x5;rw [ht] at x16;rw [hq] at x29;rw [hg] at x28;rw [h3] at z3;rw [h4] at z4;rw [h5] at zh;clear hh ht hq hg h3 h4 h5
  go_wp2_with fail
  refine (awake_any _).mono ?_;rintro e wz ⟨rfl,hb⟩;have HBZ:=hid ((HB5.out).trans (hb.mono (HB5.out).size));clear hb
  go_wp2_with fail
  go_ret;exact ⟨rfl,HBZ.out⟩
 ·as_aux_lemma =>
  rw [hh] at x5;rw [ht] at x16;rw [hq] at x29;rw [hg] at x28;rw [h3] at z3;rw [h4] at z4;rw [h5] at zh;rw [hi] at zf;clear hh ht hq hg h3 h4 h5 hi;have hp1:0 < c.replace.length:=Nat.pos_of_ne_zero hl;have hp2:decide (0 < c.replace.length)=true:=dTT hp1;clear hl
  go_wp2_with fail
  refine (awake_any _).mono ?_;rintro e wz ⟨rfl,hb⟩;have HBZ:=hid ((HB5.out).trans (hb.mono (HB5.out).size));clear hb
  go_wp2_with fail
  go_ret;exact ⟨rfl,HBZ.out⟩
 ·as_aux_lemma =>
  rw [hh] at x5;rw [ht] at x16;rw [hq] at x29;rw [hg] at x28;rw [h3] at z3;rw [h4] at z4;rw [h5] at zh;rw [hl] at zg;clear hh ht hq hg h3 h4 h5 hl
  go_wp2_with fail
  refine (awake_any _).mono ?_;rintro e wz ⟨rfl,hb⟩;have HBZ:=hid ((HB5.out).trans (hb.mono (HB5.out).size));clear hb
  go_wp2_with fail
  go_ret;exact ⟨rfl,HBZ.out⟩
 ·as_aux_lemma =>
  rw [hh] at x5;rw [ht] at x16;rw [hq] at x29;rw [hg] at x28;rw [h3] at z3;rw [h4] at z4;rw [h5] at zh;rw [hl] at zg;rw [hi] at zf;clear hh ht hq hg h3 h4 h5 hl hi
  go_wp2_with fail
  refine (awake_any _).mono ?_;rintro e wz ⟨rfl,hb⟩;have HBZ:=hid ((HB5.out).trans (hb.mono (HB5.out).size));clear hb
  go_wp2_with fail
  go_ret;exact ⟨rfl,HBZ.out⟩
theorem readable:∀ t∈#[39].toList,Tryz.prog.readableRec t=true∧t < Tryz.prog.types.size:=by
 intro t ht;have ri:Tryz.prog.readableRec 39=true∧39 < Tryz.prog.types.size:=⟨by kernel_rfl,of_decide_eq_true (by kernel_rfl)⟩
 have hm:t=39:=by simpa using ht
 rw [hm];exact ri
theorem walkD {H:Type} (enc:TypeId × Value→H) (W:World) (base:Nat) (args:Array Value) (ds:List (DataW H)) (p:List MemPlace)
  (hval:∀ (j:Nat) t v,#[39][j]? = some t→args[j]? = some v→Value.okWide Tryz.prog W .any base t v)
  (hA:DataW.TrodAll enc Tryz.prog W 0 (fun _=>true) true #[39].toList args.toList ds p)
  (hws:∀ (j:Nat) t d,#[39].toList[j]? = some t→ds[j]? = some d→∀ n∈d.weights Tryz.prog t,n≤reachBytes) :
  (Calls Tryz.prog 5 args W fun e w'=>e=.returned (.bool true)∧Below W.heap.size W w') ∧
  ((Rows.diffReasonsSpec.fn H (ds ++ [])).results = [.lit (.bool true)]∧(Rows.diffReasonsSpec.fn H (ds ++ [])).args=ds∧(Rows.diffReasonsSpec.fn H (ds ++ [])).vars = []):=by
 obtain ⟨v0,vs0,d0,ds0,p0,q0,hargs,rfl,rfl,h0,r0⟩:=trodAll_cons hA;obtain ⟨rfl,rfl,rfl⟩:=trodAll_nil r0
 obtain rfl:args=#[v0]:=by cases args;simp_all
 obtain ⟨t0,w0⟩:=open_input (hval 0 _ v0 rfl rfl) h0 (hws 0 _ _ rfl rfl);exact ⟨walk W _ t0 w0,rfl,rfl,rfl⟩
theorem lifted (os:Os) (started:os.Started) (H:Type) (enc:TypeId × Value→H) :
  ReturnsInHanded {} Tryz.checked os 5 .any (Rows.diffReasonsSpec.pre6 enc Tryz.prog Tryz.f5 Rows.diffReasonsRow.domain false) (Rows.diffReasonsSpec.post enc Tryz.prog Tryz.f5 false true false false):=by
 refine returnsInHanded_of_change_sized (C:=Tryz.checked) own started (by kernel_rfl) Tryz.func5
  (ChangeSpec.witness6 (enc:=enc) (C:=Tryz.checked) false ⟨#[],#[.agg #[.string ⟨#[]⟩,.string ⟨#[]⟩,.slice none 0 0,.slice none 0 0,.int .i64 0,.bool false,.string ⟨#[]⟩,.string ⟨#[]⟩,.string ⟨#[]⟩,.string ⟨#[]⟩,.int .i64 0,.int .i64 0,.string ⟨#[]⟩,.slice none 0 0,.slice none 0 0,.int .i64 0,.bool false,.bool false,.slice none 0 0,.int .i64 0,.int .i64 0,.string ⟨#[]⟩,.slice none 0 0,.slice none 0 0,.bool false,.bool false,.slice none 0 0,.slice none 0 0,.bool false,.bool false,.slice none 0 0]],[]⟩ 8 (by kernel_rfl) (by kernel_rfl) (by kernel_rfl) (by kernel_rfl)) ?_
 intro W base args ds gs before hval0 hW _ hsz _;have hW':=hW;obtain ⟨p,q,hA,hV,_,_,_⟩:=hW;obtain ⟨rfl,rfl⟩:=trodVars_none hV;rw [Tryz.params5] at hA hval0 hsz
 have hws:∀ (j:Nat) t d,#[39].toList[j]? = some t→ds[j]? = some d→∀ n∈d.weights Tryz.prog t,n≤reachBytes:=fun j t d h1 h2 n hn=>by
  have hj1:=(List.getElem?_eq_some_iff.1 h1).1;have hj2:=(List.getElem?_eq_some_iff.1 h2).1;have:=List.all_eq_true.1 hsz _ (DataW.weights_mem_each (j:=j) (by rw [List.getElem?_append_left hj1];exact h1) (by rw [List.getElem?_append_left hj2];exact h2) n hn);simpa using this
 obtain ⟨hcall,hds⟩:=walkD enc W base args ds p hval0 hA hws
 exact hcall.mono fun e W' ⟨he,hb⟩=>⟨_,he,law_post hW' rfl (by rw [Tryz.params5];exact readable) rfl hds hb⟩
theorem proved:Rows.DiffReasonsSaid :=
 OpenClaim.holds_of_wide 5 Tryz.f5 rfl rfl rfl rfl rfl rfl rfl ⟨rfl,rfl,rfl,rfl,rfl⟩ rfl rfl rfl rfl rfl (by kernel_rfl) Tryz.func5 (by kernel_rfl)
  (of_decide_eq_true (by kernel_rfl)) (by unfold Func.isWrapper;first | (rw [if_pos (by decide +kernel)];kernel_rfl) | (rw [if_neg (by decide +kernel)];exact ⟨rfl,rfl⟩))
  (fun os started H enc _=>lifted os started H enc)
#print axioms proved
end Go.Proofs.YtibiiafcnaijeaaGreat.diffReasons
#print axioms Go.Proofs.YtibiiafcnaijeaaGreat.diffReasons.proved
