/- The statement DiffMinimal holds of the given program for every input. -/
import Derived.Test.YtibiiafcnaijeaaGreatB00
import Derived.Test.YtibiiafcnaijeaaGreatE00
import Derived.Test.YtibiiafcnaijeaaGreatEAcc
namespace Go.Proofs.YtibiiafcnaijeaaGreat.diffMinimal
set_option maxRecDepth 100000
set_option maxHeartbeats 40000000
open Go Go.ChangeShapes Go.WideShapes Go.ChangeAt Go.RowKit Go.Proofs.YtibiiafcnaijeaaGreat.Steady
set_option linter.unusedVariables false
set_option linter.unusedSimpArgs false
def MinF (i:Inp) (c:Chg'):Prop:=i.has=true∧i.prior.tainted=false∧i.requested=false∧i.triggered=false →
 (differsD i=false∧c.action=0∧c.after=i.prior.attrs)∨(differsD i=true∧c.action≠0)
theorem minF {i:Inp} (h:ValN i):MinF i (changeD i):=fun ⟨hh,ht,hq,hg⟩=>by
 obtain ⟨m1,m2⟩:=h.min hh ht hq hg
 cases hd:differsD i with
 | false=>exact .inl ⟨rfl,m1.2 hd,(m2 (m1.2 hd)).1⟩
 | true=>exact .inr ⟨rfl,fun e=>by rw [m1.1 e] at hd;cases hd⟩
theorem walk (w:World) (x u:Value) (i:Inp) (f:Vl) (hx:INV (fun _=>True) w x i) (hu:VV (fun _=>True) w u f):Calls Tryz.prog 4 #[x,u] w (Ret (.bool true) w):=by
 have HX0:=hid hx;obtain ⟨oa,ca,on,cn,kp,np,sp,oip,mip,cip,okp,mkp,ckp,od,cd,kc,nc,sc,oic,mic,cic,okc,mkc,ckc,og,cg,ot,mt,ct,oD,cD,rfl,hSC,hVP,hSD,hVC,hSG,hSS⟩:=hx;obtain ⟨k3,n3,s3,oi3,mi3,ci3,ok3,mk3,ck3,rfl⟩:=hu.agg5;have HN0:Hid (INV (fun _=>True) w (.agg #[.string i.addr,.string i.tname,.slice oa i.sc.attrs.length ca,.slice on i.sc.nested.length cn,.int .i64 i.quota,.bool true,.string i.addr,.string ⟨#[]⟩,.string ⟨#[110,101,119]⟩,.string i.tname,.int .i64 k3,.int .i64 n3,.string s3,.slice oi3 mi3 ci3,.slice ok3 mk3 ck3,.int .i64 1,.bool false,.bool false,.slice none 0 0,.int .i64 kc,.int .i64 nc,.string sc,.slice oic mic cic,.slice okc mkc ckc,.bool i.createFirst,.bool i.protect,.slice og i.ignore.length cg,.slice ot mt ct,.bool false,.bool false,.slice oD i.deps.length cD]) (nextI i f)):=hid ⟨oa,ca,on,cn,k3,n3,s3,oi3,mi3,ci3,ok3,mk3,ck3,none,0,kc,nc,sc,oic,mic,cic,okc,mkc,ckc,og,cg,ot,mt,ct,oD,cD,rfl,hSC,hu,⟨⟨by simp [nextI],.inl ⟨rfl,_,_,rfl⟩⟩,fun s h=>by cases h⟩,hVC,hSG,hSS⟩
 have HXP:Hid (INV (fun g=>True∧g < w.heap.size) w (.agg #[.string i.addr,.string i.tname,.slice oa i.sc.attrs.length ca,.slice on i.sc.nested.length cn,.int .i64 i.quota,.bool i.has,.string i.prior.addr,.string i.prior.deposed,.string i.prior.id,.string i.prior.type,.int .i64 kp,.int .i64 np,.string sp,.slice oip mip cip,.slice okp mkp ckp,.int .i64 i.prior.version,.bool i.prior.tainted,.bool i.prior.createFirst,.slice od i.prior.deps.length cd,.int .i64 kc,.int .i64 nc,.string sc,.slice oic mic cic,.slice okc mkc ckc,.bool i.createFirst,.bool i.protect,.slice og i.ignore.length cg,.slice ot mt ct,.bool i.triggered,.bool i.requested,.slice oD i.deps.length cD]) i):=hid ⟨oa,ca,on,cn,kp,np,sp,oip,mip,cip,okp,mkp,ckp,od,cd,kc,nc,sc,oic,mic,cic,okc,mkc,ckc,og,cg,ot,mt,ct,oD,cD,rfl,⟨hSC.1.ex,hSC.2.ex⟩,hVP.ex,hSD.ex,hVC.ex,hSG.ex,hSS.ex⟩
 have HU:=hid hu;have HSC:=hid hSC;have HVC:=hid hVC;have HVP:=hid hVP;generalize hA:w.alloc (.cells #[.string i.addr,.string i.tname,.slice oa i.sc.attrs.length ca,.slice on i.sc.nested.length cn,.int .i64 i.quota,.bool i.has,.string i.prior.addr,.string i.prior.deposed,.string i.prior.id,.string i.prior.type,.int .i64 kp,.int .i64 np,.string sp,.slice oip mip cip,.slice okp mkp ckp,.int .i64 i.prior.version,.bool i.prior.tainted,.bool i.prior.createFirst,.slice od i.prior.deps.length cd,.int .i64 kc,.int .i64 nc,.string sc,.slice oic mic cic,.slice okc mkc ckc,.bool i.createFirst,.bool i.protect,.slice og i.ignore.length cg,.slice ot mt ct,.bool i.triggered,.bool i.requested,.slice oD i.deps.length cD] 39)=wa
 have a1:Below w.heap.size w wa:=by rw [← hA];exact zaa
 have a2:wa.heap[w.heap.size]? = some (.cells #[.string i.addr,.string i.tname,.slice oa i.sc.attrs.length ca,.slice on i.sc.nested.length cn,.int .i64 i.quota,.bool i.has,.string i.prior.addr,.string i.prior.deposed,.string i.prior.id,.string i.prior.type,.int .i64 kp,.int .i64 np,.string sp,.slice oip mip cip,.slice okp mkp ckp,.int .i64 i.prior.version,.bool i.prior.tainted,.bool i.prior.createFirst,.slice od i.prior.deps.length cd,.int .i64 kc,.int .i64 nc,.string sc,.slice oic mic cic,.slice okc mkc ckc,.bool i.createFirst,.bool i.protect,.slice og i.ignore.length cg,.slice ot mt ct,.bool i.triggered,.bool i.requested,.slice oD i.deps.length cD] 39):=by rw [← hA];exact zhh w _
 have a3:wa.heap.size=w.heap.size + 1:=by rw [← hA];simp
 generalize hB:wa.alloc (.cells #[.int .i64 k3,.int .i64 n3,.string s3,.slice oi3 mi3 ci3,.slice ok3 mk3 ck3] 32)=wb
 have b1:Below wa.heap.size wa wb:=by rw [← hB];exact zaa
 have b2:wb.heap[w.heap.size + 1]? = some (.cells #[.int .i64 k3,.int .i64 n3,.string s3,.slice oi3 mi3 ci3,.slice ok3 mk3 ck3] 32):=by rw [← hB,← a3];exact zhh wa _
 have b3:wb.heap.size=w.heap.size + 2:=by rw [← hB];simp [a3]
 have HA:=hid hA;have HBB:=hid hB;have HB1:=hid (a1.trans (b1.mono a1.size));have HX1:=hid (kO a2 b1);have HU1:=hid b2;have HS1:=hid (Nat.le_of_eq b3.symm);clear hA hB a1 a2 a3 b1 b2 b3 hSC hVP hSD hVC hSG hSS hu
 go_enter Tryz.func4,Tryz.ntmps4
 go_upto_region 1 with (fail)
 rw [HA.out,HBB.out]
 go_wp2_with (refine wpList_load_row rfl 39 (.tmp 2) rfl (w.heap.size) rfl _ _ (0,0) _ HX1.out Tryz.underlying39 rfl (by kernel_rfl) ?_)
 refine (valI_any i _ wb _ (HX0.out.bel HB1.out)).mono ?_;rintro e w2 ⟨b,rfl,hv,hb2⟩;have HB2:=hid (HB1.out.trans (hb2.mono HB1.out.size));have HX2:=hid (kO HX1.out hb2);have HU2:=hid (kO HU1.out hb2);have HS2:=hid (Nat.le_trans HS1.out hb2.size);have HV:=hid hv;clear hv hb2 HX1 HU1 HS1
 cases b with
 | false =>
  go_wp2_with fail
  refine (awake_any _).mono ?_;rintro e wz ⟨rfl,hb⟩;have HBZ:=hid ((HB2.out).trans (hb.mono (HB2.out).size));clear hb
  go_wp2_with fail
  go_ret;exact ⟨rfl,HBZ.out⟩
 | true =>
 have HVI:=hid (HV.out rfl);clear HV;obtain ⟨u0,u1,u2,u3,u4⟩:=C5.of HU2.out;have HSMALL:=hid (smallV_any _ w2 _ f (HU.out.bel HB2.out) 300 (by decide) (by decide))
 cases hs:smallVB f 300 with
 | false =>
  rw [hs] at HSMALL;clear hs
  go_wp2_with fail
  refine HSMALL.out.mono ?_;rintro e w3 ⟨rfl,hb3⟩;have HB3:=hid (HB2.out.trans (hb3.mono HB2.out.size));clear hb3
  go_wp2_with fail
  refine (awake_any _).mono ?_;rintro e wz ⟨rfl,hb⟩;have HBZ:=hid ((HB3.out).trans (hb.mono (HB3.out).size));clear hb
  go_wp2_with fail
  go_ret;exact ⟨rfl,HBZ.out⟩
 | true =>
 rw [hs] at HSMALL;have HSZ:=hid (smallV_facts (n:=300) hs);clear hs
 go_wp2_with fail
 refine HSMALL.out.mono ?_;rintro e w3 ⟨rfl,hb3⟩;have HB3:=hid (HB2.out.trans (hb3.mono HB2.out.size));have HX3:=hid (kO HX2.out hb3);have HU3:=hid (kO HU2.out hb3);have HS3:=hid (Nat.le_trans HS2.out hb3.size);clear hb3 u0 u1 u2 u3 u4 HX2 HU2 HS2 HSMALL
 have HCH:Hid (∀ w',Below w.heap.size w w'→Calls Tryz.prog 10 #[.agg #[.string i.addr,.string i.tname,.slice oa i.sc.attrs.length ca,.slice on i.sc.nested.length cn,.int .i64 i.quota,.bool i.has,.string i.prior.addr,.string i.prior.deposed,.string i.prior.id,.string i.prior.type,.int .i64 kp,.int .i64 np,.string sp,.slice oip mip cip,.slice okp mkp ckp,.int .i64 i.prior.version,.bool i.prior.tainted,.bool i.prior.createFirst,.slice od i.prior.deps.length cd,.int .i64 kc,.int .i64 nc,.string sc,.slice oic mic cic,.slice okc mkc ckc,.bool i.createFirst,.bool i.protect,.slice og i.ignore.length cg,.slice ot mt ct,.bool i.triggered,.bool i.requested,.slice oD i.deps.length cD]] w' (FreshC (changeD i) w')):=hid fun w' hb=>change_any i _ w' _ (HX0.out.bel hb) HVI.out.sm.inOk
 have HCN:Hid (∀ w',Below w.heap.size w w'→Calls Tryz.prog 10 #[.agg #[.string i.addr,.string i.tname,.slice oa i.sc.attrs.length ca,.slice on i.sc.nested.length cn,.int .i64 i.quota,.bool true,.string i.addr,.string ⟨#[]⟩,.string ⟨#[110,101,119]⟩,.string i.tname,.int .i64 k3,.int .i64 n3,.string s3,.slice oi3 mi3 ci3,.slice ok3 mk3 ck3,.int .i64 1,.bool false,.bool false,.slice none 0 0,.int .i64 kc,.int .i64 nc,.string sc,.slice oic mic cic,.slice okc mkc ckc,.bool i.createFirst,.bool i.protect,.slice og i.ignore.length cg,.slice ot mt ct,.bool false,.bool false,.slice oD i.deps.length cD]] w' (FreshC (changeD (nextI i f)) w')):=hid fun w' hb=>change_any (nextI i f) _ w' _ (HN0.out.bel hb) (by
  obtain ⟨h1,h2,h3,h4,h5,h6,h7,h8,h9,h10⟩:=HVI.out.sm.inOk
  exact ⟨h1,h2,h3,HSZ.out.1,HSZ.out.2,h6,h7,h8,h9,by simp [nextI]⟩)
 have HMF:=hid (minF HVI.out.names)
 have HNF:Hid (knownV i.cnfg=true→VOk f∧knownV f=true∧fitsT f (typR i.sc)=true∧refV f (changeD i).after=true→(changeD (nextI i f)).action=0∧(changeD (nextI i f)).reason=0∧(changeD (nextI i f)).after=f):=hid fun hc ⟨h1,h2,h3,h4⟩=>HVI.out.names.next HVI.out.scf.names hc h1 h2 h3 h4
 generalize changeD i=c at HCH HMF HNF;generalize changeD (nextI i f)=d at HCN HNF
 go_upto_region 3 with (fail)
 go_wp2_with (refine wpList_load_row rfl 39 (.tmp 2) rfl (w.heap.size) rfl _ _ (0,0) _ HX3.out Tryz.underlying39 rfl (by kernel_rfl) ?_)
 refine (linput_any i _ w3 _ (HX0.out.bel HB3.out)).mono ?_;rintro e w4 ⟨rfl,hb4⟩;have HB4:=hid (HB3.out.trans (hb4.mono HB3.out.size));have HX4:=hid (kO HX3.out hb4);have HU4:=hid (kO HU3.out hb4);have HS4:=hid (Nat.le_trans HS3.out hb4.size);have HCC:=hid (HCH.out w4 HB4.out);clear hb4 HCH HX3 HU3 HS3
 go_wp2_with fail
 refine HCC.out.mono ?_;rintro e w5 ⟨q,rfl,hq,hb5⟩;obtain ⟨k1,n1,s1,oi1,mi1,ci1,ok1,mk1,ck1,k2,n2,s2,oi2,mi2,ci2,ok2,mk2,ck2,oR,cR,od1,cd1,oo,co,rfl,hVB,hVA,hSR,hSD,hSO⟩:=hq;have HVA:=hid hVA;have HB5:=hid (HB4.out.trans (hb5.mono HB4.out.size));have HX5:=hid (kO HX4.out hb5);have HU5:=hid (kO HU4.out hb5);have HS5:=hid (Nat.le_trans HS4.out hb5.size);clear hb5 hVB hVA hSR hSD hSO HCC HX4 HU4 HS4;have e1:=zaa (w:=w5) (o:=zero22);have e2:=zhh w5 zero22
 generalize hg:w5.alloc zero22=wz at *
 obtain ⟨Y,hY⟩:∃ Y,w5.heap.size=Y:=⟨_,rfl⟩;rw [hY] at e2;have hYW:w.heap.size + 2≤Y:=hY ▸ HS5.out;have HG:=hid hg;have HY:=hid hY;have HBZ0:=hid (HB5.out.trans (e1.mono HB5.out.size));have HXZ:=hid (kO HX5.out e1);have HUZ:=hid (kO HU5.out e1);have HZ0:=hid e2;have HVAZ:=hid ((HVA.out.ex).bel e1);clear e1 e2 hg hY HX5 HU5 HVA HS5
 go_upto_region 4 with (rw [HG.out,HY.out];refine zo rfl 46 _ _ rfl Y 0 [_,_,_,_,_,_,_,_,_,_,_,_,_,_,_,_,_,_,_,_,_,_] rfl rfl _ _ HZ0.out (by simp) (by kernel_rfl) rfl ?_;intro wc0 hzc hcc)
 have HB6:=hid (HBZ0.out.trans (zgg hcc (fun k hk=>by omega) HBZ0.out.size));have HO6:Hid (wc0.heap[Y]? = some (.cells #[.string c.addr,.string c.deposed,.string c.type,.int .i64 c.action,.int .i64 c.reason,.int .i64 k1,.int .i64 n1,.string s1,.slice oi1 mi1 ci1,.slice ok1 mk1 ck1,.int .i64 k2,.int .i64 n2,.string s2,.slice oi2 mi2 ci2,.slice ok2 mk2 ck2,.string c.id,.slice oR c.replace.length cR,.bool c.createFirst,.bool c.protect,.bool c.imp,.slice od1 c.deps.length cd1,.slice oo c.oldDeps.length co] 46)):=hid hzc;have HX6:=hid ((hcc.block _ (aS HXZ.out).1 (by omega)).trans HXZ.out);have HU6:=hid ((hcc.block _ (aS HUZ.out).1 (by omega)).trans HUZ.out);have HVA6:=hid (HVAZ.out.keep (ZK.chg hcc fun g hg e=>by have h1:=hg.2;rw [HY.out] at h1;omega) fun g hg=>hg);clear hzc hcc HXZ HUZ HZ0 HVAZ;simp only [Act.put];generalize (Value.agg #[.string i.addr,.string i.tname,.slice oa i.sc.attrs.length ca,.slice on i.sc.nested.length cn,.int .i64 i.quota,.bool i.has,.string i.prior.addr,.string i.prior.deposed,.string i.prior.id,.string i.prior.type,.int .i64 kp,.int .i64 np,.string sp,.slice oip mip cip,.slice okp mkp ckp,.int .i64 i.prior.version,.bool i.prior.tainted,.bool i.prior.createFirst,.slice od i.prior.deps.length cd,.int .i64 kc,.int .i64 nc,.string sc,.slice oic mic cic,.slice okc mkc ckc,.bool i.createFirst,.bool i.protect,.slice og i.ignore.length cg,.slice ot mt ct,.bool i.triggered,.bool i.requested,.slice oD i.deps.length cD])=vx
 generalize (Value.agg #[.string c.addr,.string c.deposed,.string c.type,.int .i64 c.action,.int .i64 c.reason,.int .i64 k1,.int .i64 n1,.string s1,.slice oi1 mi1 ci1,.slice ok1 mk1 ck1,.int .i64 k2,.int .i64 n2,.string s2,.slice oi2 mi2 ci2,.slice ok2 mk2 ck2,.string c.id,.slice oR c.replace.length cR,.bool c.createFirst,.bool c.protect,.bool c.imp,.slice od1 c.deps.length cd1,.slice oo c.oldDeps.length co])=vc;obtain ⟨w6,rfl⟩:∃ v,v=wc0:=⟨_,rfl⟩;have x5:=(cII HX6.out 5).trans rfl;have x16:=(cII HX6.out 16).trans rfl;have x28:=(cII HX6.out 28).trans rfl;have x29:=(cII HX6.out 29).trans rfl
 go_cut [37] (fun q wx=>∃ b:Bool,q=.bool b∧Hid (b=true→i.has=true∧i.prior.tainted=false∧i.requested=false∧i.triggered=false)∧w6=wx)
 case first =>
  cases hh:i.has with
  | false =>
   rw [hh] at x5;clear hh
   go_wp2_with fail
   go_meet;exact ⟨false,rfl,hid nF,rfl⟩
  | true =>
  rw [hh] at x5;have HH1:=hid hh;clear hh
  cases ht:i.prior.tainted with
  | true =>
   rw [ht] at x16;clear ht
   go_wp2_with fail
   go_meet;exact ⟨false,rfl,hid nF,rfl⟩
  | false =>
  rw [ht] at x16;have HH2:=hid ht;clear ht
  cases hq:i.requested with
  | true =>
   rw [hq] at x29;clear hq
   go_wp2_with fail
   go_meet;exact ⟨false,rfl,hid nF,rfl⟩
  | false =>
  rw [hq] at x29;have HH3:=hid hq;clear hq
  cases hg:i.triggered with
  | true =>
   rw [hg] at x28;clear hg
   go_wp2_with fail
   go_meet;exact ⟨false,rfl,hid nF,rfl⟩
  | false =>
   rw [hg] at x28;have HH4:=hid hg;clear hg
   go_wp2_with fail
   go_meet;exact ⟨true,rfl,hid fun _=>⟨HH1.out,HH2.out,HH3.out,HH4.out⟩,rfl⟩
 case rest =>
 obtain ⟨b,rfl,HQ,rfl⟩:=hcut;clear x5 x16 x28 x29
 go_upto_if 37 with (fail)
 go_cut [57] (fun _ wx=>Hid (Below w6.heap.size w6 wx))
 case first =>
  cases b with
  | false =>
   go_wp2_with fail
   go_meet;exact hid (Below.refl _ _)
  | true =>
  obtain ⟨q1,q2,q3,q4⟩:=HQ.out rfl;have HHH:=hid q1;have HMM:=hid (HMF.out ⟨q1,q2,q3,q4⟩);clear q1 q2 q3 q4;obtain ⟨x0,x1,x2,x3,x4,x5,x6,x7,x8,x9,x10,x11,x12,x13,x14,x15,x16,x17,x18,x19,x20,x21,x22,x23,x24,x25,x26,x27,x28,x29,x30⟩:=C31.of HX6.out;clear x0 x1 x2 x3 x4 x5 x6 x7 x8 x9 x15 x16 x17 x18 x19 x20 x21 x22 x23 x24 x25 x26 x27 x28 x29 x30;obtain ⟨z0,z1,z2,z3,z4,z5,z6,z7,z8,z9,za,zb,zc,zd,ze,zf,zg,zh,zi,zj,zk,zl⟩:=C22.of HO6.out;clear z0 z1 z2 z4 z5 z6 z7 z8 z9 zf zg zh zi zj zk zl;have HBD:=hid (show Below w6.heap.size w6 w6.drew from zdd (Below.refl _ _));have hc:w6.drew.heap[w.heap.size]? = some (.cells #[.string i.addr,.string i.tname,.slice oa i.sc.attrs.length ca,.slice on i.sc.nested.length cn,.int .i64 i.quota,.bool i.has,.string i.prior.addr,.string i.prior.deposed,.string i.prior.id,.string i.prior.type,.int .i64 kp,.int .i64 np,.string sp,.slice oip mip cip,.slice okp mkp ckp,.int .i64 i.prior.version,.bool i.prior.tainted,.bool i.prior.createFirst,.slice od i.prior.deps.length cd,.int .i64 kc,.int .i64 nc,.string sc,.slice oic mic cic,.slice okc mkc ckc,.bool i.createFirst,.bool i.protect,.slice og i.ignore.length cg,.slice ot mt ct,.bool i.triggered,.bool i.requested,.slice oD i.deps.length cD] 39)∧CL [(w.heap.size,10,.int .i64 kp),(w.heap.size,11,.int .i64 np),(w.heap.size,12,.string sp),(w.heap.size,13,.slice oip mip cip),(w.heap.size,14,.slice okp mkp ckp),(Y,3,.int .i64 c.action),(Y,10,.int .i64 k2),(Y,11,.int .i64 n2),(Y,12,.string s2),(Y,13,.slice oi2 mi2 ci2),(Y,14,.slice ok2 mk2 ck2)] w6.drew:=⟨HX6.out,CL.bel (show CL _ w6 from ⟨x10,x11,x12,x13,x14,z3,za,zb,zc,zd,ze,trivial⟩) (zdd (Below.refl _ _))⟩
  clear x10 x11 x12 x13 x14 z3 za zb zc zd ze;have HDI:=hid (differs_any i _ w6.drew _ (HXP.out.bel (zdd HB6.out)) (fun g hg=>Nat.lt_of_lt_of_le hg.2 HB6.out.size) HVI.out.names HHH.out)
  rcases HMM.out with ⟨m1,m2,m3⟩ | ⟨m1,m2⟩
  ·rw [m1] at HDI
   have HEQ:=hid (show eqV c.after i.prior.attrs=true by rw [m3];exact eqV_refl _);obtain ⟨a0a,a0b,a0c⟩:=tT m2;clear m1 m2 m3 HMM
   go_upto_region 5 with (fail)
   refine zss (fun v=>v.heap[w.heap.size]? = some (.cells #[.string i.addr,.string i.tname,.slice oa i.sc.attrs.length ca,.slice on i.sc.nested.length cn,.int .i64 i.quota,.bool i.has,.string i.prior.addr,.string i.prior.deposed,.string i.prior.id,.string i.prior.type,.int .i64 kp,.int .i64 np,.string sp,.slice oip mip cip,.slice okp mkp ckp,.int .i64 i.prior.version,.bool i.prior.tainted,.bool i.prior.createFirst,.slice od i.prior.deps.length cd,.int .i64 kc,.int .i64 nc,.string sc,.slice oic mic cic,.slice okc mkc ckc,.bool i.createFirst,.bool i.protect,.slice og i.ignore.length cg,.slice ot mt ct,.bool i.triggered,.bool i.requested,.slice oD i.deps.length cD] 39)∧CL [(w.heap.size,10,.int .i64 kp),(w.heap.size,11,.int .i64 np),(w.heap.size,12,.string sp),(w.heap.size,13,.slice oip mip cip),(w.heap.size,14,.slice okp mkp ckp),(Y,3,.int .i64 c.action),(Y,10,.int .i64 k2),(Y,11,.int .i64 n2),(Y,12,.string s2),(Y,13,.slice oi2 mi2 ci2),(Y,14,.slice ok2 mk2 ck2)] v) (by kernel_rfl) (by kernel_rfl) hc ?_
   repeat ((first
    | (refine wpSteady_skip (by rfl) ?_)
    | (refine zll (by rfl) 39 (.tmp 2) rfl (w.heap.size) rfl _ _ (0,0) _ (fun v hv=>hv.1) Tryz.underlying39 rfl (by kernel_rfl) ?_)
    | (refine wpSteady_calm (v:=?_) (by rfl) ?_ ?_;rotate_left;(focus (intro v hSv;replace hSv:=hSv.2;(try simp only [CL] at hSv);go_simp;(try with_reducible rfl);done))));try simp only [Act.put,sA,sZ,sS])
   refine wpSteady_loud rfl (by rfl) (fun K hK=>?_)
   go_simp
   refine (HDI.out).mono ?_;rintro e w6' ⟨rfl,hb⟩;have HB6':=hid ((HBD.out).trans (hb.mono (HBD.out).size));refine hK.out _ _ ⟨kO hc.1 hb,CL.bel hc.2 hb⟩ ?_;replace hc:=And.intro (kO hc.1 hb) (CL.bel hc.2 hb);clear hb hK K
   try simp only [Act.put,sA,sZ,sS]
   have HC2:=hid (requal_any c.after i.prior.attrs _ _ w6' _ _ (HVA6.out.bel HB6'.out) (HVP.out.bel (HB6.out.trans (HB6'.out.mono HB6.out.size))));rw [HEQ.out] at HC2
   repeat ((first
    | (refine wpSteady_skip (by rfl) ?_)
    | (refine zll (by rfl) 39 (.tmp 2) rfl (w.heap.size) rfl _ _ (0,0) _ (fun v hv=>hv.1) Tryz.underlying39 rfl (by kernel_rfl) ?_)
    | (refine wpSteady_calm (v:=?_) (by rfl) ?_ ?_;rotate_left;(focus (intro v hSv;replace hSv:=hSv.2;(try simp only [CL] at hSv);go_simp;(try with_reducible rfl);done))));try simp only [Act.put,sA,sZ,sS])
   refine wpSteady_loud rfl (by rfl) (fun K hK=>?_)
   go_simp
   refine (HC2.out).mono ?_;rintro e w7 ⟨rfl,hb⟩;have HB7:=hid ((HB6'.out).trans (hb.mono (HB6'.out).size));refine hK.out _ _ ⟨kO hc.1 hb,CL.bel hc.2 hb⟩ ?_;replace hc:=And.intro (kO hc.1 hb) (CL.bel hc.2 hb);clear hb hK K
   try simp only [Act.put,sA,sZ,sS]
   repeat ((first
    | (refine wpSteady_skip (by rfl) ?_)
    | (refine zll (by rfl) 39 (.tmp 2) rfl (w.heap.size) rfl _ _ (0,0) _ (fun v hv=>hv.1) Tryz.underlying39 rfl (by kernel_rfl) ?_)
    | (refine wpSteady_calm (v:=?_) (by rfl) ?_ ?_;rotate_left;(focus (intro v hSv;replace hSv:=hSv.2;(try simp only [CL] at hSv);go_simp;(try with_reducible rfl);done))));try simp only [Act.put,sA,sZ,sS])
   refine zn ?_;clear hc
   go_wp2_with fail
   go_meet;exact hid HB7.out
  ·rw [m1] at HDI
   obtain ⟨a0a,a0b,a0c⟩:=tF m2;clear m1 m2 HMM
   go_upto_region 5 with (fail)
   refine zss (fun v=>v.heap[w.heap.size]? = some (.cells #[.string i.addr,.string i.tname,.slice oa i.sc.attrs.length ca,.slice on i.sc.nested.length cn,.int .i64 i.quota,.bool i.has,.string i.prior.addr,.string i.prior.deposed,.string i.prior.id,.string i.prior.type,.int .i64 kp,.int .i64 np,.string sp,.slice oip mip cip,.slice okp mkp ckp,.int .i64 i.prior.version,.bool i.prior.tainted,.bool i.prior.createFirst,.slice od i.prior.deps.length cd,.int .i64 kc,.int .i64 nc,.string sc,.slice oic mic cic,.slice okc mkc ckc,.bool i.createFirst,.bool i.protect,.slice og i.ignore.length cg,.slice ot mt ct,.bool i.triggered,.bool i.requested,.slice oD i.deps.length cD] 39)∧CL [(w.heap.size,10,.int .i64 kp),(w.heap.size,11,.int .i64 np),(w.heap.size,12,.string sp),(w.heap.size,13,.slice oip mip cip),(w.heap.size,14,.slice okp mkp ckp),(Y,3,.int .i64 c.action),(Y,10,.int .i64 k2),(Y,11,.int .i64 n2),(Y,12,.string s2),(Y,13,.slice oi2 mi2 ci2),(Y,14,.slice ok2 mk2 ck2)] v) (by kernel_rfl) (by kernel_rfl) hc ?_
   repeat ((first
    | (refine wpSteady_skip (by rfl) ?_)
    | (refine zll (by rfl) 39 (.tmp 2) rfl (w.heap.size) rfl _ _ (0,0) _ (fun v hv=>hv.1) Tryz.underlying39 rfl (by kernel_rfl) ?_)
    | (refine wpSteady_calm (v:=?_) (by rfl) ?_ ?_;rotate_left;(focus (intro v hSv;replace hSv:=hSv.2;(try simp only [CL] at hSv);go_simp;(try with_reducible rfl);done))));try simp only [Act.put,sA,sZ,sS])
   refine wpSteady_loud rfl (by rfl) (fun K hK=>?_)
   go_simp
   refine (HDI.out).mono ?_;rintro e w6' ⟨rfl,hb⟩;have HB6':=hid ((HBD.out).trans (hb.mono (HBD.out).size));refine hK.out _ _ ⟨kO hc.1 hb,CL.bel hc.2 hb⟩ ?_;replace hc:=And.intro (kO hc.1 hb) (CL.bel hc.2 hb);clear hb hK K
   try simp only [Act.put,sA,sZ,sS]
   repeat ((first
    | (refine wpSteady_skip (by rfl) ?_)
    | (refine zll (by rfl) 39 (.tmp 2) rfl (w.heap.size) rfl _ _ (0,0) _ (fun v hv=>hv.1) Tryz.underlying39 rfl (by kernel_rfl) ?_)
    | (refine wpSteady_calm (v:=?_) (by rfl) ?_ ?_;rotate_left;(focus (intro v hSv;replace hSv:=hSv.2;(try simp only [CL] at hSv);go_simp;(try with_reducible rfl);done))));try simp only [Act.put,sA,sZ,sS])
   refine zn ?_;clear hc
   go_wp2_with fail
   go_meet;exact hid HB6'.out
 case rest =>
 have HC6:=hid hcut.out;obtain ⟨w7,rfl⟩:∃ v,v=wc:=⟨_,rfl⟩;have HB7:=hid (HB6.out.trans (HC6.out.mono HB6.out.size));have HX7:=hid (kO HX6.out HC6.out);have HU7:=hid (kO HU6.out HC6.out);have HO7:=hid (kO HO6.out HC6.out);have HVA7:=hid (HVA6.out.bel HC6.out);have HYL7:=hid (aS HO7.out).1;clear hcut HX6 HU6 HO6 HVA6 HC6;obtain ⟨x0,x1,x2,x3,x4,x5,x6,x7,x8,x9,x10,x11,x12,x13,x14,x15,x16,x17,x18,x19,x20,x21,x22,x23,x24,x25,x26,x27,x28,x29,x30⟩:=C31.of HX7.out;clear x0 x1 x2 x3 x4 x5 x6 x7 x8 x9 x10 x11 x12 x13 x14 x15 x16 x17 x18 x24 x25 x26 x27 x28 x29 x30;have HKC:=hid (rknown_any i.cnfg _ w7 _ (HVC.out.bel HB7.out))
 go_wp2_with fail
 cases hk:knownV i.cnfg with
 | false =>
  rw [hk] at HKC;clear hk;refine HKC.out.mono ?_;rintro e w8 ⟨rfl,hb8⟩;have HB8:=hid (HB7.out.trans (hb8.mono HB7.out.size));clear hb8
  go_wp2_with fail
  refine (awake_any _).mono ?_;rintro e wz ⟨rfl,hb⟩;have HBZ:=hid ((HB8.out).trans (hb.mono (HB8.out).size));clear hb
  go_wp2_with fail
  go_ret;exact ⟨rfl,HBZ.out⟩
 | true =>
 rw [hk] at HKC;have HKN:=hid hk;clear hk;refine HKC.out.mono ?_;rintro e w8 ⟨rfl,hb8⟩;have HB8:=hid (HB7.out.trans (hb8.mono HB7.out.size));have HX8:=hid (kO HX7.out hb8);have HU8:=hid (kO HU7.out hb8);have HO8:=hid (kO HO7.out hb8);have HVA8:=hid (HVA7.out.bel hb8);clear hb8 x19 x20 x21 x22 x23 HX7 HU7 HO7 HVA7 HKC;have x2:=(cII HX8.out 2).trans rfl;have x3:=(cII HX8.out 3).trans rfl;obtain ⟨z0,z1,z2,z3,z4,z5,z6,z7,z8,z9,za,zb,zc,zd,ze,zf,zg,zh,zi,zj,zk,zl⟩:=C22.of HO8.out;clear z0 z1 z2 z3 z4 z5 z6 z7 z8 z9 zf zg zh zi zj zk zl;obtain ⟨u0,u1,u2,u3,u4⟩:=C5.of HU8.out;have HAC:=hid (accepts_any i.sc c.after f _ _ _ w8 _ _ _ _ (HSC.out.bel HB8.out) HVA8.out (HU.out.bel HB8.out) (by have:=HSZ.out.1;omega) ⟨by have:=HVI.out.sm.sc.la;omega,by have:=HVI.out.sm.sc.ln;omega,fun n hn=>by have:=HVI.out.sm.sc.na n hn;omega⟩ HVI.out.scf.2.2.2.2)
 go_wp2_with fail
 refine HAC.out.mono ?_;rintro e w9 ⟨b,rfl,hacc,hb9⟩;have HB9:=hid (HB8.out.trans (hb9.mono HB8.out.size));have HX9:=hid (kO HX8.out hb9);have HU9:=hid (kO HU8.out hb9);have HA9:=hid hacc;clear hb9 hacc x2 x3 za zb zc zd ze u0 u1 u2 u3 u4 HX8 HU8 HO8 HVA8 HAC
 cases b with
 | false =>
  go_wp2_with fail
  refine (awake_any _).mono ?_;rintro e wz ⟨rfl,hb⟩;have HBZ:=hid ((HB9.out).trans (hb.mono (HB9.out).size));clear hb
  go_wp2_with fail
  go_ret;exact ⟨rfl,HBZ.out⟩
 | true =>
 have HND:=hid (HNF.out HKN.out (HA9.out rfl));obtain ⟨Z,hZ⟩:∃ Z,w9.heap.size=Z:=⟨_,rfl⟩
 have hZW:w.heap.size + 2≤Z:=by have h2:=(aS HU9.out).1;have h3:=HB9.out.size;have h4:=HYL7.out;omega
 have e1:=zaa (w:=w9) (o:=.cells #[.string ⟨#[]⟩,.string ⟨#[]⟩,.slice none 0 0,.slice none 0 0,.int .i64 0,.bool false,.string ⟨#[]⟩,.string ⟨#[]⟩,.string ⟨#[]⟩,.string ⟨#[]⟩,.int .i64 0,.int .i64 0,.string ⟨#[]⟩,.slice none 0 0,.slice none 0 0,.int .i64 0,.bool false,.bool false,.slice none 0 0,.int .i64 0,.int .i64 0,.string ⟨#[]⟩,.slice none 0 0,.slice none 0 0,.bool false,.bool false,.slice none 0 0,.slice none 0 0,.bool false,.bool false,.slice none 0 0] 39);have e2:=zhh w9 (.cells #[.string ⟨#[]⟩,.string ⟨#[]⟩,.slice none 0 0,.slice none 0 0,.int .i64 0,.bool false,.string ⟨#[]⟩,.string ⟨#[]⟩,.string ⟨#[]⟩,.string ⟨#[]⟩,.int .i64 0,.int .i64 0,.string ⟨#[]⟩,.slice none 0 0,.slice none 0 0,.int .i64 0,.bool false,.bool false,.slice none 0 0,.int .i64 0,.int .i64 0,.string ⟨#[]⟩,.slice none 0 0,.slice none 0 0,.bool false,.bool false,.slice none 0 0,.slice none 0 0,.bool false,.bool false,.slice none 0 0] 39)
 rw [hZ] at e2
 generalize hg:w9.alloc (.cells #[.string ⟨#[]⟩,.string ⟨#[]⟩,.slice none 0 0,.slice none 0 0,.int .i64 0,.bool false,.string ⟨#[]⟩,.string ⟨#[]⟩,.string ⟨#[]⟩,.string ⟨#[]⟩,.int .i64 0,.int .i64 0,.string ⟨#[]⟩,.slice none 0 0,.slice none 0 0,.int .i64 0,.bool false,.bool false,.slice none 0 0,.int .i64 0,.int .i64 0,.string ⟨#[]⟩,.slice none 0 0,.slice none 0 0,.bool false,.bool false,.slice none 0 0,.slice none 0 0,.bool false,.bool false,.slice none 0 0] 39)=wA at *
 have HG9:=hid hg;have HZ9:=hid hZ;have HBA:=hid (HB9.out.trans (e1.mono HB9.out.size));have HXA:=hid (kO HX9.out e1);have HUA:=hid (kO HU9.out e1);have HZA:=hid e2;clear e1 e2 hg hZ HNF HA9
 go_upto_region 9 with (fail)
 go_upto_region 10 with (first | (refine wpList_load_row rfl 39 (.tmp 2) rfl (w.heap.size) rfl _ _ (0,0) _ HX9.out Tryz.underlying39 rfl (by kernel_rfl) ?_) | (rw [HG9.out,HZ9.out];refine zo rfl 39 _ _ rfl Z 0 [_,_,_,_,_,_,_,_,_,_,_,_,_,_,_,_,_,_,_,_,_,_,_,_,_,_,_,_,_,_,_] rfl rfl _ _ HZA.out (by simp) (by kernel_rfl) rfl ?_;intro wB hzB hcB))
 have HBB2:=hid (HBA.out.trans (zgg hcB (fun k hk=>by omega) HBA.out.size));have HZB:Hid (wB.heap[Z]? = some (.cells #[.string i.addr,.string i.tname,.slice oa i.sc.attrs.length ca,.slice on i.sc.nested.length cn,.int .i64 i.quota,.bool i.has,.string i.prior.addr,.string i.prior.deposed,.string i.prior.id,.string i.prior.type,.int .i64 kp,.int .i64 np,.string sp,.slice oip mip cip,.slice okp mkp ckp,.int .i64 i.prior.version,.bool i.prior.tainted,.bool i.prior.createFirst,.slice od i.prior.deps.length cd,.int .i64 kc,.int .i64 nc,.string sc,.slice oic mic cic,.slice okc mkc ckc,.bool i.createFirst,.bool i.protect,.slice og i.ignore.length cg,.slice ot mt ct,.bool i.triggered,.bool i.requested,.slice oD i.deps.length cD] 39)):=hid hzB;have HXB:=hid ((hcB.block _ (aS HXA.out).1 (by omega)).trans HXA.out);have HUB:=hid ((hcB.block _ (aS HUA.out).1 (by omega)).trans HUA.out)
 clear hzB hcB HXA HUA HZA HX9 HU9;generalize (Value.agg #[.string i.addr,.string i.tname,.slice oa i.sc.attrs.length ca,.slice on i.sc.nested.length cn,.int .i64 i.quota,.bool i.has,.string i.prior.addr,.string i.prior.deposed,.string i.prior.id,.string i.prior.type,.int .i64 kp,.int .i64 np,.string sp,.slice oip mip cip,.slice okp mkp ckp,.int .i64 i.prior.version,.bool i.prior.tainted,.bool i.prior.createFirst,.slice od i.prior.deps.length cd,.int .i64 kc,.int .i64 nc,.string sc,.slice oic mic cic,.slice okc mkc ckc,.bool i.createFirst,.bool i.protect,.slice og i.ignore.length cg,.slice ot mt ct,.bool i.triggered,.bool i.requested,.slice oD i.deps.length cD])=vn
 go_upto_region 11 with (refine z1s rfl 4 _ _ rfl Z 5 _ rfl rfl _ _ HZB.out (by simp) (by kernel_rfl) rfl ?_;intro wC hzC hcC)
 have HBC:=hid (HBB2.out.trans (zgg hcC (fun k hk=>by omega) HBB2.out.size));have HZC:Hid (wC.heap[Z]? = some (.cells #[.string i.addr,.string i.tname,.slice oa i.sc.attrs.length ca,.slice on i.sc.nested.length cn,.int .i64 i.quota,.bool true,.string i.prior.addr,.string i.prior.deposed,.string i.prior.id,.string i.prior.type,.int .i64 kp,.int .i64 np,.string sp,.slice oip mip cip,.slice okp mkp ckp,.int .i64 i.prior.version,.bool i.prior.tainted,.bool i.prior.createFirst,.slice od i.prior.deps.length cd,.int .i64 kc,.int .i64 nc,.string sc,.slice oic mic cic,.slice okc mkc ckc,.bool i.createFirst,.bool i.protect,.slice og i.ignore.length cg,.slice ot mt ct,.bool i.triggered,.bool i.requested,.slice oD i.deps.length cD] 39)):=hid hzC;have HXC:=hid ((hcC.block _ (aS HXB.out).1 (by omega)).trans HXB.out);have HUC:=hid ((hcC.block _ (aS HUB.out).1 (by omega)).trans HUB.out)
 clear hzC hcC HXB HUB HZB;have x0:=(cII HXC.out 0).trans rfl;have x1:=(cII HXC.out 1).trans rfl;obtain ⟨u0,u1,u2,u3,u4⟩:=C5.of HUC.out
 go_upto_region 12 with (refine zo rfl 34 _ _ rfl Z 6 [_,_,_,_,_,_,_,_,_,_,_,_,_] rfl rfl _ _ HZC.out (by simp) (by kernel_rfl) rfl ?_;intro wD hzD hcD)
 have HBD:=hid (HBC.out.trans (zgg hcD (fun k hk=>by omega) HBC.out.size));have HZD:Hid (wD.heap[Z]? = some (.cells #[.string i.addr,.string i.tname,.slice oa i.sc.attrs.length ca,.slice on i.sc.nested.length cn,.int .i64 i.quota,.bool true,.string i.addr,.string ⟨#[]⟩,.string ⟨#[110,101,119]⟩,.string i.tname,.int .i64 k3,.int .i64 n3,.string s3,.slice oi3 mi3 ci3,.slice ok3 mk3 ck3,.int .i64 1,.bool false,.bool false,.slice none 0 0,.int .i64 kc,.int .i64 nc,.string sc,.slice oic mic cic,.slice okc mkc ckc,.bool i.createFirst,.bool i.protect,.slice og i.ignore.length cg,.slice ot mt ct,.bool i.triggered,.bool i.requested,.slice oD i.deps.length cD] 39)):=hid hzD;have HUD:=hid ((hcD.block _ (aS HUC.out).1 (by omega)).trans HUC.out);clear hzD hcD HXC HUC HZC x0 x1 u0 u1 u2 u3 u4
 go_upto_region 13 with (refine z1s rfl 4 _ _ rfl Z 29 _ rfl rfl _ _ HZD.out (by simp) (by kernel_rfl) rfl ?_;intro wE hzE hcE)
 have HBE:=hid (HBD.out.trans (zgg hcE (fun k hk=>by omega) HBD.out.size));have HZE:Hid (wE.heap[Z]? = some (.cells #[.string i.addr,.string i.tname,.slice oa i.sc.attrs.length ca,.slice on i.sc.nested.length cn,.int .i64 i.quota,.bool true,.string i.addr,.string ⟨#[]⟩,.string ⟨#[110,101,119]⟩,.string i.tname,.int .i64 k3,.int .i64 n3,.string s3,.slice oi3 mi3 ci3,.slice ok3 mk3 ck3,.int .i64 1,.bool false,.bool false,.slice none 0 0,.int .i64 kc,.int .i64 nc,.string sc,.slice oic mic cic,.slice okc mkc ckc,.bool i.createFirst,.bool i.protect,.slice og i.ignore.length cg,.slice ot mt ct,.bool i.triggered,.bool false,.slice oD i.deps.length cD] 39)):=hid hzE;have HUE:=hid ((hcE.block _ (aS HUD.out).1 (by omega)).trans HUD.out);clear hzE hcE HUD HZD
 go_upto_region 14 with (refine z1s rfl 4 _ _ rfl Z 28 _ rfl rfl _ _ HZE.out (by simp) (by kernel_rfl) rfl ?_;intro wF hzF hcF)
 have HBF:=hid (HBE.out.trans (zgg hcF (fun k hk=>by omega) HBE.out.size));have HZF:Hid (wF.heap[Z]? = some (.cells #[.string i.addr,.string i.tname,.slice oa i.sc.attrs.length ca,.slice on i.sc.nested.length cn,.int .i64 i.quota,.bool true,.string i.addr,.string ⟨#[]⟩,.string ⟨#[110,101,119]⟩,.string i.tname,.int .i64 k3,.int .i64 n3,.string s3,.slice oi3 mi3 ci3,.slice ok3 mk3 ck3,.int .i64 1,.bool false,.bool false,.slice none 0 0,.int .i64 kc,.int .i64 nc,.string sc,.slice oic mic cic,.slice okc mkc ckc,.bool i.createFirst,.bool i.protect,.slice og i.ignore.length cg,.slice ot mt ct,.bool false,.bool false,.slice oD i.deps.length cD] 39)):=hid hzF;have HUF:=hid ((hcF.block _ (aS HUE.out).1 (by omega)).trans HUE.out);clear hzF hcF HUE HZE
 go_wp2_with (refine wpList_load_row rfl 39 (.tmp 6) rfl (Z) rfl _ _ (0,0) _ HZF.out Tryz.underlying39 rfl (by kernel_rfl) ?_)
 refine (linput_any (nextI i f) _ wF _ (HN0.out.bel HBF.out)).mono ?_;rintro e wG ⟨rfl,hbG⟩;have HBG:=hid (HBF.out.trans (hbG.mono HBF.out.size));have HUG:=hid (kO HUF.out hbG);have HCC:=hid (HCN.out wG HBG.out);clear hbG HCN HZF HUF
 go_wp2_with fail
 refine HCC.out.mono ?_;rintro e wH ⟨q,rfl,hq,hbH⟩;obtain ⟨k1',n1',s1',oi1',mi1',ci1',ok1',mk1',ck1',k2',n2',s2',oi2',mi2',ci2',ok2',mk2',ck2',oR',cR',od1',cd1',oo',co',rfl,hVB,hVA,hSR,hSD,hSO⟩:=hq;have HVA:=hid hVA;have HBH:=hid (HBG.out.trans (hbH.mono HBG.out.size));have HUH:=hid (kO HUG.out hbH);clear hbH hVB hVA hSR hSD hSO HCC HUG;have e1:=zaa (w:=wH) (o:=zero22);have e2:=zhh wH zero22
 generalize hg:wH.alloc zero22=wz2 at *
 obtain ⟨V,hV⟩:∃ V,wH.heap.size=V:=⟨_,rfl⟩;rw [hV] at e2
 have hVW:w.heap.size + 2≤V:=by have h2:w.heap.size + 1 < wH.heap.size:=(aS HUH.out).1;omega
 have HGI:=hid hg;have HVI2:=hid hV;have HBZ2:=hid (HBH.out.trans (e1.mono HBH.out.size));have HUZ2:=hid (kO HUH.out e1);have HZ2:=hid e2;have HVAZ:=hid ((HVA.out.ex).bel e1);clear e1 e2 hg hV HUH HVA
 go_upto_region 15 with (rw [HGI.out,HVI2.out];refine zo rfl 46 _ _ rfl V 0 [_,_,_,_,_,_,_,_,_,_,_,_,_,_,_,_,_,_,_,_,_,_] rfl rfl _ _ HZ2.out (by simp) (by kernel_rfl) rfl ?_;intro wI hzI hcI)
 have HBI:=hid (HBZ2.out.trans (zgg hcI (fun k hk=>by omega) HBZ2.out.size));have HOI:Hid (wI.heap[V]? = some (.cells #[.string d.addr,.string d.deposed,.string d.type,.int .i64 d.action,.int .i64 d.reason,.int .i64 k1',.int .i64 n1',.string s1',.slice oi1' mi1' ci1',.slice ok1' mk1' ck1',.int .i64 k2',.int .i64 n2',.string s2',.slice oi2' mi2' ci2',.slice ok2' mk2' ck2',.string d.id,.slice oR' d.replace.length cR',.bool d.createFirst,.bool d.protect,.bool d.imp,.slice od1' d.deps.length cd1',.slice oo' d.oldDeps.length co'] 46)):=hid hzI;have HUI:=hid ((hcI.block _ (aS HUZ2.out).1 (by omega)).trans HUZ2.out);have HVAI:=hid (HVAZ.out.keep (ZK.chg hcI fun g hg e=>by have h1:=hg.2;rw [HVI2.out] at h1;omega) fun g hg=>hg);clear hzI hcI HUZ2 HZ2 HVAZ;obtain ⟨z0,z1,z2,z3,z4,z5,z6,z7,z8,z9,za,zb,zc,zd,ze,zf,zg,zh,zi,zj,zk,zl⟩:=C22.of HOI.out
 clear z0 z1 z2 z5 z6 z7 z8 z9 zf zg zh zi zj zk zl;obtain ⟨u0,u1,u2,u3,u4⟩:=C5.of HUI.out;obtain ⟨d1,d2,d3⟩:=HND.out;rw [d1] at z3;rw [d2] at z4;have HEQ:=hid (requal_any d.after f _ _ wI _ _ HVAI.out (HU.out.bel HBI.out));rw [d3,eqV_refl] at HEQ;clear d1 d2 d3 HND
 go_wp2_with fail
 refine HEQ.out.mono ?_;rintro e wJ ⟨rfl,hbJ⟩;have HBJ:=hid (HBI.out.trans (hbJ.mono HBI.out.size));clear hbJ
 go_wp2_with fail
 refine (awake_any _).mono ?_;rintro e wz ⟨rfl,hb⟩;have HBZ:=hid ((HBJ.out).trans (hb.mono (HBJ.out).size));clear hb
 go_wp2_with fail
 go_ret;exact ⟨rfl,HBZ.out⟩
theorem readable:∀ t∈#[39,32].toList,Tryz.prog.readableRec t=true∧t < Tryz.prog.types.size:=by
 intro t ht;have ri:Tryz.prog.readableRec 39=true∧39 < Tryz.prog.types.size:=⟨by kernel_rfl,of_decide_eq_true (by kernel_rfl)⟩;have rv:Tryz.prog.readableRec 32=true∧32 < Tryz.prog.types.size:=⟨by kernel_rfl,of_decide_eq_true (by kernel_rfl)⟩
 have hm:t=39∨t=32:=by simpa using ht
 rcases hm with rfl | rfl
 ·exact ri
 ·exact rv
theorem walkD {H:Type} (enc:TypeId × Value→H) (W:World) (base:Nat) (args:Array Value) (ds:List (DataW H)) (p:List MemPlace)
  (hval:∀ (j:Nat) t v,#[39,32][j]? = some t→args[j]? = some v→Value.okWide Tryz.prog W .any base t v)
  (hA:DataW.TrodAll enc Tryz.prog W 0 (fun _=>true) true #[39,32].toList args.toList ds p)
  (hws:∀ (j:Nat) t d,#[39,32].toList[j]? = some t→ds[j]? = some d→∀ n∈d.weights Tryz.prog t,n≤reachBytes) :
  (Calls Tryz.prog 4 args W fun e w'=>e=.returned (.bool true)∧Below W.heap.size W w') ∧
  ((Rows.diffMinimalSpec.fn H (ds ++ [])).results = [.lit (.bool true)]∧(Rows.diffMinimalSpec.fn H (ds ++ [])).args=ds∧(Rows.diffMinimalSpec.fn H (ds ++ [])).vars = []):=by
 obtain ⟨v0,vs0,d0,ds0,p0,q0,hargs,rfl,rfl,h0,r0⟩:=trodAll_cons hA;obtain ⟨v1,vs1,d1,ds1,p1,q1,rfl,rfl,rfl,h1,r1⟩:=trodAll_cons r0;obtain ⟨rfl,rfl,rfl⟩:=trodAll_nil r1
 obtain rfl:args=#[v0,v1]:=by cases args;simp_all
 obtain ⟨t0,w0⟩:=open_input (hval 0 _ v0 rfl rfl) h0 (hws 0 _ _ rfl rfl);obtain ⟨t1,w1⟩:=open_value (hval 1 _ v1 rfl rfl) h1 (hws 1 _ _ rfl rfl);exact ⟨walk W _ _ t0 t1 w0 w1,rfl,rfl,rfl⟩
theorem lifted (os:Os) (started:os.Started) (H:Type) (enc:TypeId × Value→H) :
  ReturnsInHanded {} Tryz.checked os 4 .any (Rows.diffMinimalSpec.pre6 enc Tryz.prog Tryz.f4 Rows.diffMinimalRow.domain false) (Rows.diffMinimalSpec.post enc Tryz.prog Tryz.f4 false true false false):=by
 refine returnsInHanded_of_change_sized (C:=Tryz.checked) own started (by kernel_rfl) Tryz.func4
  (ChangeSpec.witness6 (enc:=enc) (C:=Tryz.checked) false ⟨#[],#[.agg #[.string ⟨#[]⟩,.string ⟨#[]⟩,.slice none 0 0,.slice none 0 0,.int .i64 0,.bool false,.string ⟨#[]⟩,.string ⟨#[]⟩,.string ⟨#[]⟩,.string ⟨#[]⟩,.int .i64 0,.int .i64 0,.string ⟨#[]⟩,.slice none 0 0,.slice none 0 0,.int .i64 0,.bool false,.bool false,.slice none 0 0,.int .i64 0,.int .i64 0,.string ⟨#[]⟩,.slice none 0 0,.slice none 0 0,.bool false,.bool false,.slice none 0 0,.slice none 0 0,.bool false,.bool false,.slice none 0 0],.agg #[.int .i64 0,.int .i64 0,.string ⟨#[]⟩,.slice none 0 0,.slice none 0 0]],[]⟩ 8 (by kernel_rfl) (by kernel_rfl) (by kernel_rfl) (by kernel_rfl)) ?_
 intro W base args ds gs before hval0 hW _ hsz _;have hW':=hW;obtain ⟨p,q,hA,hV,_,_,_⟩:=hW;obtain ⟨rfl,rfl⟩:=trodVars_none hV;rw [Tryz.params4] at hA hval0 hsz
 have hws:∀ (j:Nat) t d,#[39,32].toList[j]? = some t→ds[j]? = some d→∀ n∈d.weights Tryz.prog t,n≤reachBytes:=fun j t d h1 h2 n hn=>by
  have hj1:=(List.getElem?_eq_some_iff.1 h1).1;have hj2:=(List.getElem?_eq_some_iff.1 h2).1;have:=List.all_eq_true.1 hsz _ (DataW.weights_mem_each (j:=j) (by rw [List.getElem?_append_left hj1];exact h1) (by rw [List.getElem?_append_left hj2];exact h2) n hn);simpa using this
 obtain ⟨hcall,hds⟩:=walkD enc W base args ds p hval0 hA hws
 exact hcall.mono fun e W' ⟨he,hb⟩=>⟨_,he,law_post hW' rfl (by rw [Tryz.params4];exact readable) rfl hds hb⟩
theorem proved:Rows.DiffMinimalSaid :=
 OpenClaim.holds_of_wide 4 Tryz.f4 rfl rfl rfl rfl rfl rfl rfl ⟨rfl,rfl,rfl,rfl,rfl⟩ rfl rfl rfl rfl rfl (by kernel_rfl) Tryz.func4 (by kernel_rfl)
  (of_decide_eq_true (by kernel_rfl)) (by unfold Func.isWrapper;first | (rw [if_pos (by decide +kernel)];kernel_rfl) | (rw [if_neg (by decide +kernel)];exact ⟨rfl,rfl⟩))
  (fun os started H enc _=>lifted os started H enc)
#print axioms proved
end Go.Proofs.YtibiiafcnaijeaaGreat.diffMinimal
