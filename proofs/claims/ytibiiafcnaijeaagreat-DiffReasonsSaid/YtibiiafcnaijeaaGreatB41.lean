/- Texts that stand alike under several statements, run together. -/
import Derived.Test.YtibiiafcnaijeaaGreatB00
import Derived.Test.YtibiiafcnaijeaaGreatB40
import Derived.Test.YtibiiafcnaijeaaGreatB39
import Derived.Test.YtibiiafcnaijeaaGreatB22
import Derived.Test.YtibiiafcnaijeaaGreatB07
import Derived.Test.YtibiiafcnaijeaaGreatB11
import Derived.Test.YtibiiafcnaijeaaGreatB08
namespace Go.Proofs.YtibiiafcnaijeaaGreat
open Go Go.RowKit Go.Proofs.YtibiiafcnaijeaaGreat.Steady
set_option linter.unusedVariables false
set_option linter.unusedSimpArgs false
set_option maxRecDepth 100000
set_option maxHeartbeats 40000000
structure ValI (i:Inp):Prop where
 sm:SmI i
 scf:ScF i.sc
 cok:VOk i.cnfg
 ckd:kdV i.cnfg=5
 cps:∃ ps,ps.map (·.1)=keysC i.sc∧i.cnfg=putsV ps
 pr:i.has=true→kdV i.prior.attrs=5∧VOk i.prior.attrs∧knownV i.prior.attrs=true∧fitsT i.prior.attrs (typR i.sc)=true
def ValPost (i:Inp) (w:World) (e:Ending) (w':World):Prop:=∃ b:Bool,e=.returned (.bool b)∧(b=true→ValI i)∧Below w.heap.size w w'
theorem valI_any (i:Inp) (P:Nat→Prop) (w:World) (x:Value) (hx:INV P w x i) :
  Calls Tryz.prog 7 #[x] w (ValPost i w):=by
 have hx0:=hx;obtain ⟨oa,ca,on,cn,kp,np,sp,oip,mip,cip,okp,mkp,ckp,od,cd,kc,nc,sc,oic,mic,cic,okc,mkc,ckc,og,cg,ot,mt,ct,oD,cD,rfl,hSC,hVP,hSD,hVC,hSG,hSS⟩:=hx;have HKP:=hid (show kdV i.prior.attrs=kp by obtain ⟨_,_,_,_,_,_,_,_,_,e,-,-,-,-,hk⟩:=hVP.five;cases e;exact hk);have hbo:=zaa (w:=w) (o:=.cells #[.string i.addr,.string i.tname,.slice oa i.sc.attrs.length ca,.slice on i.sc.nested.length cn,.int .i64 i.quota,.bool i.has,.string i.prior.addr,.string i.prior.deposed,.string i.prior.id,.string i.prior.type,.int .i64 kp,.int .i64 np,.string sp,.slice oip mip cip,.slice okp mkp ckp,.int .i64 i.prior.version,.bool i.prior.tainted,.bool i.prior.createFirst,.slice od i.prior.deps.length cd,.int .i64 kc,.int .i64 nc,.string sc,.slice oic mic cic,.slice okc mkc ckc,.bool i.createFirst,.bool i.protect,.slice og i.ignore.length cg,.slice ot mt ct,.bool i.triggered,.bool i.requested,.slice oD i.deps.length cD] 39)
 have hoo:=zhh w (.cells #[.string i.addr,.string i.tname,.slice oa i.sc.attrs.length ca,.slice on i.sc.nested.length cn,.int .i64 i.quota,.bool i.has,.string i.prior.addr,.string i.prior.deposed,.string i.prior.id,.string i.prior.type,.int .i64 kp,.int .i64 np,.string sp,.slice oip mip cip,.slice okp mkp ckp,.int .i64 i.prior.version,.bool i.prior.tainted,.bool i.prior.createFirst,.slice od i.prior.deps.length cd,.int .i64 kc,.int .i64 nc,.string sc,.slice oic mic cic,.slice okc mkc ckc,.bool i.createFirst,.bool i.protect,.slice og i.ignore.length cg,.slice ot mt ct,.bool i.triggered,.bool i.requested,.slice oD i.deps.length cD] 39)
 generalize hA:w.alloc (.cells #[.string i.addr,.string i.tname,.slice oa i.sc.attrs.length ca,.slice on i.sc.nested.length cn,.int .i64 i.quota,.bool i.has,.string i.prior.addr,.string i.prior.deposed,.string i.prior.id,.string i.prior.type,.int .i64 kp,.int .i64 np,.string sp,.slice oip mip cip,.slice okp mkp ckp,.int .i64 i.prior.version,.bool i.prior.tainted,.bool i.prior.createFirst,.slice od i.prior.deps.length cd,.int .i64 kc,.int .i64 nc,.string sc,.slice oic mic cic,.slice okc mkc ckc,.bool i.createFirst,.bool i.protect,.slice og i.ignore.length cg,.slice ot mt ct,.bool i.triggered,.bool i.requested,.slice oD i.deps.length cD] 39)=wa at *
 have HA:=hid hA;have HB:=hid hbo;have HXI:=hid hoo;have HSC:Hid (SCV (fun g=>P g∧g < w.heap.size) w _ _ i.sc):=hid ⟨hSC.1.ex,hSC.2.ex⟩;have HVP:=hid hVP.ex;have HVC:=hid hVC.ex;have HSM:=hid (lsmall_any i P wa _ (hx0.bel hbo));clear hA hbo hoo hSC hVP hVC hSD hSG hSS hx0
 go_enter Tryz.func7,Tryz.ntmps7
 go_upto_region 1 with (fail)
 rw [HA.out]
 go_wp2_with (refine wpList_load_row rfl 39 (.tmp 1) rfl w.heap.size rfl _ _ (0,0) _ HXI.out Tryz.underlying39 rfl (by kernel_rfl) ?_)
 refine HSM.out.mono ?_;rintro e w2 ⟨b,rfl,hsm,hb2⟩;have HB2:=hid (HB.out.trans (hb2.mono HB.out.size))
 cases b with
 | false =>
  clear hsm hb2 HSM
  go_wp2_with fail
  go_ret;exact ⟨false,rfl,nF,HB2.out⟩
 | true =>
 have HSI:=hid (hsm rfl);have HXI2:=hid (kO HXI.out hb2);have HCK:=hid (rscheck_any i.sc _ w2 _ _ (HSC.out.bel HB2.out));clear hsm hb2 HSM HXI;obtain ⟨x0,x1,x2,x3,x4,x5,x6,x7,x8,x9,x10,x11,x12,x13,x14,x15,x16,x17,x18,x19,x20,x21,x22,x23,x24,x25,x26,x27,x28,x29,x30⟩:=C31.of HXI2.out;clear x0 x1 x4 x5 x6 x7 x8 x9 x10 x11 x12 x13 x14 x15 x16 x17 x18 x19 x20 x21 x22 x23 x24 x25 x26 x27 x28 x29 x30
 go_wp2_with fail
 refine HCK.out.mono ?_;rintro e w3 ⟨r,rfl,hsc,hb3⟩;have HB3:=hid (HB2.out.trans (hb3.mono HB2.out.size));have HXI3:=hid (kO HXI2.out hb3);have HSF:=hid hsc;clear hsc hb3 HCK x2 x3 HXI2
 by_cases hr:r=0
 case neg =>
  obtain ⟨rra,rrb,rrc⟩:=tF hr;clear hr
  go_wp2_with fail
  go_ret;exact ⟨false,rfl,nF,HB3.out⟩
 obtain ⟨rra,rrb,rrc⟩:=tT hr;have HSF2:=hid (HSF.out hr);clear hr HSF;have HCO:=hid (coerce_any i.sc i.cnfg (fun g=>P g∧g < w.heap.size) (fun g=>P g∧g < w.heap.size) w3 _ _ _ (HSC.out.bel HB3.out) (HVC.out.bel HB3.out) (fun g hg=>by have:=HB3.out.size;have:=hg.2;omega) HSI.out.cv.1 HSI.out.sc);obtain ⟨x0,x1,x2,x3,x4,x5,x6,x7,x8,x9,x10,x11,x12,x13,x14,x15,x16,x17,x18,x19,x20,x21,x22,x23,x24,x25,x26,x27,x28,x29,x30⟩:=C31.of HXI3.out;clear x0 x1 x4 x5 x6 x7 x8 x9 x10 x11 x12 x13 x14 x15 x16 x17 x18 x24 x25 x26 x27 x28 x29 x30
 go_wp2_with fail
 refine HCO.out.mono ?_;rintro e w4 ⟨u,t,dk,dn,dm,rfl,hu,hsz,hz,hb4⟩;obtain ⟨ku,nu,su,oiu,miu,ciu,oku,mku,cku,rfl⟩:=hu.agg5;have HU:=hid hu;have HZU:=hid hz;have HB4:=hid (HB3.out.trans (hb4.mono HB3.out.size));have HXI4:=hid (kO HXI3.out hb4);clear x2 x3 x19 x20 x21 x22 x23 hu hsz hz hb4 HCO HXI3;have e1:=zaa (w:=w4) (o:=.cells #[.int .i64 ku,.int .i64 nu,.string su,.slice oiu miu ciu,.slice oku mku cku] 32);have e2:=zhh w4 (.cells #[.int .i64 ku,.int .i64 nu,.string su,.slice oiu miu ciu,.slice oku mku cku] 32)
 have e3:(w4.alloc (.cells #[.int .i64 ku,.int .i64 nu,.string su,.slice oiu miu ciu,.slice oku mku cku] 32)).heap.size=w4.heap.size + 1:=by simp
 generalize hg3:w4.alloc (.cells #[.int .i64 ku,.int .i64 nu,.string su,.slice oiu miu ciu,.slice oku mku cku] 32)=w5 at *
 have f1:=zaa (w:=w5) (o:=.cells #[.int .i64 dk,.int .i64 dn,.string dm] 71);have f2:=zhh w5 (.cells #[.int .i64 dk,.int .i64 dn,.string dm] 71)
 generalize hg4:w5.alloc (.cells #[.int .i64 dk,.int .i64 dn,.string dm] 71)=w6 at *
 rw [e3] at f2;have HG3:=hid hg3;have HG4:=hid hg4;have HB46:=hid (e1.trans (f1.mono e1.size));have HO3:=hid (kO e2 f1);have HO4:=hid f2;clear e1 e2 e3 f1 f2 hg3 hg4
 go_upto_region 4 with (fail)
 rw [HG3.out,HG4.out];have HB6:=hid (HB4.out.trans (HB46.out.mono HB4.out.size));have HXI6:=hid (kO HXI4.out HB46.out);have d0:=(cII HO4.out 0).trans rfl
 by_cases hr:dk=0
 case neg =>
  obtain ⟨r2a,r2b,r2c⟩:=tF hr;clear hr
  go_wp2_with fail
  go_ret;exact ⟨false,rfl,nF,HB6.out⟩
 obtain ⟨r2a,r2b,r2c⟩:=tT hr;have HPZ:=hid (HZU.out hr);clear hr HZU;obtain ⟨u0,u1,u2,u3,u4⟩:=C5.of HO3.out;have HEQ:=hid (requal_any t i.cnfg _ _ w6 _ _ (HU.out.bel HB46.out) (HVC.out.bel HB6.out));obtain ⟨x0,x1,x2,x3,x4,x5,x6,x7,x8,x9,x10,x11,x12,x13,x14,x15,x16,x17,x18,x19,x20,x21,x22,x23,x24,x25,x26,x27,x28,x29,x30⟩:=C31.of HXI6.out;clear x0 x1 x2 x3 x4 x5 x6 x7 x8 x9 x10 x11 x12 x13 x14 x15 x16 x17 x18 x24 x25 x26 x27 x28 x29 x30
 cases he:eqV t i.cnfg with
 | false =>
  rw [he] at HEQ;clear he
  go_wp2_with fail
  refine HEQ.out.mono ?_;rintro e w7 ⟨rfl,hb7⟩;have HB7:=hid (HB6.out.trans (hb7.mono HB6.out.size));clear hb7
  go_wp2_with fail
  go_ret;exact ⟨false,rfl,nF,HB7.out⟩
 | true =>
 have HT:=hid ((eqV_iff t i.cnfg).1 he);rw [he] at HEQ;clear he
 go_wp2_with fail
 refine HEQ.out.mono ?_;rintro e w7 ⟨rfl,hb7⟩;have HB7:=hid (HB6.out.trans (hb7.mono HB6.out.size));have HXI7:=hid (kO HXI6.out hb7);clear hb7 HEQ d0 u0 u1 u2 u3 u4 x19 x20 x21 x22 x23 HXI4 HXI6 HO3 HO4 HU;obtain ⟨x0,x1,x2,x3,x4,x5,x6,x7,x8,x9,x10,x11,x12,x13,x14,x15,x16,x17,x18,x19,x20,x21,x22,x23,x24,x25,x26,x27,x28,x29,x30⟩:=C31.of HXI7.out;clear x0 x1 x2 x3 x4 x5 x6 x7 x8 x9 x15 x16 x17 x18 x19 x20 x21 x22 x23 x24 x25 x26 x27 x28 x29 x30;have e1:=zaa (w:=w7) (o:=.cells #[.int .i64 kp,.int .i64 np,.string sp,.slice oip mip cip,.slice okp mkp ckp] 32);have e2:=zhh w7 (.cells #[.int .i64 kp,.int .i64 np,.string sp,.slice oip mip cip,.slice okp mkp ckp] 32)
 generalize hg3:w7.alloc (.cells #[.int .i64 kp,.int .i64 np,.string sp,.slice oip mip cip,.slice okp mkp ckp] 32)=w8 at *
 obtain ⟨X,hX⟩:∃ X,w7.heap.size=X:=⟨_,rfl⟩;rw [hX] at e2;have HG3:=hid hg3;have HX:=hid hX;have HB8:=hid (HB7.out.trans (e1.mono HB7.out.size));have HXI8:=hid (kO HXI7.out e1);have HO8:=hid e2;clear e1 e2 hg3 hX
 go_upto_region 7 with (fail)
 rw [HG3.out,HX.out];clear x10 x11 x12 x13 x14
 have HCF:Hid (∀ q:i.has=true→kdV i.prior.attrs=5∧VOk i.prior.attrs∧knownV i.prior.attrs=true∧fitsT i.prior.attrs (typR i.sc)=true,ValI i):=hid fun q=>⟨HSI.out,HSF2.out,HPZ.out.1,HPZ.out.2.1,by obtain ⟨ps,h1,h2⟩:=HPZ.out.2.2.2;exact ⟨ps,h1,HT.out ▸ h2⟩,q⟩
 have HVP8:=hid (HVP.out.bel HB8.out);have HSC8:=hid (HSC.out.bel HB8.out);obtain ⟨x0,x1,x2,x3,x4,x5,x6,x7,x8,x9,x10,x11,x12,x13,x14,x15,x16,x17,x18,x19,x20,x21,x22,x23,x24,x25,x26,x27,x28,x29,x30⟩:=C31.of HXI8.out;clear x0 x1 x4 x6 x7 x8 x9 x10 x11 x12 x13 x14 x15 x16 x17 x18 x19 x20 x21 x22 x23 x24 x25 x26 x27 x28 x29 x30;obtain ⟨y0,y1,y2,y3,y4⟩:=C5.of HO8.out
 cases hh:i.has with
 | false =>
  rw [hh] at x5;have HF:=hid (HCF.out fun h=>absurd h (by rw [hh];decide));have HBD:=hid (show Below w.heap.size w w8.drew from zdd HB8.out);have hc:CL [(w.heap.size,2,.slice oa i.sc.attrs.length ca),(w.heap.size,3,.slice on i.sc.nested.length cn),(w.heap.size,5,.bool false),(X,0,.int .i64 kp),(X,1,.int .i64 np),(X,2,.string sp),(X,3,.slice oip mip cip),(X,4,.slice okp mkp ckp)] w8.drew:=CL.bel (show CL _ w8 from ⟨x2,x3,x5,y0,y1,y2,y3,y4,trivial⟩) (zdd (Below.refl _ _));clear x2 x3 x5 y0 y1 y2 y3 y4 hh;refine zss (CL [(w.heap.size,2,.slice oa i.sc.attrs.length ca),(w.heap.size,3,.slice on i.sc.nested.length cn),(w.heap.size,5,.bool false),(X,0,.int .i64 kp),(X,1,.int .i64 np),(X,2,.string sp),(X,3,.slice oip mip cip),(X,4,.slice okp mkp ckp)]) (by kernel_rfl) (by kernel_rfl) (hc) ?_
  repeat ((first
   | (refine wpSteady_skip (by rfl) ?_)
   | (refine wpSteady_calm (v:=?_) (by rfl) ?_ ?_;rotate_left;(focus (intro v hSv;(try simp only [CL] at hSv);go_simp;(try with_reducible rfl);done))));try simp only [Act.put,sA,sZ,sS])
  refine zn ?_
  go_wp2_with fail
  go_ret;exact ⟨_,rfl,fun _=>HF.out,HBD.out⟩
 | true =>
  rw [hh] at x5;have HHH:=hid hh;have HBD:=hid (show Below w.heap.size w w8.drew from zdd HB8.out);have hc:CL [(w.heap.size,2,.slice oa i.sc.attrs.length ca),(w.heap.size,3,.slice on i.sc.nested.length cn),(w.heap.size,5,.bool true),(X,0,.int .i64 kp),(X,1,.int .i64 np),(X,2,.string sp),(X,3,.slice oip mip cip),(X,4,.slice okp mkp ckp)] w8.drew:=CL.bel (show CL _ w8 from ⟨x2,x3,x5,y0,y1,y2,y3,y4,trivial⟩) (zdd (Below.refl _ _));clear x2 x3 x5 y0 y1 y2 y3 y4 hh
  by_cases h5:kp=5
  case neg =>
   obtain ⟨d5a,d5b,d5c⟩:=tF h5;clear h5;refine zss (CL [(w.heap.size,2,.slice oa i.sc.attrs.length ca),(w.heap.size,3,.slice on i.sc.nested.length cn),(w.heap.size,5,.bool true),(X,0,.int .i64 kp),(X,1,.int .i64 np),(X,2,.string sp),(X,3,.slice oip mip cip),(X,4,.slice okp mkp ckp)]) (by kernel_rfl) (by kernel_rfl) (hc) ?_
   repeat ((first
    | (refine wpSteady_skip (by rfl) ?_)
    | (refine wpSteady_calm (v:=?_) (by rfl) ?_ ?_;rotate_left;(focus (intro v hSv;(try simp only [CL] at hSv);go_simp;(try with_reducible rfl);done))));try simp only [Act.put,sA,sZ,sS])
   refine zn ?_
   go_wp2_with fail
   go_ret;exact ⟨_,rfl,nF,HBD.out⟩
  have HK5:=hid (HKP.out.trans h5);obtain ⟨d5a,d5b,d5c⟩:=tT h5;subst h5;clear d5a d5b d5c;have HC1:=hid (ovcheck_any _ w8.drew _ _ (HVP8.out.bel (zdd (Below.refl _ _))) (by have:=HSI.out.pv.1;omega));refine zss (CL [(w.heap.size,2,.slice oa i.sc.attrs.length ca),(w.heap.size,3,.slice on i.sc.nested.length cn),(w.heap.size,5,.bool true),(X,0,.int .i64 5),(X,1,.int .i64 np),(X,2,.string sp),(X,3,.slice oip mip cip),(X,4,.slice okp mkp ckp)]) (by kernel_rfl) (by kernel_rfl) (hc) ?_
  repeat ((first
   | (refine wpSteady_skip (by rfl) ?_)
   | (refine wpSteady_calm (v:=?_) (by rfl) ?_ ?_;rotate_left;(focus (intro v hSv;(try simp only [CL] at hSv);go_simp;(try with_reducible rfl);done))));try simp only [Act.put,sA,sZ,sS])
  refine wpSteady_loud rfl (by rfl) (fun K hK=>?_)
  go_simp
  refine HC1.out.mono ?_;rintro e wA ⟨r,rfl,hok,hb⟩;have HVO:=hid hok;have HBA:=hid (HBD.out.trans (hb.mono HBD.out.size));have HVPA:=hid (HVP8.out.bel ((zdd (Below.refl w8.heap.size w8)).trans (hb.mono (nR _))));have HSCA:=hid (HSC8.out.bel ((zdd (Below.refl w8.heap.size w8)).trans (hb.mono (nR _))));refine hK.out _ _ (CL.bel hc hb) ?_;replace hc:=CL.bel hc hb;clear hK K
  try simp only [Act.put,sA,sZ,sS]
  clear hok hb HC1
  by_cases hr:r=0
  case neg =>
   obtain ⟨r3a,r3b,r3c⟩:=tF hr;clear hr
   repeat ((first
    | (refine wpSteady_skip (by rfl) ?_)
    | (refine wpSteady_calm (v:=?_) (by rfl) ?_ ?_;rotate_left;(focus (intro v hSv;(try simp only [CL] at hSv);go_simp;(try with_reducible rfl);done))));try simp only [Act.put,sA,sZ,sS])
   refine zn ?_
   go_wp2_with fail
   go_ret;exact ⟨_,rfl,nF,HBA.out⟩
  have HVO2:=hid (HVO.out hr);obtain ⟨r3a,r3b,r3c⟩:=tT hr;subst hr;clear r3a r3b r3c;have HC2:=hid (rknown_any i.prior.attrs _ wA _ HVPA.out)
  repeat ((first
   | (refine wpSteady_skip (by rfl) ?_)
   | (refine wpSteady_calm (v:=?_) (by rfl) ?_ ?_;rotate_left;(focus (intro v hSv;(try simp only [CL] at hSv);go_simp;(try with_reducible rfl);done))));try simp only [Act.put,sA,sZ,sS])
  refine wpSteady_loud rfl (by rfl) (fun K hK=>?_)
  go_simp
  refine HC2.out.mono ?_;rintro e wB ⟨rfl,hb⟩;have HBB:=hid (HBA.out.trans (hb.mono HBA.out.size));have HVPB:=hid (HVPA.out.bel hb);have HSCB:=hid (HSCA.out.bel hb);refine hK.out _ _ (CL.bel hc hb) ?_;replace hc:=CL.bel hc hb;clear hK K
  try simp only [Act.put,sA,sZ,sS]
  clear hb HC2
  cases hk:knownV i.prior.attrs with
  | false =>
   clear hk
   repeat ((first
    | (refine wpSteady_skip (by rfl) ?_)
    | (refine wpSteady_calm (v:=?_) (by rfl) ?_ ?_;rotate_left;(focus (intro v hSv;(try simp only [CL] at hSv);go_simp;(try with_reducible rfl);done))));try simp only [Act.put,sA,sZ,sS])
   refine zn ?_
   go_wp2_with fail
   go_ret;exact ⟨_,rfl,nF,HBB.out⟩
  | true =>
  have HKN:=hid hk;clear hk;have HC3:=hid (rtype_any i.sc _ wB _ _ HSCB.out ⟨by have:=HSI.out.sc.la;omega,by have:=HSI.out.sc.ln;omega,fun n hn=>by have:=HSI.out.sc.na n hn;omega⟩)
  repeat ((first
   | (refine wpSteady_skip (by rfl) ?_)
   | (refine wpSteady_calm (v:=?_) (by rfl) ?_ ?_;rotate_left;(focus (intro v hSv;(try simp only [CL] at hSv);go_simp;(try with_reducible rfl);done))));try simp only [Act.put,sA,sZ,sS])
  refine wpSteady_loud rfl (by rfl) (fun K hK=>?_)
  go_simp
  refine HC3.out.mono ?_;rintro e wC ⟨u,rfl,hb,hu⟩;have HBC:=hid (HBB.out.trans (hb.mono HBB.out.size));have HVPC:=hid (HVPB.out.bel hb);obtain ⟨_,_,rfl,hE,hN⟩:=hu.out;obtain ⟨oe,ce,rfl⟩:=hE.len;obtain ⟨on8,cn8,rfl⟩:=hN.len;have HTV:=hid hu;have HCT:=hid (HSF2.out.2.2.2.2)
  generalize ((mergeR i.sc.attrs i.sc.nested).map (·.2)).length=m8 at *
  generalize ((mergeR i.sc.attrs i.sc.nested).map (·.1)).length=n8 at *
  refine hK.out _ _ (CL.bel hc hb) ?_;replace hc:=CL.bel hc hb;clear hK K
  try simp only [Act.put,sA,sZ,sS]
  clear hb HC3 hE hN hu;have HC4:=hid (rfits_any i.prior.attrs HVO2.out (typR i.sc) 1 _ _ wC _ _ HCT.out HVPC.out HTV.out)
  repeat ((first
   | (refine wpSteady_skip (by rfl) ?_)
   | (refine wpSteady_calm (v:=?_) (by rfl) ?_ ?_;rotate_left;(focus (intro v hSv;(try simp only [CL] at hSv);go_simp;(try with_reducible rfl);done))));try simp only [Act.put,sA,sZ,sS])
  refine wpSteady_loud rfl (by rfl) (fun K hK=>?_)
  go_simp
  refine HC4.out.mono ?_;rintro e wD ⟨rfl,hb⟩;have HBD2:=hid (HBC.out.trans (hb.mono HBC.out.size));refine hK.out _ _ (CL.bel hc hb) ?_;replace hc:=CL.bel hc hb;clear hK K
  try simp only [Act.put,sA,sZ,sS]
  clear hb HC4
  cases hf:fitsT i.prior.attrs (typR i.sc) with
  | false =>
   clear hf
   repeat ((first
    | (refine wpSteady_skip (by rfl) ?_)
    | (refine wpSteady_calm (v:=?_) (by rfl) ?_ ?_;rotate_left;(focus (intro v hSv;(try simp only [CL] at hSv);go_simp;(try with_reducible rfl);done))));try simp only [Act.put,sA,sZ,sS])
   refine zn ?_
   go_wp2_with fail
   go_ret;exact ⟨_,rfl,nF,HBD2.out⟩
  | true =>
   have HF:=hid (HCF.out fun _=>⟨HK5.out,HVO2.out,HKN.out,hf⟩);clear hf
   repeat ((first
    | (refine wpSteady_skip (by rfl) ?_)
    | (refine wpSteady_calm (v:=?_) (by rfl) ?_ ?_;rotate_left;(focus (intro v hSv;(try simp only [CL] at hSv);go_simp;(try with_reducible rfl);done))));try simp only [Act.put,sA,sZ,sS])
   refine zn ?_
   go_wp2_with fail
   go_ret;exact ⟨_,rfl,fun _=>HF.out,HBD2.out⟩
end Go.Proofs.YtibiiafcnaijeaaGreat
