/- A part. -/
import Derived.Test.YtibiiafcnaijeaaGreatB00
import Derived.Test.YtibiiafcnaijeaaGreatE00
import Derived.Test.YtibiiafcnaijeaaGreatEMin
namespace Go.Proofs.YtibiiafcnaijeaaGreat
set_option maxRecDepth 100000
set_option maxHeartbeats 40000000
open Go Go.RowKit Go.Proofs.YtibiiafcnaijeaaGreat.Steady
set_option linter.unusedVariables false
set_option linter.unusedSimpArgs false
theorem boxes3 (w:World) (o1 o2 o3:Obj):Below w.heap.size w (((w.alloc o1).alloc o2).alloc o3)∧(((w.alloc o1).alloc o2).alloc o3).heap[w.heap.size]? = some o1∧(((w.alloc o1).alloc o2).alloc o3).heap[w.heap.size + 1]? = some o2∧(((w.alloc o1).alloc o2).alloc o3).heap[w.heap.size + 2]? = some o3:=by
 have e1:(w.alloc o1).heap.size=w.heap.size + 1:=by simp
 have e2:((w.alloc o1).alloc o2).heap.size=w.heap.size + 2:=by simp
 refine ⟨zaa.trans ((zaa.trans (zaa.mono ?_)).mono ?_),?_,?_,?_⟩
 ·simp
 ·simp
 ·exact kO (kO (zhh w o1) zaa) zaa
 ·rw [← e1];exact kO (zhh _ o2) zaa
 ·rw [← e2];exact zhh _ o3
def AccPost (s:Sc) (p f:Vl) (w:World) (e:Ending) (w':World):Prop:=∃ b:Bool,e=.returned (.bool b)∧(b=true→VOk f∧knownV f=true∧fitsT f (typR s)=true∧refV f p=true)∧Below w.heap.size w w'
theorem accepts_any (s:Sc) (p f:Vl) (P Q R:Nat→Prop) (w:World) (va vn x y:Value) (hs:SCV P w va vn s) (hp:VV Q w x p) (hf:VV R w y f) (hsz:szV f≤1000000000000) (hty:TyOk s) (hct:checkT (typR s) 1=0) :
  Calls Tryz.prog 17 #[.agg #[va,vn],x,y] w (AccPost s p f w):=by
 obtain ⟨oa,ca,rfl⟩:=hs.1.len;obtain ⟨on,cn,rfl⟩:=hs.2.len;obtain ⟨kp,np,sp,oip,mip,cip,okp,mkp,ckp,rfl⟩:=hp.agg5;obtain ⟨kq,nq,sq,oiq,miq,ciq,okq,mkq,ckq,rfl⟩:=hf.agg5;generalize hA:((w.alloc (.cells #[.slice oa s.attrs.length ca,.slice on s.nested.length cn] 25)).alloc (.cells #[.int .i64 kp,.int .i64 np,.string sp,.slice oip mip cip,.slice okp mkp ckp] 32)).alloc (.cells #[.int .i64 kq,.int .i64 nq,.string sq,.slice oiq miq ciq,.slice okq mkq ckq] 32)=wd
 obtain ⟨hb,h0,h1,h2⟩:Below w.heap.size w wd∧wd.heap[w.heap.size]? = some (.cells #[.slice oa s.attrs.length ca,.slice on s.nested.length cn] 25)∧wd.heap[w.heap.size + 1]? = some (.cells #[.int .i64 kp,.int .i64 np,.string sp,.slice oip mip cip,.slice okp mkp ckp] 32)∧wd.heap[w.heap.size + 2]? = some (.cells #[.int .i64 kq,.int .i64 nq,.string sq,.slice oiq miq ciq,.slice okq mkq ckq] 32):=by
  rw [← hA];exact boxes3 w _ _ _
 have HA:=hid hA;have HB:=hid hb;have HSC:=hid hs;have HVP:=hid hp;have HVF:=hid hf;have HTY:=hid hty;have HCT:=hid hct;have a0:=(cII h0 0).trans rfl;have a1:=(cII h0 1).trans rfl;obtain ⟨b0,b1,b2,b3,b4⟩:=C5.of h1;obtain ⟨c0,c1,c2,c3,c4⟩:=C5.of h2;have HBD:=hid (show Below w.heap.size w wd.drew from zdd hb);have hc:CL [(w.heap.size,0,.slice oa s.attrs.length ca),(w.heap.size,1,.slice on s.nested.length cn),(w.heap.size + 1,0,.int .i64 kp),(w.heap.size + 1,1,.int .i64 np),(w.heap.size + 1,2,.string sp),(w.heap.size + 1,3,.slice oip mip cip),(w.heap.size + 1,4,.slice okp mkp ckp),(w.heap.size + 2,0,.int .i64 kq),(w.heap.size + 2,1,.int .i64 nq),(w.heap.size + 2,2,.string sq),(w.heap.size + 2,3,.slice oiq miq ciq),(w.heap.size + 2,4,.slice okq mkq ckq)] wd.drew:=CL.bel (show CL _ wd from ⟨a0,a1,b0,b1,b2,b3,b4,c0,c1,c2,c3,c4,trivial⟩) (zdd (Below.refl _ _))
 have HC1:=hid (ovcheck_any R wd.drew _ _ (HVF.out.bel HBD.out) hsz);clear hA hb h0 h1 h2 a0 a1 b0 b1 b2 b3 b4 c0 c1 c2 c3 c4 hs hp hf hty hct hsz
 go_enter Tryz.func17,Tryz.ntmps17
 go_upto_region 1 with (fail)
 rw [HA.out];refine zss (CL [(w.heap.size,0,.slice oa s.attrs.length ca),(w.heap.size,1,.slice on s.nested.length cn),(w.heap.size + 1,0,.int .i64 kp),(w.heap.size + 1,1,.int .i64 np),(w.heap.size + 1,2,.string sp),(w.heap.size + 1,3,.slice oip mip cip),(w.heap.size + 1,4,.slice okp mkp ckp),(w.heap.size + 2,0,.int .i64 kq),(w.heap.size + 2,1,.int .i64 nq),(w.heap.size + 2,2,.string sq),(w.heap.size + 2,3,.slice oiq miq ciq),(w.heap.size + 2,4,.slice okq mkq ckq)]) (by kernel_rfl) (by kernel_rfl) (hc) ?_
 repeat ((first
  | (refine wpSteady_skip (by rfl) ?_)
  | (refine wpSteady_calm (v:=?_) (by rfl) ?_ ?_;rotate_left;(focus (intro v hSv;(try simp only [CL] at hSv);go_simp;(try with_reducible rfl);done))));try simp only [Act.put,sA,sZ,sS])
 refine wpSteady_loud rfl (by rfl) (fun K hK=>?_)
 go_simp
 refine HC1.out.mono ?_;rintro e wA ⟨r,rfl,hok,hb⟩;have HVO:=hid hok;have HBA:=hid (HBD.out.trans (hb.mono HBD.out.size));refine hK.out _ _ (CL.bel hc hb) ?_;replace hc:=CL.bel hc hb;clear hK K
 try simp only [Act.put,sA,sZ,sS]
 clear hok hb HC1
 by_cases hr:r=0
 case neg =>
  obtain ⟨r3a,r3b,r3c⟩:=tF hr;clear hr
  repeat ((first
   | (refine wpSteady_skip (by rfl) ?_)
   | (refine wpSteady_calm (v:=?_) (by rfl) ?_ ?_;rotate_left;(focus (intro v hSv;(try simp only [CL] at hSv);go_simp;(try with_reducible rfl);done))));try simp only [Act.put,sA,sZ,sS])
  refine zn ?_
  go_wp2_with fail
  go_ret;exact ⟨_,rfl,nF,HBA.out⟩
 have HVO2:=hid (HVO.out hr);obtain ⟨r3a,r3b,r3c⟩:=tT hr;subst hr;clear r3a r3b r3c;have HC2:=hid (rknown_any f _ wA _ (HVF.out.bel HBA.out))
 repeat ((first
  | (refine wpSteady_skip (by rfl) ?_)
  | (refine wpSteady_calm (v:=?_) (by rfl) ?_ ?_;rotate_left;(focus (intro v hSv;(try simp only [CL] at hSv);go_simp;(try with_reducible rfl);done))));try simp only [Act.put,sA,sZ,sS])
 refine wpSteady_loud rfl (by rfl) (fun K hK=>?_)
 go_simp
 refine HC2.out.mono ?_;rintro e wB ⟨rfl,hb⟩;have HBB:=hid (HBA.out.trans (hb.mono HBA.out.size));refine hK.out _ _ (CL.bel hc hb) ?_;replace hc:=CL.bel hc hb;clear hK K
 try simp only [Act.put,sA,sZ,sS]
 clear hb HC2
 cases hk:knownV f with
 | false =>
  clear hk
  repeat ((first
   | (refine wpSteady_skip (by rfl) ?_)
   | (refine wpSteady_calm (v:=?_) (by rfl) ?_ ?_;rotate_left;(focus (intro v hSv;(try simp only [CL] at hSv);go_simp;(try with_reducible rfl);done))));try simp only [Act.put,sA,sZ,sS])
  refine zn ?_
  go_wp2_with fail
  go_ret;exact ⟨_,rfl,nF,HBB.out⟩
 | true =>
 have HKN:=hid hk;clear hk;have HC3:=hid (rtype_any s _ wB _ _ (HSC.out.bel HBB.out) HTY.out)
 repeat ((first
  | (refine wpSteady_skip (by rfl) ?_)
  | (refine wpSteady_calm (v:=?_) (by rfl) ?_ ?_;rotate_left;(focus (intro v hSv;(try simp only [CL] at hSv);go_simp;(try with_reducible rfl);done))));try simp only [Act.put,sA,sZ,sS])
 refine wpSteady_loud rfl (by rfl) (fun K hK=>?_)
 go_simp
 refine HC3.out.mono ?_;rintro e wC ⟨u,rfl,hb,hu⟩;have HBC:=hid (HBB.out.trans (hb.mono HBB.out.size));obtain ⟨_,_,rfl,hE,hN⟩:=hu.out;obtain ⟨oe,ce,rfl⟩:=hE.len;obtain ⟨on8,cn8,rfl⟩:=hN.len;have HTV:=hid hu
 generalize ((mergeR s.attrs s.nested).map (·.2)).length=m8 at *
 generalize ((mergeR s.attrs s.nested).map (·.1)).length=n8 at *
 refine hK.out _ _ (CL.bel hc hb) ?_;replace hc:=CL.bel hc hb;clear hK K
 try simp only [Act.put,sA,sZ,sS]
 clear hb HC3 hE hN hu;have HC4:=hid (rfits_any f HVO2.out (typR s) 1 _ _ wC _ _ HCT.out (HVF.out.bel HBC.out) HTV.out)
 repeat ((first
  | (refine wpSteady_skip (by rfl) ?_)
  | (refine wpSteady_calm (v:=?_) (by rfl) ?_ ?_;rotate_left;(focus (intro v hSv;(try simp only [CL] at hSv);go_simp;(try with_reducible rfl);done))));try simp only [Act.put,sA,sZ,sS])
 refine wpSteady_loud rfl (by rfl) (fun K hK=>?_)
 go_simp
 refine HC4.out.mono ?_;rintro e wD ⟨rfl,hb⟩;have HBD2:=hid (HBC.out.trans (hb.mono HBC.out.size));refine hK.out _ _ (CL.bel hc hb) ?_;replace hc:=CL.bel hc hb;clear hK K
 try simp only [Act.put,sA,sZ,sS]
 clear hb HC4
 cases hf:fitsT f (typR s) with
 | false =>
  clear hf
  repeat ((first
   | (refine wpSteady_skip (by rfl) ?_)
   | (refine wpSteady_calm (v:=?_) (by rfl) ?_ ?_;rotate_left;(focus (intro v hSv;(try simp only [CL] at hSv);go_simp;(try with_reducible rfl);done))));try simp only [Act.put,sA,sZ,sS])
  refine zn ?_
  go_wp2_with fail
  go_ret;exact ⟨_,rfl,nF,HBD2.out⟩
 | true =>
  have HFT:=hid hf;clear hf;have HC5:=hid (rrefines_any f p _ _ wD _ _ (HVF.out.bel HBD2.out) (HVP.out.bel HBD2.out))
  repeat ((first
   | (refine wpSteady_skip (by rfl) ?_)
   | (refine wpSteady_calm (v:=?_) (by rfl) ?_ ?_;rotate_left;(focus (intro v hSv;(try simp only [CL] at hSv);go_simp;(try with_reducible rfl);done))));try simp only [Act.put,sA,sZ,sS])
  refine wpSteady_loud rfl (by rfl) (fun K hK=>?_)
  go_simp
  refine HC5.out.mono ?_;rintro e wE ⟨rfl,hb⟩;have HBE:=hid (HBD2.out.trans (hb.mono HBD2.out.size));refine hK.out _ _ (CL.bel hc hb) ?_;replace hc:=CL.bel hc hb;clear hK K
  try simp only [Act.put,sA,sZ,sS]
  clear hb HC5
  cases hr:refV f p with
  | false =>
   clear hr
   repeat ((first
    | (refine wpSteady_skip (by rfl) ?_)
    | (refine wpSteady_calm (v:=?_) (by rfl) ?_ ?_;rotate_left;(focus (intro v hSv;(try simp only [CL] at hSv);go_simp;(try with_reducible rfl);done))));try simp only [Act.put,sA,sZ,sS])
   refine zn ?_
   go_wp2_with fail
   go_ret;exact ⟨_,rfl,nF,HBE.out⟩
  | true =>
   have HRF:=hid hr;clear hr
   repeat ((first
    | (refine wpSteady_skip (by rfl) ?_)
    | (refine wpSteady_calm (v:=?_) (by rfl) ?_ ?_;rotate_left;(focus (intro v hSv;(try simp only [CL] at hSv);go_simp;(try with_reducible rfl);done))));try simp only [Act.put,sA,sZ,sS])
   refine zn ?_
   go_wp2_with fail
   go_ret;exact ⟨_,rfl,fun _=>⟨HVO2.out,HKN.out,HFT.out,HRF.out⟩,HBE.out⟩
end Go.Proofs.YtibiiafcnaijeaaGreat
