/- A part. -/
import Derived.Test.YtibiiafcnaijeaaGreatB00
import Derived.Test.YtibiiafcnaijeaaGreatB42
import Derived.Test.YtibiiafcnaijeaaGreatB26
import Derived.Test.YtibiiafcnaijeaaGreatB43
import Derived.Test.YtibiiafcnaijeaaGreatB01
import Derived.Test.YtibiiafcnaijeaaGreatB28
import Derived.Test.YtibiiafcnaijeaaGreatB29
import Derived.Test.YtibiiafcnaijeaaGreatB32
import Derived.Test.YtibiiafcnaijeaaGreatB18
namespace Go.Proofs.YtibiiafcnaijeaaGreat
open Go Go.RowKit Go.Proofs.YtibiiafcnaijeaaGreat.Steady
set_option linter.unusedVariables false
set_option linter.unusedSimpArgs false
set_option maxRecDepth 100000
set_option maxHeartbeats 40000000
structure JC (c:Chg') (w0 W:World) (o1 o2:Option Value):Prop where
 bel:Below w0.heap.size w0 W
 v1:∀ u,o1=some u→CHV (fun _=>True) W u c
 v2:∀ u,o2=some u→CHV (fun _=>True) W u c
section
variable {c:Chg'} {w0 W W':World} {o1 o2:Option Value} {u:Value}
theorem JC.start (c:Chg') (w0:World):JC c w0 w0.drew none none:=⟨zdd (Below.refl _ _),nF,nF⟩
theorem JC.later (h:JC c w0 W o1 o2) (hb:Below W.heap.size W W'):JC c w0 W' o1 o2 :=
 ⟨h.bel.trans (hb.mono h.bel.size),fun u e=>(h.v1 u e).bel hb,fun u e=>(h.v2 u e).bel hb⟩
theorem JC.one (h:JC c w0 W none o2) (hb:Below W.heap.size W W') {n:Nat}(hu:CHV (fun g=>n≤g) W' u c):JC c w0 W' (some u) o2 :=
 ⟨h.bel.trans (hb.mono h.bel.size),fun v e=>by cases e;exact hu.keep (ZK.refl _ _) fun _ _=>trivial,fun u e=>(h.v2 u e).bel hb⟩
theorem JC.two (h:JC c w0 W o1 none) (hb:Below W.heap.size W W') {n:Nat}(hu:CHV (fun g=>n≤g) W' u c):JC c w0 W' o1 (some u) :=
 ⟨h.bel.trans (hb.mono h.bel.size),fun u e=>(h.v1 u e).bel hb,fun v e=>by cases e;exact hu.keep (ZK.refl _ _) fun _ _=>trivial⟩
end
theorem getR_mkN {ns:List ByteArray}{v:Vl}(ha:Asc ns) (h:v=mkN ns (getN v)) (x:ByteArray):(getR v x).getD nullV=getN v x:=by
 have e:getR v x=getV v x:=by rw[h];exact(getV_R x ha).symm
 rw[e];rfl
theorem RAtPost.mode {P:Nat→Prop}{w0:World}{o:Option At}{w w':World}{e:Ending}(h:RAtPost P w0 o w e w') :
  ∃ z0 z1 z2 z3 z4 z5 z6 z7 md z9 za zb,e=.returned (.tuple #[.agg #[.string z0,.int .i64 z1,.slice z2 z3 z4,.slice z5 z6 z7,.int .i64 md,.bool z9,.bool za,.bool zb],.bool o.isSome])∧Below w.heap.size w w'∧∀ a,o=some a→a.mode=md:=by
 obtain⟨u,rfl,hb,hy,hn⟩:=h
 cases o with
 | none=>exact⟨_,_,_,_,_,_,_,_,_,_,_,_,by rw[hn rfl],hb,nF⟩
 | some a =>
  obtain⟨k,oe,me,ce,on2,mn2,cn2,e,-,-⟩:=hy a rfl;exact⟨_,_,_,_,_,_,_,_,_,_,_,_,by rw[e],hb,fun b hb=>by cases hb;rfl⟩
structure GA (P:Nat→Prop) (w0 wx:World) (Y:Nat) (k n s i ks:Value) (t:Vl):Prop where
 bel:Below w0.heap.size w0 wx
 lo:w0.heap.size≤Y
 obj:wx.heap[Y]? = some (.cells #[k,n,s,i,ks] 32)
 vv:VV P wx (.agg #[k,n,s,i,ks]) t
theorem GA.one {P:Nat→Prop}{w0 w5 w6 w7:World}{k n s i ks:Value}{t:Vl}(hP:∀ g,P g→g<w0.heap.size) (hb:Below w0.heap.size w0 w5) (hv:VV P w5 (.agg #[k,n,s,i,ks]) t) (hba:Below w5.heap.size w5 w6) (hc:Chg (fun k=>k=w5.heap.size) w6 w7)
  (hz:w7.heap[w5.heap.size]? = some (.cells #[k,n,s,i,ks] 32)):GA P w0 w7 w5.heap.size k n s i ks t:=by
 have hs:=hb.size;have h6:=hba.size;refine⟨(hb.trans (hba.mono hb.size)).trans (zgg hc (fun k hk=>by omega) (by omega)),hs,hz,(hv.bel hba).keep (ZK.chg hc fun g hg e=>?_) fun _ h=>h⟩;have:=hP g hg;omega
theorem GA.two {P:Nat→Prop}{w0 w1 w5 w7:World}{k n s i ks:Value}{t:Vl}(hP:∀ g,P g→g<w0.heap.size) (h1:Below w0.heap.size w0 w1) (hb:Below w1.heap.size w1 w5) (hv:VV P w5 (.agg #[k,n,s,i,ks]) t) (hc:Chg (fun k=>k=w0.heap.size) w5 w7)
  (hz:w7.heap[w0.heap.size]? = some (.cells #[k,n,s,i,ks] 32)):GA P w0 w7 w0.heap.size k n s i ks t:=by
 have hs:=h1.size;have h6:=hb.size;refine⟨(h1.trans (hb.mono h1.size)).trans (zgg hc (fun k hk=>by omega) (by omega)),nR _,hz,hv.keep (ZK.chg hc fun g hg e=>?_) fun _ h=>h⟩;have:=hP g hg;omega
theorem boxes3 (w:World) (o1 o2 o3:Obj):Below w.heap.size w (((w.alloc o1).alloc o2).alloc o3)∧(((w.alloc o1).alloc o2).alloc o3).heap[w.heap.size]? = some o1∧(((w.alloc o1).alloc o2).alloc o3).heap[w.heap.size+1]? = some o2∧(((w.alloc o1).alloc o2).alloc o3).heap[w.heap.size+2]? = some o3:=by
 have e1:(w.alloc o1).heap.size=w.heap.size+1:=by simp
 have e2:((w.alloc o1).alloc o2).heap.size=w.heap.size+2:=by simp
 refine⟨zaa.trans ((zaa.trans (zaa.mono ?_)).mono ?_),?_,?_,?_⟩
 ·simp
 ·simp
 ·exact kO (kO (zhh w o1) zaa) zaa
 ·rw[←e1];exact kO (zhh _ o2) zaa
 ·rw[←e2];exact zhh _ o3
def namesR (s:Sc):List ByteArray:=(mergeR s.attrs s.nested).map (·.1)
def changedR (s:Sc) (b a:Vl):List ByteArray:=(namesR s).filter fun x=>differV (ofR b x) (ofR a x)
def cfgR (s:Sc) (cnfg:Vl) (x:ByteArray):Bool:=match fndA s.attrs x with
 | none=>true
 | some a=>decide (a.mode=1)||(decide (a.mode=2)||(decide (a.mode=4)&&!decide (kdV (ofR cnfg x)=0)))
theorem mergeR_len:∀ (l:List At) (k:List Ne),(mergeR l k).length=l.length+k.length
 | [],[]=>by rw[mergeR];rfl
 | [],n :: k=>by rw[mergeR,List.length_cons,mergeR_len [] k];simp
 | a :: l,[]=>by rw[mergeR,List.length_cons,mergeR_len l []];simp
 | a :: l,n :: k=>by
  rw[mergeR]
  split
  ·rw[List.length_cons,mergeR_len l (n :: k)];simp;omega
  ·rw[List.length_cons,mergeR_len (a :: l) k];simp;omega
termination_by l k=>l.length+k.length
theorem rnames_any (s:Sc) (P:Nat→Prop) (w:World) (va vn:Value) (hs:SCV P w va vn s) (hok:TyOk s) :
  Calls Tryz.prog 73 #[.agg #[va,vn]] w fun e w'=>∃ u,e=.returned u∧SV (fun _=>True) w' u (namesR s)∧Below w.heap.size w w':=by
 obtain⟨oa,ca,rfl⟩:=hs.1.len;obtain⟨on,cn,rfl⟩:=hs.2.len;have hA:=zhh w (.cells #[.slice oa s.attrs.length ca,.slice on s.nested.length cn] 25);have hb:=zaa (w:=w) (o:=.cells #[.slice oa s.attrs.length ca,.slice on s.nested.length cn] 25)
 generalize hg:w.alloc (.cells #[.slice oa s.attrs.length ca,.slice on s.nested.length cn] 25)=wa at *
 have HG:=hid hg;have HB:=hid hb;have HT:=hid (rtype_any s P wa _ _ (hs.bel hb) hok);have a0:=(cII hA 0).trans rfl;have a1:=(cII hA 1).trans rfl;clear hA hb hg hs hok
 go_enter Tryz.func73,Tryz.ntmps73
 go_upto_region 1 with (fail)
 rw[HG.out]
 go_wp2_with fail
 refine HT.out.mono ?_;rintro e w2 ⟨u,rfl,hb2,hu⟩;have HU:=hid hu;obtain⟨ve,vn2,rfl,hE,hN⟩:=hu.out;obtain⟨oe,ce,rfl⟩:=hE.len;obtain⟨on2,cn2,rfl⟩:=hN.len;have HN:=hid hN;have HB2:=hT HB hb2;clear hu hE hN hb2
 generalize ((mergeR s.attrs s.nested).map (·.2)).length=m2 at *
 obtain⟨m1,hm1⟩:∃ m,((mergeR s.attrs s.nested).map (·.1)).length=m:=⟨_,rfl⟩;rw[hm1] at HN;rw[hm1];clear hm1 HU
 have hfd:∀ w:World,(Instr.field 61 (.agg #[.int .i64 6,.slice oe m2 ce,.slice on2 m1 cn2]) 2).run Tryz.prog w=.ok (.slice on2 m1 cn2) w:=fun _=>by kernel_rfl
 go_wp2_with fail
 clear hfd;go_ret;exact⟨_,rfl,HN.out.keep (ZK.refl _ _) fun _ _=>trivial,HB2.out⟩
theorem rdiffer_any (a b:Vl) (P Q:Nat→Prop) (w:World) (x y:Value) (hx:VV P w x a) (hy:VV Q w y b):Calls Tryz.prog 75 #[x,y] w (Ret (.bool (differV a b)) w):=by
 obtain⟨kp,np,sp,oip,mip,cip,okp,mkp,ckp,rfl⟩:=hx.agg5;obtain⟨kq,nq,sq,oiq,miq,ciq,okq,mkq,ckq,rfl⟩:=hy.agg5;generalize hA:(w.alloc (.cells #[.int .i64 kp,.int .i64 np,.string sp,.slice oip mip cip,.slice okp mkp ckp] 32)).alloc (.cells #[.int .i64 kq,.int .i64 nq,.string sq,.slice oiq miq ciq,.slice okq mkq ckq] 32)=wd
 obtain⟨hb,h1,h2⟩:Below w.heap.size w wd∧wd.heap[w.heap.size]? = some (.cells #[.int .i64 kp,.int .i64 np,.string sp,.slice oip mip cip,.slice okp mkp ckp] 32)∧wd.heap[w.heap.size+1]? = some (.cells #[.int .i64 kq,.int .i64 nq,.string sq,.slice oiq miq ciq,.slice okq mkq ckq] 32):=by
  rw[←hA]
  have e1:(w.alloc (.cells #[.int .i64 kp,.int .i64 np,.string sp,.slice oip mip cip,.slice okp mkp ckp] 32)).heap.size=w.heap.size+1:=by simp
  exact⟨zaa.trans (zaa.mono (by simp)),kO (zhh w _) zaa,by rw[←e1];exact zhh _ _⟩
 have HA:=hid hA;have HB:=hid hb;have HVX:=hid (hx.bel hb);have HVY:=hid (hy.bel hb);obtain⟨b0,b1,b2,b3,b4⟩:=C5.of h1;obtain⟨c0,c1,c2,c3,c4⟩:=C5.of h2;have HD:=hid (show differV a b=(!eqV a b||(!knownV a||!knownV b)) from rfl);clear hA hb h1 h2 hx hy
 go_enter Tryz.func75,Tryz.ntmps75
 go_upto_region 1 with (fail)
 rw[HA.out];have HC1:=hid (requal_any a b _ _ wd _ _ HVX.out HVY.out)
 cases he:eqV a b with
 | false =>
  have HV:=hid (show differV a b=true by rw[HD.out,he];rfl);rw[he] at HC1;clear he
  go_wp2_with fail
  refine HC1.out.mono ?_;rintro e w2 ⟨rfl,hb2⟩;have HB2:=hT HB hb2;clear hb2
  go_wp2_with fail
  go_ret;rw[HV.out];exact⟨rfl,HB2.out⟩
 | true =>
 rw[he] at HC1;rw[he,Bool.not_true,Bool.false_or] at HD;clear he
 go_wp2_with fail
 refine HC1.out.mono ?_;rintro e w2 ⟨rfl,hb2⟩;have HB2:=hT HB hb2;have HVX2:=hid (HVX.out.bel hb2);have HVY2:=hid (HVY.out.bel hb2);have HC2:=hid (rknown_any a _ w2 _ HVX2.out);replace b0:=zbb hb2 b0;replace b1:=zbb hb2 b1;replace b2:=zbb hb2 b2;replace b3:=zbb hb2 b3;replace b4:=zbb hb2 b4;replace c0:=zbb hb2 c0;replace c1:=zbb hb2 c1;replace c2:=zbb hb2 c2;replace c3:=zbb hb2 c3;replace c4:=zbb hb2 c4;clear hb2 HC1
 cases hk:knownV a with
 | false =>
  have HV:=hid (show differV a b=true by rw[HD.out,hk];rfl);rw[hk] at HC2;clear hk
  go_wp2_with fail
  refine HC2.out.mono ?_;rintro e w3 ⟨rfl,hb3⟩;have HB3:=hT HB2 hb3;clear hb3
  go_wp2_with fail
  go_ret;rw[HV.out];exact⟨rfl,HB3.out⟩
 | true =>
 rw[hk] at HC2;rw[hk,Bool.not_true,Bool.false_or] at HD;clear hk
 go_wp2_with fail
 refine HC2.out.mono ?_;rintro e w3 ⟨rfl,hb3⟩;have HB3:=hT HB2 hb3;have HC3:=hid (rknown_any b _ w3 _ (HVY2.out.bel hb3));replace c0:=zbb hb3 c0;replace c1:=zbb hb3 c1;replace c2:=zbb hb3 c2;replace c3:=zbb hb3 c3;replace c4:=zbb hb3 c4;clear hb3 HC2 b0 b1 b2 b3 b4
 cases hk:knownV b with
 | false =>
  have HV:=hid (show differV a b=true by rw[HD.out,hk];rfl);rw[hk] at HC3;clear hk
  go_wp2_with fail
  refine HC3.out.mono ?_;rintro e w4 ⟨rfl,hb4⟩;have HB4:=hT HB3 hb4;clear hb4
  go_wp2_with fail
  go_ret;rw[HV.out];exact⟨rfl,HB4.out⟩
 | true =>
  have HV:=hid (show differV a b=false by rw[HD.out,hk];rfl);rw[hk] at HC3;clear hk
  go_wp2_with fail
  refine HC3.out.mono ?_;rintro e w4 ⟨rfl,hb4⟩;have HB4:=hT HB3 hb4;clear hb4
  go_wp2_with fail
  go_ret;rw[HV.out];exact⟨rfl,HB4.out⟩
theorem rconf_any (s:Sc) (cnfg:Vl) (x:ByteArray) (P Q:Nat→Prop) (w:World) (va vn u:Value) (hs:SCV Q w va vn s) (hu:VV P w u cnfg) (hP:∀ g,P g→g<w.heap.size) :
  Calls Tryz.prog 74 #[.agg #[va,vn],u,.string x] w (Ret (.bool (cfgR s cnfg x)) w):=by
 obtain⟨oa,ca,rfl⟩:=hs.1.len;obtain⟨on,cn,rfl⟩:=hs.2.len;obtain⟨kp,np,sp,oip,mip,cip,okp,mkp,ckp,rfl⟩:=hu.agg5;generalize hA:(w.alloc (.cells #[.slice oa s.attrs.length ca,.slice on s.nested.length cn] 25)).alloc (.cells #[.int .i64 kp,.int .i64 np,.string sp,.slice oip mip cip,.slice okp mkp ckp] 32)=wd
 obtain⟨hb,h1,h2⟩:Below w.heap.size w wd∧wd.heap[w.heap.size]? = some (.cells #[.slice oa s.attrs.length ca,.slice on s.nested.length cn] 25)∧wd.heap[w.heap.size+1]? = some (.cells #[.int .i64 kp,.int .i64 np,.string sp,.slice oip mip cip,.slice okp mkp ckp] 32):=by
  rw[←hA]
  have e1:(w.alloc (.cells #[.slice oa s.attrs.length ca,.slice on s.nested.length cn] 25)).heap.size=w.heap.size+1:=by simp
  exact⟨zaa.trans (zaa.mono (by simp)),kO (zhh w _) zaa,by rw[←e1];exact zhh _ _⟩
 have HA:=hid hA;have HB:=hid hb;have HX:=hid h2;have HAV:=hid hs.1;have HVU:=hid hu;have HPL:=hid hP;have a0:=(cII h1 0).trans rfl;clear hA hb h1 h2 hs hu hP
 go_enter Tryz.func74,Tryz.ntmps74
 go_upto_region 1 with (fail)
 rw[HA.out]
 go_wp2_with fail
 refine(rAttr_any s.attrs x Q w wd _ HAV.out HB.out).mono ?_;intro e w2 hpost;obtain⟨z0,z1,z2,z3,z4,z5,z6,z7,md,z9,za,zb,rfl,hb2,hmd⟩:=hpost.mode;obtain⟨bi,hbi⟩:∃ b,(fndA s.attrs x).isSome=b:=⟨_,rfl⟩;rw[hbi]
 have HD:Hid (cfgR s cnfg x=(!bi||(decide (md=1)||(decide (md=2)||(decide (md=4)&&!decide (kdV (ofR cnfg x)=0)))))):=hid (by
  unfold cfgR
  cases hf:fndA s.attrs x with
  | none=>rw[hf] at hbi;rw[←hbi];rfl
  | some a=>rw[hf] at hbi;rw[←hbi];simp only[hmd a hf];rfl)
 have HB2:=hT HB hb2;have HX2:=kH HX hb2;clear hpost hbi hmd hb2 a0 HX HAV;generalize hg:w2.alloc (.cells #[.string z0,.int .i64 z1,.slice z2 z3 z4,.slice z5 z6 z7,.int .i64 md,.bool z9,.bool za,.bool zb] 64)=w3
 have d1:Below w2.heap.size w2 w3:=by rw[←hg];exact zaa
 have d2:w3.heap[w2.heap.size]? = some (.cells #[.string z0,.int .i64 z1,.slice z2 z3 z4,.slice z5 z6 z7,.int .i64 md,.bool z9,.bool za,.bool zb] 64):=by rw[←hg];exact zhh w2 _
 obtain⟨Y4,hY4⟩:∃ Y,w2.heap.size=Y:=⟨_,rfl⟩;rw[hY4] at d2;have HG2:=hid hg;have HY4:=hid hY4;have HB3:=hT HB2 d1;have HX3:=kH HX2 d1;have m4:=(cII d2 4).trans rfl;clear d1 d2 hg hY4 HX2
 go_upto_region 2 with (fail)
 rw[HG2.out,HY4.out]
 cases bi with
 | false =>
  have HV:Hid (cfgR s cnfg x=true):=hid (by rw[HD.out];rfl)
  go_wp2_with fail
  go_ret;rw[HV.out];exact⟨rfl,HB3.out⟩
 | true =>
 by_cases h1:md=1
 ·have HV:Hid (cfgR s cnfg x=true):=hid (by rw[HD.out,h1];rfl)
  obtain⟨qa,qb,qc⟩:=tT h1;clear h1
  go_wp2_with fail
  go_ret;rw[HV.out];exact⟨rfl,HB3.out⟩
 by_cases h2:md=2
 ·have HV:Hid (cfgR s cnfg x=true):=hid (by rw[HD.out,h2];rfl)
  obtain⟨qa,qb,qc⟩:=tF h1;obtain⟨pa,pb,pc⟩:=tT h2;clear h1 h2
  go_wp2_with fail
  go_ret;rw[HV.out];exact⟨rfl,HB3.out⟩
 by_cases h4:md=4
 ·obtain⟨b0,b1,b2,b3,b4⟩:=C5.of HX3.out
  have HV:Hid (cfgR s cnfg x = !decide (kdV (ofR cnfg x)=0)):=hid (by rw[HD.out,h4];rfl);have HOF:=hid (of_any cnfg x P w3 _ (HVU.out.bel HB3.out) (fun g hg=>Nat.lt_of_lt_of_le (HPL.out g hg) HB3.out.size));obtain⟨qa,qb,qc⟩:=tF h1;obtain⟨pa,pb,pc⟩:=tF h2;obtain⟨ra,rb,rc⟩:=tT h4;clear h1 h2 h4
  go_wp2_with fail
  refine HOF.out.mono ?_;rintro e w4 ⟨u4,rfl,hu4,hb4⟩;obtain⟨k9,n9,s9,oi9,mi9,ci9,ok9,mk9,ck9,rfl⟩:=hu4.agg5;have HKD:Hid (kdV (ofR cnfg x)=k9):=hid (by obtain⟨_,_,_,_,_,_,_,_,_,e,-,-,-,-,hk⟩:=hu4.five;cases e;exact hk);have HB4:=hT HB3 hb4;clear hu4 hb4 HOF
  have hfd:∀ w:World,(Instr.field 32 (.agg #[.int .i64 k9,.int .i64 n9,.string s9,.slice oi9 mi9 ci9,.slice ok9 mk9 ck9]) 0).run Tryz.prog w=.ok (.int .i64 k9) w:=fun _=>by kernel_rfl
  by_cases h0:k9=0
  ·have HV2:Hid (cfgR s cnfg x=false):=hid (by rw[HV.out,HKD.out,h0];rfl)
   obtain⟨ta,tb,tc⟩:=tT h0;clear h0
   go_wp2_with fail
   go_ret;rw[HV2.out];exact⟨rfl,HB4.out⟩
  ·have HV2:Hid (cfgR s cnfg x=true):=hid (by rw[HV.out,HKD.out,dF h0];rfl)
   obtain⟨ta,tb,tc⟩:=tF h0;clear h0
   go_wp2_with fail
   go_ret;rw[HV2.out];exact⟨rfl,HB4.out⟩
 ·have HV:Hid (cfgR s cnfg x=false):=hid (by rw[HD.out,dF h1,dF h2,dF h4];rfl)
  obtain⟨qa,qb,qc⟩:=tF h1;obtain⟨pa,pb,pc⟩:=tF h2;obtain⟨ra,rb,rc⟩:=tF h4;clear h1 h2 h4
  go_wp2_with fail
  go_ret;rw[HV.out];exact⟨rfl,HB3.out⟩
end Go.Proofs.YtibiiafcnaijeaaGreat
