/- A part. -/
import Derived.Test.YtibiiafcnaijeaaGreatB00
import Derived.Test.YtibiiafcnaijeaaGreatE00
import Derived.Test.YtibiiafcnaijeaaGreatEGetA
import Derived.Test.YtibiiafcnaijeaaGreatERRef
namespace Go.Proofs.YtibiiafcnaijeaaGreat
set_option maxRecDepth 100000
set_option maxHeartbeats 40000000
open Go Go.RowKit Go.Proofs.YtibiiafcnaijeaaGreat.Steady
set_option linter.unusedVariables false
set_option linter.unusedSimpArgs false
theorem decided_any (i:Inp) (x:ByteArray) (P:Nat→Prop) (w:World) (v:Value) (hx:INV P w v i) (hP:∀ g,P g→g < w.heap.size) (hge:(getR i.cnfg x).getD nullV=getN i.cnfg x) :
  Calls Tryz.prog 51 #[v,.string x] w (Ret (.bool (decX i.sc i.cnfg x)) w):=by
 obtain ⟨oa,ca,on,cn,kp,np,sp,oip,mip,cip,okp,mkp,ckp,od,cd,kc,nc,sc,oic,mic,cic,okc,mkc,ckc,og,cg,ot,mt,ct,oD,cD,rfl,hSC,hVP,hSD,hVC,hSG,hSS⟩:=hx;generalize hA:w.alloc (.cells #[.string i.addr,.string i.tname,.slice oa i.sc.attrs.length ca,.slice on i.sc.nested.length cn,.int .i64 i.quota,.bool i.has,.string i.prior.addr,.string i.prior.deposed,.string i.prior.id,.string i.prior.type,.int .i64 kp,.int .i64 np,.string sp,.slice oip mip cip,.slice okp mkp ckp,.int .i64 i.prior.version,.bool i.prior.tainted,.bool i.prior.createFirst,.slice od i.prior.deps.length cd,.int .i64 kc,.int .i64 nc,.string sc,.slice oic mic cic,.slice okc mkc ckc,.bool i.createFirst,.bool i.protect,.slice og i.ignore.length cg,.slice ot mt ct,.bool i.triggered,.bool i.requested,.slice oD i.deps.length cD] 39)=wa
 have a1:Below w.heap.size w wa:=by rw [← hA];exact zaa
 have a2:wa.heap[w.heap.size]? = some (.cells #[.string i.addr,.string i.tname,.slice oa i.sc.attrs.length ca,.slice on i.sc.nested.length cn,.int .i64 i.quota,.bool i.has,.string i.prior.addr,.string i.prior.deposed,.string i.prior.id,.string i.prior.type,.int .i64 kp,.int .i64 np,.string sp,.slice oip mip cip,.slice okp mkp ckp,.int .i64 i.prior.version,.bool i.prior.tainted,.bool i.prior.createFirst,.slice od i.prior.deps.length cd,.int .i64 kc,.int .i64 nc,.string sc,.slice oic mic cic,.slice okc mkc ckc,.bool i.createFirst,.bool i.protect,.slice og i.ignore.length cg,.slice ot mt ct,.bool i.triggered,.bool i.requested,.slice oD i.deps.length cD] 39):=by rw [← hA];exact zhh w _
 have a3:wa.heap.size=w.heap.size + 1:=by rw [← hA];simp
 have HA:=hid hA;have HB1:=hid a1;have HX1:=hid a2;have HS1:=hid a3;have HSC:=hid hSC;have HVC:=hid hVC;have HPL:=hid hP;have HGE:=hid hge;clear hA a1 a2 a3 hSC hVP hSD hVC hSG hSS hP hge;have x2:=(cII HX1.out 2).trans rfl;have x3:=(cII HX1.out 3).trans rfl
 go_enter Tryz.func51,Tryz.ntmps51
 go_upto_region 1 with (fail)
 rw [HA.out]
 go_wp2_with fail
 refine (rfind_any i.sc x P w wa _ _ HSC.out HB1.out).mono ?_;intro e w2 hpost;obtain ⟨z0,z1,z2,z3,z4,z5,z6,z7,md,z9,za,zb,rfl,hb2,hmd⟩:=hpost.mode;obtain ⟨bi,hbi⟩:∃ b,(fndA i.sc.attrs x).isSome=b:=⟨_,rfl⟩;rw [hbi];have HBI:=hid hbi;have HMD:=hid hmd;have HB2:=hid (HB1.out.trans (hb2.mono HB1.out.size));have HX2:=hid (kO HX1.out hb2);clear hpost hbi hmd hb2 x2 x3;generalize hg:w2.alloc (.cells #[.string z0,.int .i64 z1,.slice z2 z3 z4,.slice z5 z6 z7,.int .i64 md,.bool z9,.bool za,.bool zb] 64)=w3
 have d1:Below w2.heap.size w2 w3:=by rw [← hg];exact zaa
 have d2:w3.heap[w2.heap.size]? = some (.cells #[.string z0,.int .i64 z1,.slice z2 z3 z4,.slice z5 z6 z7,.int .i64 md,.bool z9,.bool za,.bool zb] 64):=by rw [← hg];exact zhh w2 _
 obtain ⟨Y4,hY4⟩:∃ Y,w2.heap.size=Y:=⟨_,rfl⟩;rw [hY4] at d2;have HG2:=hid hg;have HY4:=hid hY4;have HB3:=hid (HB2.out.trans (d1.mono HB2.out.size));have HX3:=hid (kO HX2.out d1);have HA3:=hid d2;clear d1 d2 hg hY4
 go_upto_region 2 with (fail)
 rw [HG2.out,HY4.out];obtain ⟨x0,x1,x2,x3,x4,x5,x6,x7,x8,x9,x10,x11,x12,x13,x14,x15,x16,x17,x18,x19,x20,x21,x22,x23,x24,x25,x26,x27,x28,x29,x30⟩:=C31.of HX3.out;clear x0 x1 x2 x3 x4 x5 x6 x7 x8 x9 x10 x11 x12 x13 x14 x15 x16 x17 x18 x24 x25 x26 x27 x28 x29 x30
 go_wp2_with fail
 refine (rget_any i.cnfg x P w3 _ (HVC.out.bel HB3.out) (fun g hg=>by have h1:=HPL.out g hg;have h2:=HB3.out.size;omega)).mono ?_;rintro e w4 ⟨v,rfl,hv,hb4⟩;rw [HGE.out] at hv;generalize (getR i.cnfg x).isSome=b1;obtain ⟨k3,n3,s3,oi3,mi3,ci3,ok3,mk3,ck3,rfl⟩:=hv.agg5;have HKD:Hid (kdV (getN i.cnfg x)=k3):=hid (by obtain ⟨_,_,_,_,_,_,_,_,_,e,-,-,-,-,hk⟩:=hv.five;cases e;exact hk);have HB4:=hid (HB3.out.trans (hb4.mono HB3.out.size));have HA4:=hid (kO HA3.out hb4);clear hv hb4 x19 x20 x21 x22 x23;generalize hg:w4.alloc (.cells #[.int .i64 k3,.int .i64 n3,.string s3,.slice oi3 mi3 ci3,.slice ok3 mk3 ck3] 32)=w5
 have d1:Below w4.heap.size w4 w5:=by rw [← hg];exact zaa
 have d2:w5.heap[w4.heap.size]? = some (.cells #[.int .i64 k3,.int .i64 n3,.string s3,.slice oi3 mi3 ci3,.slice ok3 mk3 ck3] 32):=by rw [← hg];exact zhh w4 _
 obtain ⟨Y5,hY5⟩:∃ Y,w4.heap.size=Y:=⟨_,rfl⟩;rw [hY5] at d2;have HG5:=hid hg;have HY5:=hid hY5;have HB5:=hid (HB4.out.trans (d1.mono HB4.out.size));have m4:=(cII (kO HA4.out d1) 4).trans rfl;have y0:=(cII d2 0).trans rfl;clear d1 d2 hg hY5
 have HD:Hid (decX i.sc i.cnfg x=(!bi || (decide (md=1) || (decide (md=2) || (decide (md=4) && !decide (k3=0)))))):=hid (by
  unfold decX;have h1:=HBI.out;have h2:=HMD.out;rw [HKD.out]
  cases hf:fndA i.sc.attrs x with
  | none=>rw [hf] at h1;rw [← h1];rfl
  | some a=>rw [hf] at h1;rw [← h1];simp only [h2 a hf];rfl)
 go_upto_region 3 with (fail)
 rw [HG5.out,HY5.out]
 cases bi with
 | false =>
  have HV:Hid (decX i.sc i.cnfg x=true):=hid (by rw [HD.out];rfl)
  go_wp2_with fail
  go_ret;rw [HV.out];exact ⟨rfl,HB5.out⟩
 | true =>
 by_cases h1:md=1
 ·have HV:Hid (decX i.sc i.cnfg x=true):=hid (by rw [HD.out,h1];rfl)
  obtain ⟨qa,qb,qc⟩:=tT h1;clear h1
  go_wp2_with fail
  go_ret;rw [HV.out];exact ⟨rfl,HB5.out⟩
 by_cases h2:md=2
 ·have HV:Hid (decX i.sc i.cnfg x=true):=hid (by rw [HD.out,h2];rfl)
  obtain ⟨qa,qb,qc⟩:=tF h1;obtain ⟨pa,pb,pc⟩:=tT h2;clear h1 h2
  go_wp2_with fail
  go_ret;rw [HV.out];exact ⟨rfl,HB5.out⟩
 by_cases h4:md=4
 ·by_cases h0:k3=0
  ·have HV:Hid (decX i.sc i.cnfg x=false):=hid (by rw [HD.out,h4,h0];rfl)
   obtain ⟨qa,qb,qc⟩:=tF h1;obtain ⟨pa,pb,pc⟩:=tF h2;obtain ⟨ra,rb,rc⟩:=tT h4;obtain ⟨ta,tb,tc⟩:=tT h0;clear h1 h2 h4 h0
   go_wp2_with fail
   go_ret;rw [HV.out];exact ⟨rfl,HB5.out⟩
  ·have HV:Hid (decX i.sc i.cnfg x=true):=hid (by rw [HD.out,h4,dF h0];rfl)
   obtain ⟨qa,qb,qc⟩:=tF h1;obtain ⟨pa,pb,pc⟩:=tF h2;obtain ⟨ra,rb,rc⟩:=tT h4;obtain ⟨ta,tb,tc⟩:=tF h0;clear h1 h2 h4 h0
   go_wp2_with fail
   go_ret;rw [HV.out];exact ⟨rfl,HB5.out⟩
 ·have HV:Hid (decX i.sc i.cnfg x=false):=hid (by rw [HD.out,dF h1,dF h2,dF h4];rfl)
  obtain ⟨qa,qb,qc⟩:=tF h1;obtain ⟨pa,pb,pc⟩:=tF h2;obtain ⟨ra,rb,rc⟩:=tF h4;clear h1 h2 h4
  go_wp2_with fail
  go_ret;rw [HV.out];exact ⟨rfl,HB5.out⟩
theorem differs_any (i:Inp) (P:Nat→Prop) (w:World) (v:Value) (hx:INV P w v i) (hP:∀ g,P g→g < w.heap.size) (hn:ValN i) (hh:i.has=true) :
  Calls Tryz.prog 14 #[v] w (Ret (.bool (differsD i)) w):=by
 have HX0:=hid hx;obtain ⟨oa,ca,on,cn,kp,np,sp,oip,mip,cip,okp,mkp,ckp,od,cd,kc,nc,sc,oic,mic,cic,okc,mkc,ckc,og,cg,ot,mt,ct,oD,cD,rfl,hSC,hVP,hSD,hVC,hSG,hSS⟩:=hx;generalize hA:w.alloc (.cells #[.string i.addr,.string i.tname,.slice oa i.sc.attrs.length ca,.slice on i.sc.nested.length cn,.int .i64 i.quota,.bool i.has,.string i.prior.addr,.string i.prior.deposed,.string i.prior.id,.string i.prior.type,.int .i64 kp,.int .i64 np,.string sp,.slice oip mip cip,.slice okp mkp ckp,.int .i64 i.prior.version,.bool i.prior.tainted,.bool i.prior.createFirst,.slice od i.prior.deps.length cd,.int .i64 kc,.int .i64 nc,.string sc,.slice oic mic cic,.slice okc mkc ckc,.bool i.createFirst,.bool i.protect,.slice og i.ignore.length cg,.slice ot mt ct,.bool i.triggered,.bool i.requested,.slice oD i.deps.length cD] 39)=wa
 have a1:Below w.heap.size w wa:=by rw [← hA];exact zaa
 have a2:wa.heap[w.heap.size]? = some (.cells #[.string i.addr,.string i.tname,.slice oa i.sc.attrs.length ca,.slice on i.sc.nested.length cn,.int .i64 i.quota,.bool i.has,.string i.prior.addr,.string i.prior.deposed,.string i.prior.id,.string i.prior.type,.int .i64 kp,.int .i64 np,.string sp,.slice oip mip cip,.slice okp mkp ckp,.int .i64 i.prior.version,.bool i.prior.tainted,.bool i.prior.createFirst,.slice od i.prior.deps.length cd,.int .i64 kc,.int .i64 nc,.string sc,.slice oic mic cic,.slice okc mkc ckc,.bool i.createFirst,.bool i.protect,.slice og i.ignore.length cg,.slice ot mt ct,.bool i.triggered,.bool i.requested,.slice oD i.deps.length cD] 39):=by rw [← hA];exact zhh w _
 have a3:wa.heap.size=w.heap.size + 1:=by rw [← hA];simp
 have HA:=hid hA;have HB1:=hid a1;have HX1:=hid a2;have HS1:=hid a3;have HPL:=hid hP;have HSC:=hid hSC;have HVP:=hid hVP;have HVC:=hid hVC;have HSG:=hid hSG;have HPG:=hid (getR_mkN hn.asc (hn.pr hh).1);have HCG:=hid (getR_mkN hn.asc hn.cf);have hVC2:=hVC;rw [hn.cf] at hVC2;obtain ⟨-,hmi,hmk,hW,hS⟩:=vv_mkN hVC2;have HW:=hid hW;have HSK:=hid hS
 have HDF:Hid ((∃ x∈namesS i.sc,difX i x=true)→differsD i=true):=hid fun ⟨x,hx,h⟩=>List.any_eq_true.2 ⟨x,hx,h⟩
 have HDN:Hid ((∀ x∈namesS i.sc,difX i x=false)→differsD i=false):=hid fun h=>List.any_eq_false.2 fun x hx=>by rw [h x hx];decide
 clear hA a1 a2 a3 hSC hVP hSD hVC hSG hSS hP hn hh hVC2 hW hS
 generalize namesS i.sc=ns at *
 subst hmi;subst hmk;have hlns:=HSK.out.le;have x23:=(cII HX1.out 23).trans rfl
 go_enter Tryz.func14,Tryz.ntmps14
 go_upto_region 1 with (fail)
 rw [HA.out]
 go_wp2_with fail
 go_loopw [3] (fun iv wr=>∃ j:Nat,j≤ns.length∧iv=.int .i64 j∧Hid (Below wa.heap.size wa wr)∧Hid (∀ t (h:t < ns.length),t < j→difX i ns[t]=false)) (fun iv _=>ns.length - (intOf iv).toNat)
 case atStart=>exact ⟨0,Nat.zero_le _,rfl,hid (Below.refl _ _),hid fun t _ h=>absurd h (Nat.not_lt_zero _)⟩
 case round =>
  clear x23;obtain ⟨j,hj,rfl,B1,A⟩:=hrel;have HBR:=hid (HB1.out.trans (B1.out.mono HB1.out.size));have HXR:=hid (kO HX1.out B1.out);obtain ⟨x0,x1,x2,x3,x4,x5,x6,x7,x8,x9,x10,x11,x12,x13,x14,x15,x16,x17,x18,x19,x20,x21,x22,x23,x24,x25,x26,x27,x28,x29,x30⟩:=C31.of HXR.out;clear x0 x1 x2 x3 x4 x5 x6 x7 x8 x9 x15 x16 x17 x18 x19 x20 x21 x22 x24 x25 x26 x27 x28 x29 x30
  by_cases hlt:j < ns.length
  ·obtain ⟨g1,o1,c1,e1,p0⟩:=HSK.out.at hlt
   cases e1
   have hj0:(0:Int)≤(j:Int):=by omega
   have hj1:(j:Int) < (ns.length:Int):=by omega
   replace p0:=zbb HBR.out p0;obtain ⟨y,hy⟩:∃ y,ns[j]=y:=⟨_,rfl⟩;rw [hy] at p0;have HYN:=hid hy;have HP0:=hid p0;clear hy
   go_upto_region 4 with (fail)
   have HGET:Hid (∀ W,Below wr.heap.size wr W→Calls Tryz.prog 18 #[.agg #[.int .i64 kp,.int .i64 np,.string sp,.slice oip mip cip,.slice okp mkp ckp],.string y] W (fun e w'=>∃ u,e=.returned (.tuple #[u,.bool (getR i.prior.attrs y).isSome])∧VV P w' u (getN i.prior.attrs y)∧Below W.heap.size W w')):=hid fun W hb=>by
    have h:=rget_any i.prior.attrs y P W _ (HVP.out.bel (HBR.out.trans (hb.mono HBR.out.size))) (fun g hg=>by have h1:=HPL.out g hg;have h2:=HBR.out.size;have h3:=hb.size;omega);unfold RGetPost at h;rw [HPG.out] at h;exact h
   have HPR:Hid (∀ g,P g→g < wr.heap.size):=hid fun g hg=>by have h1:=HPL.out g hg;have h2:=HBR.out.size;omega
   obtain ⟨wp,rfl⟩:∃ v,v=wr:=⟨_,rfl⟩
   go_cut [4] (fun pv wx=>∃ (Y:Nat) (k9 n9:Int) (s9:ByteArray) (oi9:Option Addr) (mi9 ci9:Nat) (ok9:Option Addr) (mk9 ck9:Nat),pv=.pointer (some ⟨Y,0,none⟩)∧Hid (GA P wp wx Y (.int .i64 k9) (.int .i64 n9) (.string s9) (.slice oi9 mi9 ci9) (.slice ok9 mk9 ck9) (getN i.prior.attrs y)))
   case first =>
    have hc0:CL [(w.heap.size,10,.int .i64 kp),(w.heap.size,11,.int .i64 np),(w.heap.size,12,.string sp),(w.heap.size,13,.slice oip mip cip),(w.heap.size,14,.slice okp mkp ckp),(w.heap.size,23,.slice (some ⟨g1,o1,none⟩) ns.length ckc),(g1,o1 + j,.string y)] wp.drew:=CL.bel (show CL _ wp from ⟨x10,x11,x12,x13,x14,x23,p0,trivial⟩) (zdd (Below.refl _ _));have HLT:=hid (CL.lt hc0);refine wp_region_free 13 9 9 (CL [(w.heap.size,10,.int .i64 kp),(w.heap.size,11,.int .i64 np),(w.heap.size,12,.string sp),(w.heap.size,13,.slice oip mip cip),(w.heap.size,14,.slice okp mkp ckp),(w.heap.size,23,.slice (some ⟨g1,o1,none⟩) ns.length ckc),(g1,o1 + j,.string y)]) (by kernel_rfl) (by kernel_rfl) hc0 ?_ ?_
    ·repeat (first
      | (refine wpSteady_skip (by rfl) ?_;try simp only [Act.put,sA,sZ,sS])
      | (refine wpSteady_calm (v:=?_) (by rfl) ?_ ?_;rotate_left;(focus (intro v hSv;(try simp only [CL] at hSv);go_simp;(try with_reducible rfl);done));try simp only [Act.put,sA,sZ,sS]))
     refine wpSteady_loud rfl (by rfl) (fun K hK=>?_)
     go_simp
     refine (HGET.out wp.drew (zdd (Below.refl _ _))).mono ?_;rintro e w5 ⟨u,rfl,hu,hb5⟩;obtain ⟨k9,n9,s9,oi9,mi9,ci9,ok9,mk9,ck9,rfl⟩:=hu.agg5;have hb5':Below wp.heap.size wp w5:=(zdd (Below.refl _ _)).trans (hb5.mono (nR _));have hc5:=CL.bel hc0 hb5;refine hK.out _ _ (hc5) ?_;clear hK K
     try simp only [Act.put,sA,sZ,sS]
     repeat ((first
      | (refine wpSteady_skip (by rfl) ?_)
      | (refine wpSteady_calm (v:=?_) (by rfl) ?_ ?_;rotate_left;(focus (intro v hSv;(try simp only [CL] at hSv);go_simp;(try with_reducible rfl);done))));try simp only [Act.put,sA,sZ,sS])
     refine wpSteady_loud rfl (by rfl) (fun K hK=>?_)
     go_simp
     have hba:Below w5.heap.size w5 (w5.alloc zero5):=zaa;have hoa:=zhh w5 zero5
     generalize w5.alloc zero5=w6 at *
     have hc6:=CL.bel hc5 hba;refine hK.out _ _ (hc6) ?_;clear hK K
     try simp only [Act.put,sA,sZ,sS]
     repeat ((first
      | (refine wpSteady_skip (by rfl) ?_)
      | (refine wpSteady_calm (v:=?_) (by rfl) ?_ ?_;rotate_left;(focus (intro v hSv;(try simp only [CL] at hSv);go_simp;(try with_reducible rfl);done))));try simp only [Act.put,sA,sZ,sS])
     refine wpSteady_loud rfl (by rfl) (fun K hK=>?_);refine zq 32 _ _ rfl w5.heap.size 0 [_,_,_,_,_] rfl rfl _ _ hoa (by simp) (by kernel_rfl) rfl ?_;intro w7 hz7 hc7;have hle5:wp.heap.size≤w5.heap.size:=hb5'.size;refine hK.out _ _ (CL.chg hc6 hc7 (fun x hx e=>by have h8:x.1 < wp.heap.size:=HLT.out x hx;omega)) ?_;clear hK K hc5 hc6
     try simp only [Act.put,sA,sZ,sS]
     repeat ((first
      | (refine wpSteady_skip (by rfl) ?_)
      | (refine wpSteady_calm (v:=?_) (by rfl) ?_ ?_;rotate_left;(focus (intro v hSv;(try simp only [CL] at hSv);go_simp;(try with_reducible rfl);done))));try simp only [Act.put,sA,sZ,sS])
     refine zn ?_
     go_wp2_with fail
     go_meet;have hGA:=GA.one HPR.out hb5' hu hba hc7 hz7;exact ⟨_,_,_,_,_,_,_,_,_,_,rfl,hid hGA⟩
    ·simp only [mv,List.take_succ_cons,List.take_zero,List.drop_succ_cons,List.drop_zero,List.cons_append,List.nil_append]
     repeat ((first
      | (refine wpSteady_skip (by rfl) ?_)
      | (refine wpSteady_calm (v:=?_) (by rfl) ?_ ?_;rotate_left;(focus (intro v hSv;(try simp only [CL] at hSv);go_simp;(try with_reducible rfl);done))));try simp only [Act.put,sA,sZ,sS])
     refine wpSteady_loud rfl (by rfl) (fun K hK=>?_)
     go_simp
     have hba:Below wp.heap.size wp (wp.alloc zero5).drew:=(zdd (Below.refl _ _)).alloc (nR _) _;have hba0:Below wp.drew.heap.size wp.drew (wp.alloc zero5).drew:=(Below.refl wp.drew.heap.size wp.drew).alloc (nR _) _;have hoa:(wp.alloc zero5).drew.heap[wp.heap.size]? = some zero5:=zhh wp zero5;have hc5:=CL.bel hc0 hba0
     generalize (wp.alloc zero5).drew=w4 at *
     refine hK.out _ _ (hc5) ?_;clear hK K
     try simp only [Act.put,sA,sZ,sS]
     repeat ((first
      | (refine wpSteady_skip (by rfl) ?_)
      | (refine wpSteady_calm (v:=?_) (by rfl) ?_ ?_;rotate_left;(focus (intro v hSv;(try simp only [CL] at hSv);go_simp;(try with_reducible rfl);done))));try simp only [Act.put,sA,sZ,sS])
     refine wpSteady_loud rfl (by rfl) (fun K hK=>?_)
     go_simp
     refine (HGET.out w4 hba).mono ?_;rintro e w5 ⟨u,rfl,hu,hb5⟩;obtain ⟨k9,n9,s9,oi9,mi9,ci9,ok9,mk9,ck9,rfl⟩:=hu.agg5;have hc6:=CL.bel hc5 hb5;have hoa5:=kO hoa hb5;refine hK.out _ _ (hc6) ?_;clear hK K
     try simp only [Act.put,sA,sZ,sS]
     repeat ((first
      | (refine wpSteady_skip (by rfl) ?_)
      | (refine wpSteady_calm (v:=?_) (by rfl) ?_ ?_;rotate_left;(focus (intro v hSv;(try simp only [CL] at hSv);go_simp;(try with_reducible rfl);done))));try simp only [Act.put,sA,sZ,sS])
     refine wpSteady_loud rfl (by rfl) (fun K hK=>?_);refine zq 32 _ _ rfl wp.heap.size 0 [_,_,_,_,_] rfl rfl _ _ hoa5 (by simp) (by kernel_rfl) rfl ?_;intro w7 hz7 hc7;refine hK.out _ _ (CL.chg hc6 hc7 (fun x hx e=>by have h8:x.1 < wp.heap.size:=HLT.out x hx;omega)) ?_;clear hK K hc5 hc6
     try simp only [Act.put,sA,sZ,sS]
     repeat ((first
      | (refine wpSteady_skip (by rfl) ?_)
      | (refine wpSteady_calm (v:=?_) (by rfl) ?_ ?_;rotate_left;(focus (intro v hSv;(try simp only [CL] at hSv);go_simp;(try with_reducible rfl);done))));try simp only [Act.put,sA,sZ,sS])
     refine zn ?_
     go_wp2_with fail
     go_meet;have hGA:=GA.two HPR.out hba hb5 hu hc7 hz7;exact ⟨_,_,_,_,_,_,_,_,_,_,rfl,hid hGA⟩
   case rest =>
    obtain ⟨Y,k9,n9,s9,oi9,mi9,ci9,ok9,mk9,ck9,rfl,G⟩:=hcut;clear x10 x11 x12 x13 x14 x23 p0 HGET;have HBX:=hid (HBR.out.trans (G.out.bel.mono HBR.out.size));have BX:=hid (B1.out.trans (G.out.bel.mono B1.out.size));have HXX:=hid (kO HXR.out G.out.bel);have HV9:=hid G.out.vv;have HO9:=hid G.out.obj;obtain ⟨wq,rfl⟩:∃ v,v=wc:=⟨_,rfl⟩;clear G;obtain ⟨g2,o2,cc,k4,n4,s4,oi4,mi4,ci4,ok4,mk4,ck4,e2,q0,q1,q2,q3,q4,hT,-⟩:=HW.out.at (j:=j) (by rw [List.length_map];exact hlt);rw [List.length_map] at e2
    cases e2
    rw [List.getElem_map,HYN.out] at hT;replace q0:=zbb HBX.out q0;replace q1:=zbb HBX.out q1;replace q2:=zbb HBX.out q2;replace q3:=zbb HBX.out q3;replace q4:=zbb HBX.out q4;have HVT:=hid hT;clear hT;have x22:=(cII HXX.out 22).trans rfl;generalize hg:wq.alloc (.cells #[.int .i64 k4,.int .i64 n4,.string s4,.slice oi4 mi4 ci4,.slice ok4 mk4 ck4] 32)=w5
    have d1:Below wq.heap.size wq w5:=by rw [← hg];exact zaa
    have d2:w5.heap[wq.heap.size]? = some (.cells #[.int .i64 k4,.int .i64 n4,.string s4,.slice oi4 mi4 ci4,.slice ok4 mk4 ck4] 32):=by rw [← hg];exact zhh wq _
    obtain ⟨Y5,hY5⟩:∃ Y,wq.heap.size=Y:=⟨_,rfl⟩;rw [hY5] at d2;have HG5:=hid hg;have HY5:=hid hY5;have HB5:=hid (HBX.out.trans (d1.mono HBX.out.size));have B5:=hid (BX.out.trans (d1.mono BX.out.size));have C5':=hid d1;have HX5:=hid (kO HXX.out d1);have HO5:=hid d2;have HO95:=hid (kO HO9.out d1);clear d1 d2 hg hY5
    go_upto_region 6 with (fail)
    rw [HG5.out,HY5.out];clear x22 q0 q1 q2 q3 q4;have x23:=(cII HX5.out 23).trans rfl;have x26:=(cII HX5.out 26).trans rfl
    have p0:=zbb HB5.out (show w.cell? ⟨g1,o1 + j,none⟩=some (.string y) from by
     obtain ⟨g3,o3,c3,e3,p3⟩:=HSK.out.at hlt
     cases e3
     rw [HYN.out] at p3
     exact p3)
    obtain ⟨u0,u1,u2,u3,u4⟩:=C5.of HO95.out;obtain ⟨v0,v1,v2,v3,v4⟩:=C5.of HO5.out;have HBD:=hid (show Below w.heap.size w w5.drew from zdd HB5.out);have BD:=hid (show Below wa.heap.size wa w5.drew from zdd B5.out);have CD:=hid (show Below wq.heap.size wq w5.drew from zdd C5'.out);have hc:w5.drew.heap[w.heap.size]? = some (.cells #[.string i.addr,.string i.tname,.slice oa i.sc.attrs.length ca,.slice on i.sc.nested.length cn,.int .i64 i.quota,.bool i.has,.string i.prior.addr,.string i.prior.deposed,.string i.prior.id,.string i.prior.type,.int .i64 kp,.int .i64 np,.string sp,.slice oip mip cip,.slice okp mkp ckp,.int .i64 i.prior.version,.bool i.prior.tainted,.bool i.prior.createFirst,.slice od i.prior.deps.length cd,.int .i64 kc,.int .i64 nc,.string sc,.slice (some ⟨g2,o2,none⟩) ns.length cic,.slice (some ⟨g1,o1,none⟩) ns.length ckc,.bool i.createFirst,.bool i.protect,.slice og i.ignore.length cg,.slice ot mt ct,.bool i.triggered,.bool i.requested,.slice oD i.deps.length cD] 39)∧CL [(w.heap.size,23,.slice (some ⟨g1,o1,none⟩) ns.length ckc),(w.heap.size,26,.slice og i.ignore.length cg),(g1,o1 + j,.string y),(Y,0,.int .i64 k9),(Y,1,.int .i64 n9),(Y,2,.string s9),(Y,3,.slice oi9 mi9 ci9),(Y,4,.slice ok9 mk9 ck9),(Y5,0,.int .i64 k4),(Y5,1,.int .i64 n4),(Y5,2,.string s4),(Y5,3,.slice oi4 mi4 ci4),(Y5,4,.slice ok4 mk4 ck4)] w5.drew:=⟨HX5.out,CL.bel (show CL _ w5 from ⟨x23,x26,p0,u0,u1,u2,u3,u4,v0,v1,v2,v3,v4,trivial⟩) (zdd (Below.refl _ _))⟩
    clear x23 x26 p0 u0 u1 u2 u3 u4 v0 v1 v2 v3 v4;have HC1:=hid (decided_any i y P w5.drew _ (HX0.out.bel HBD.out) (fun g hg=>by have h1:=HPL.out g hg;have h2:=HBD.out.size;omega) (HCG.out y));have HDX:=hid (show difX i y=(decX i.sc i.cnfg y && (!hasB i.ignore y && (!knownV (getN i.cnfg y) || !eqV (getN i.prior.attrs y) (getN i.cnfg y)))) from rfl)
    have HNX:Hid (difX i y=false→∀ t (h:t < ns.length),t < j + 1→difX i ns[t]=false):=hid fun hd t ht htj=>by
     by_cases e:t=j
     ·subst e;rw [HYN.out];exact hd
     ·exact A.out t ht (by omega)
    have HYX:Hid (difX i y=true→differsD i=true):=hid fun hd=>HDF.out ⟨y,HYN.out ▸ lM hlt,hd⟩
    clear A;refine zss (fun v=>v.heap[w.heap.size]? = some (.cells #[.string i.addr,.string i.tname,.slice oa i.sc.attrs.length ca,.slice on i.sc.nested.length cn,.int .i64 i.quota,.bool i.has,.string i.prior.addr,.string i.prior.deposed,.string i.prior.id,.string i.prior.type,.int .i64 kp,.int .i64 np,.string sp,.slice oip mip cip,.slice okp mkp ckp,.int .i64 i.prior.version,.bool i.prior.tainted,.bool i.prior.createFirst,.slice od i.prior.deps.length cd,.int .i64 kc,.int .i64 nc,.string sc,.slice (some ⟨g2,o2,none⟩) ns.length cic,.slice (some ⟨g1,o1,none⟩) ns.length ckc,.bool i.createFirst,.bool i.protect,.slice og i.ignore.length cg,.slice ot mt ct,.bool i.triggered,.bool i.requested,.slice oD i.deps.length cD] 39)∧CL [(w.heap.size,23,.slice (some ⟨g1,o1,none⟩) ns.length ckc),(w.heap.size,26,.slice og i.ignore.length cg),(g1,o1 + j,.string y),(Y,0,.int .i64 k9),(Y,1,.int .i64 n9),(Y,2,.string s9),(Y,3,.slice oi9 mi9 ci9),(Y,4,.slice ok9 mk9 ck9),(Y5,0,.int .i64 k4),(Y5,1,.int .i64 n4),(Y5,2,.string s4),(Y5,3,.slice oi4 mi4 ci4),(Y5,4,.slice ok4 mk4 ck4)] v) (by kernel_rfl) (by kernel_rfl) hc ?_
    repeat ((first
     | (refine wpSteady_skip (by rfl) ?_)
     | (refine zll (by rfl) 39 (.tmp 1) rfl (w.heap.size) rfl _ _ (0,0) _ (fun v hv=>hv.1) Tryz.underlying39 rfl (by kernel_rfl) ?_)
     | (refine wpSteady_calm (v:=?_) (by rfl) ?_ ?_;rotate_left;(focus (intro v hSv;replace hSv:=hSv.2;(try simp only [CL] at hSv);go_simp;(try with_reducible rfl);done))));try simp only [Act.put,sA,sZ,sS])
    refine wpSteady_loud rfl (by rfl) (fun K hK=>?_)
    go_simp
    cases hd:decX i.sc i.cnfg y with
    | false =>
     rw [hd] at HC1;have A2:=hid (HNX.out (by rw [HDX.out,hd];rfl));clear hd;refine (HC1.out).mono ?_;rintro e w6 ⟨rfl,hb⟩;have HB6:=hid ((HBD.out).trans (hb.mono (HBD.out).size));have B6:=hid ((BD.out).trans (hb.mono (BD.out).size));have D6:=hid ((CD.out).trans (hb.mono (CD.out).size));refine hK.out _ _ ⟨kO hc.1 hb,CL.bel hc.2 hb⟩ ?_;replace hc:=And.intro (kO hc.1 hb) (CL.bel hc.2 hb);clear hb hK K
     try simp only [Act.put,sA,sZ,sS]
     repeat ((first
      | (refine wpSteady_skip (by rfl) ?_)
      | (refine zll (by rfl) 39 (.tmp 1) rfl (w.heap.size) rfl _ _ (0,0) _ (fun v hv=>hv.1) Tryz.underlying39 rfl (by kernel_rfl) ?_)
      | (refine wpSteady_calm (v:=?_) (by rfl) ?_ ?_;rotate_left;(focus (intro v hSv;replace hSv:=hSv.2;(try simp only [CL] at hSv);go_simp;(try with_reducible rfl);done))));try simp only [Act.put,sA,sZ,sS])
     refine zn ?_
     go_wp2_with fail
     go_roundw
     case rel=>exact ⟨j + 1,by omega,by go_num,B6,A2⟩
     case measure=>simp [intOf];omega
    | true =>
    rw [hd] at HC1;rw [hd,Bool.true_and] at HDX;clear hd;refine (HC1.out).mono ?_;rintro e w6 ⟨rfl,hb⟩;have HB6:=hid ((HBD.out).trans (hb.mono (HBD.out).size));have B6:=hid ((BD.out).trans (hb.mono (BD.out).size));have D6:=hid ((CD.out).trans (hb.mono (CD.out).size));refine hK.out _ _ ⟨kO hc.1 hb,CL.bel hc.2 hb⟩ ?_;replace hc:=And.intro (kO hc.1 hb) (CL.bel hc.2 hb);clear hb hK K
    try simp only [Act.put,sA,sZ,sS]
    have HC2:=hid (has_any i.ignore y P w6 _ (HSG.out.bel HB6.out))
    repeat ((first
     | (refine wpSteady_skip (by rfl) ?_)
     | (refine zll (by rfl) 39 (.tmp 1) rfl (w.heap.size) rfl _ _ (0,0) _ (fun v hv=>hv.1) Tryz.underlying39 rfl (by kernel_rfl) ?_)
     | (refine wpSteady_calm (v:=?_) (by rfl) ?_ ?_;rotate_left;(focus (intro v hSv;replace hSv:=hSv.2;(try simp only [CL] at hSv);go_simp;(try with_reducible rfl);done))));try simp only [Act.put,sA,sZ,sS])
    refine wpSteady_loud rfl (by rfl) (fun K hK=>?_)
    go_simp
    cases hb:hasB i.ignore y with
    | true =>
     rw [hb] at HC2;have A2:=hid (HNX.out (by rw [HDX.out,hb];rfl));clear hb;refine HC2.out.mono ?_;rintro e wz ⟨rfl,rfl⟩;refine hK.out _ _ (hc) ?_;clear hK K
     try simp only [Act.put,sA,sZ,sS]
     repeat ((first
      | (refine wpSteady_skip (by rfl) ?_)
      | (refine zll (by rfl) 39 (.tmp 1) rfl (w.heap.size) rfl _ _ (0,0) _ (fun v hv=>hv.1) Tryz.underlying39 rfl (by kernel_rfl) ?_)
      | (refine wpSteady_calm (v:=?_) (by rfl) ?_ ?_;rotate_left;(focus (intro v hSv;replace hSv:=hSv.2;(try simp only [CL] at hSv);go_simp;(try with_reducible rfl);done))));try simp only [Act.put,sA,sZ,sS])
     refine zn ?_
     go_wp2_with fail
     go_roundw
     case rel=>exact ⟨j + 1,by omega,by go_num,B6,A2⟩
     case measure=>simp [intOf];omega
    | false =>
    rw [hb] at HC2;rw [hb,Bool.not_false,Bool.true_and] at HDX;clear hb;refine HC2.out.mono ?_;rintro e wz ⟨rfl,rfl⟩;refine hK.out _ _ (hc) ?_;clear hK K
    try simp only [Act.put,sA,sZ,sS]
    have HC3:=hid (rknown_any (getN i.cnfg y) P w6 _ (HVT.out.bel HB6.out))
    repeat ((first
     | (refine wpSteady_skip (by rfl) ?_)
     | (refine zll (by rfl) 39 (.tmp 1) rfl (w.heap.size) rfl _ _ (0,0) _ (fun v hv=>hv.1) Tryz.underlying39 rfl (by kernel_rfl) ?_)
     | (refine wpSteady_calm (v:=?_) (by rfl) ?_ ?_;rotate_left;(focus (intro v hSv;replace hSv:=hSv.2;(try simp only [CL] at hSv);go_simp;(try with_reducible rfl);done))));try simp only [Act.put,sA,sZ,sS])
    refine wpSteady_loud rfl (by rfl) (fun K hK=>?_)
    go_simp
    cases hk:knownV (getN i.cnfg y) with
    | false =>
     rw [hk] at HC3;have HDV:=hid (HYX.out (by rw [HDX.out,hk];rfl));clear hk;refine (HC3.out).mono ?_;rintro e w7 ⟨rfl,hb⟩;have HB7:=hid ((HB6.out).trans (hb.mono (HB6.out).size));have B7:=hid ((B6.out).trans (hb.mono (B6.out).size));have D7:=hid ((D6.out).trans (hb.mono (D6.out).size));refine hK.out _ _ ⟨kO hc.1 hb,CL.bel hc.2 hb⟩ ?_;replace hc:=And.intro (kO hc.1 hb) (CL.bel hc.2 hb);clear hb hK K
     try simp only [Act.put,sA,sZ,sS]
     repeat ((first
      | (refine wpSteady_skip (by rfl) ?_)
      | (refine zll (by rfl) 39 (.tmp 1) rfl (w.heap.size) rfl _ _ (0,0) _ (fun v hv=>hv.1) Tryz.underlying39 rfl (by kernel_rfl) ?_)
      | (refine wpSteady_calm (v:=?_) (by rfl) ?_ ?_;rotate_left;(focus (intro v hSv;replace hSv:=hSv.2;(try simp only [CL] at hSv);go_simp;(try with_reducible rfl);done))));try simp only [Act.put,sA,sZ,sS])
     refine zn ?_
     go_wp2_with fail
     go_ret;rw [HDV.out];exact ⟨rfl,HB7.out⟩
    | true =>
    rw [hk] at HC3;rw [hk,Bool.not_true,Bool.false_or] at HDX;clear hk;refine (HC3.out).mono ?_;rintro e w7 ⟨rfl,hb⟩;have HB7:=hid ((HB6.out).trans (hb.mono (HB6.out).size));have B7:=hid ((B6.out).trans (hb.mono (B6.out).size));have D7:=hid ((D6.out).trans (hb.mono (D6.out).size));refine hK.out _ _ ⟨kO hc.1 hb,CL.bel hc.2 hb⟩ ?_;replace hc:=And.intro (kO hc.1 hb) (CL.bel hc.2 hb);clear hb hK K
    try simp only [Act.put,sA,sZ,sS]
    have HC4:=hid (requal_any (getN i.prior.attrs y) (getN i.cnfg y) P P w7 _ _ (HV9.out.bel D7.out) (HVT.out.bel HB7.out))
    repeat ((first
     | (refine wpSteady_skip (by rfl) ?_)
     | (refine zll (by rfl) 39 (.tmp 1) rfl (w.heap.size) rfl _ _ (0,0) _ (fun v hv=>hv.1) Tryz.underlying39 rfl (by kernel_rfl) ?_)
     | (refine wpSteady_calm (v:=?_) (by rfl) ?_ ?_;rotate_left;(focus (intro v hSv;replace hSv:=hSv.2;(try simp only [CL] at hSv);go_simp;(try with_reducible rfl);done))));try simp only [Act.put,sA,sZ,sS])
    refine wpSteady_loud rfl (by rfl) (fun K hK=>?_)
    go_simp
    cases hq:eqV (getN i.prior.attrs y) (getN i.cnfg y) with
    | false =>
     rw [hq] at HC4;have HDV:=hid (HYX.out (by rw [HDX.out,hq];rfl));clear hq;refine (HC4.out).mono ?_;rintro e w8 ⟨rfl,hb⟩;have HB8:=hid ((HB7.out).trans (hb.mono (HB7.out).size));have B8:=hid ((B7.out).trans (hb.mono (B7.out).size));have D8:=hid ((D7.out).trans (hb.mono (D7.out).size));refine hK.out _ _ ⟨kO hc.1 hb,CL.bel hc.2 hb⟩ ?_;replace hc:=And.intro (kO hc.1 hb) (CL.bel hc.2 hb);clear hb hK K
     try simp only [Act.put,sA,sZ,sS]
     repeat ((first
      | (refine wpSteady_skip (by rfl) ?_)
      | (refine zll (by rfl) 39 (.tmp 1) rfl (w.heap.size) rfl _ _ (0,0) _ (fun v hv=>hv.1) Tryz.underlying39 rfl (by kernel_rfl) ?_)
      | (refine wpSteady_calm (v:=?_) (by rfl) ?_ ?_;rotate_left;(focus (intro v hSv;replace hSv:=hSv.2;(try simp only [CL] at hSv);go_simp;(try with_reducible rfl);done))));try simp only [Act.put,sA,sZ,sS])
     refine zn ?_
     go_wp2_with fail
     go_ret;rw [HDV.out];exact ⟨rfl,HB8.out⟩
    | true =>
     rw [hq] at HC4;have A2:=hid (HNX.out (by rw [HDX.out,hq];rfl));clear hq;refine (HC4.out).mono ?_;rintro e w8 ⟨rfl,hb⟩;have HB8:=hid ((HB7.out).trans (hb.mono (HB7.out).size));have B8:=hid ((B7.out).trans (hb.mono (B7.out).size));have D8:=hid ((D7.out).trans (hb.mono (D7.out).size));refine hK.out _ _ ⟨kO hc.1 hb,CL.bel hc.2 hb⟩ ?_;replace hc:=And.intro (kO hc.1 hb) (CL.bel hc.2 hb);clear hb hK K
     try simp only [Act.put,sA,sZ,sS]
     repeat ((first
      | (refine wpSteady_skip (by rfl) ?_)
      | (refine zll (by rfl) 39 (.tmp 1) rfl (w.heap.size) rfl _ _ (0,0) _ (fun v hv=>hv.1) Tryz.underlying39 rfl (by kernel_rfl) ?_)
      | (refine wpSteady_calm (v:=?_) (by rfl) ?_ ?_;rotate_left;(focus (intro v hSv;replace hSv:=hSv.2;(try simp only [CL] at hSv);go_simp;(try with_reducible rfl);done))));try simp only [Act.put,sA,sZ,sS])
     refine zn ?_
     go_wp2_with fail
     go_roundw
     case rel=>exact ⟨j + 1,by omega,by go_num,B8,A2⟩
     case measure=>simp [intOf];omega
  ·have HFN:=hid (HDN.out fun x hx=>by
    obtain ⟨t,ht,rfl⟩:=List.getElem_of_mem hx
    exact A.out t ht (by omega))
   clear A
   go_wp2_with fail
   go_ret;rw [HFN.out];exact ⟨rfl,HBR.out⟩
end Go.Proofs.YtibiiafcnaijeaaGreat
