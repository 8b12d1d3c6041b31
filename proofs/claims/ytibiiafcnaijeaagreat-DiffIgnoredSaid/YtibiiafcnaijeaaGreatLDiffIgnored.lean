/- The statement DiffIgnored holds of the given program for every input. -/
import Derived.Test.YtibiiafcnaijeaaGreatB00
import Derived.Test.YtibiiafcnaijeaaGreatB45
namespace Go.Proofs.YtibiiafcnaijeaaGreat.diffIgnored
open Go Go.ChangeShapes Go.WideShapes Go.ChangeAt Go.RowKit Go.Proofs.YtibiiafcnaijeaaGreat.Steady
set_option linter.unusedVariables false
set_option linter.unusedSimpArgs false
set_option maxRecDepth 100000
set_option maxHeartbeats 40000000
theorem plain {i:Inp} {o:Vl} (hi:ValI i) (ho:ValI { i with cnfg:=o }) (hh:i.has=true) :
  Asc (namesS i.sc)∧i.cnfg=mkN (namesS i.sc) (getN i.cnfg)∧(∀ x,(getR o x).getD nullV=getN o x)∧((∀ x∈namesS i.sc,x∈ignN i.sc i.ignore∨getN i.cnfg x=getN o x)→changeD { i with cnfg:=o } = changeD i):=by
 have ni:=hi.names;have no:=ho.names;exact ⟨ni.asc,ni.cf,getR_mkN ni.asc no.cf,ignored_same ni no hh⟩
theorem keep2 {w w':World} {b1 b2:Nat} {o1 o2:Obj} (h:w.heap[b1]? = some o1∧w.heap[b2]? = some o2) (hb:Below w.heap.size w w'):w'.heap[b1]? = some o1∧w'.heap[b2]? = some o2:=⟨kO h.1 hb,kO h.2 hb⟩
theorem walk (w:World) (x u:Value) (i:Inp) (o:Vl) (hx:INV (fun _=>True) w x i) (hu:VV (fun _=>True) w u o):Calls Tryz.prog 6 #[x,u] w (Ret (.bool true) w):=by
 have HX0:=hid hx;obtain ⟨oa,ca,on,cn,kp,np,sp,oip,mip,cip,okp,mkp,ckp,od,cd,kc,nc,sc,oic,mic,cic,okc,mkc,ckc,og,cg,ot,mt,ct,oD,cD,rfl,hSC,hVP,hSD,hVC,hSG,hSS⟩:=hx;obtain ⟨k2,n2,s2,oi2,mi2,ci2,ok2,mk2,ck2,rfl⟩:=hu.agg5;have HY0:Hid (INV (fun _=>True) w (.agg #[.string i.addr,.string i.tname,.slice oa i.sc.attrs.length ca,.slice on i.sc.nested.length cn,.int .i64 i.quota,.bool i.has,.string i.prior.addr,.string i.prior.deposed,.string i.prior.id,.string i.prior.type,.int .i64 kp,.int .i64 np,.string sp,.slice oip mip cip,.slice okp mkp ckp,.int .i64 i.prior.version,.bool i.prior.tainted,.bool i.prior.createFirst,.slice od i.prior.deps.length cd,.int .i64 k2,.int .i64 n2,.string s2,.slice oi2 mi2 ci2,.slice ok2 mk2 ck2,.bool i.createFirst,.bool i.protect,.slice og i.ignore.length cg,.slice ot mt ct,.bool i.triggered,.bool i.requested,.slice oD i.deps.length cD]) { i with cnfg:=o }):=hid ⟨oa,ca,on,cn,kp,np,sp,oip,mip,cip,okp,mkp,ckp,od,cd,k2,n2,s2,oi2,mi2,ci2,ok2,mk2,ck2,og,cg,ot,mt,ct,oD,cD,rfl,hSC,hVP,hSD,hu,hSG,hSS⟩
 have HU:=hid hu.ex;have HSC:Hid (SCV (fun g=>True∧g < w.heap.size) w _ _ i.sc):=hid ⟨hSC.1.ex,hSC.2.ex⟩;have HVC:=hid hVC;have HSG:=hid hSG;generalize hA:w.alloc (.cells #[.string i.addr,.string i.tname,.slice oa i.sc.attrs.length ca,.slice on i.sc.nested.length cn,.int .i64 i.quota,.bool i.has,.string i.prior.addr,.string i.prior.deposed,.string i.prior.id,.string i.prior.type,.int .i64 kp,.int .i64 np,.string sp,.slice oip mip cip,.slice okp mkp ckp,.int .i64 i.prior.version,.bool i.prior.tainted,.bool i.prior.createFirst,.slice od i.prior.deps.length cd,.int .i64 kc,.int .i64 nc,.string sc,.slice oic mic cic,.slice okc mkc ckc,.bool i.createFirst,.bool i.protect,.slice og i.ignore.length cg,.slice ot mt ct,.bool i.triggered,.bool i.requested,.slice oD i.deps.length cD] 39)=wa
 have a1:Below w.heap.size w wa:=by rw [← hA];exact zaa
 have a2:wa.heap[w.heap.size]? = some (.cells #[.string i.addr,.string i.tname,.slice oa i.sc.attrs.length ca,.slice on i.sc.nested.length cn,.int .i64 i.quota,.bool i.has,.string i.prior.addr,.string i.prior.deposed,.string i.prior.id,.string i.prior.type,.int .i64 kp,.int .i64 np,.string sp,.slice oip mip cip,.slice okp mkp ckp,.int .i64 i.prior.version,.bool i.prior.tainted,.bool i.prior.createFirst,.slice od i.prior.deps.length cd,.int .i64 kc,.int .i64 nc,.string sc,.slice oic mic cic,.slice okc mkc ckc,.bool i.createFirst,.bool i.protect,.slice og i.ignore.length cg,.slice ot mt ct,.bool i.triggered,.bool i.requested,.slice oD i.deps.length cD] 39):=by rw [← hA];exact zhh w _
 have a3:wa.heap.size=w.heap.size + 1:=by rw [← hA];simp
 generalize hB:wa.alloc (.cells #[.int .i64 k2,.int .i64 n2,.string s2,.slice oi2 mi2 ci2,.slice ok2 mk2 ck2] 32)=wb
 have b1:Below wa.heap.size wa wb:=by rw [← hB];exact zaa
 have b2:wb.heap[w.heap.size + 1]? = some (.cells #[.int .i64 k2,.int .i64 n2,.string s2,.slice oi2 mi2 ci2,.slice ok2 mk2 ck2] 32):=by rw [← hB,← a3];exact zhh wa _
 have b3:wb.heap.size=w.heap.size + 2:=by rw [← hB];simp [a3]
 generalize hC:wb.alloc (.cells #[.string ⟨#[]⟩,.string ⟨#[]⟩,.slice none 0 0,.slice none 0 0,.int .i64 0,.bool false,.string ⟨#[]⟩,.string ⟨#[]⟩,.string ⟨#[]⟩,.string ⟨#[]⟩,.int .i64 0,.int .i64 0,.string ⟨#[]⟩,.slice none 0 0,.slice none 0 0,.int .i64 0,.bool false,.bool false,.slice none 0 0,.int .i64 0,.int .i64 0,.string ⟨#[]⟩,.slice none 0 0,.slice none 0 0,.bool false,.bool false,.slice none 0 0,.slice none 0 0,.bool false,.bool false,.slice none 0 0] 39)=wc
 have c1:Below wb.heap.size wb wc:=by rw [← hC];exact zaa
 have c2:wc.heap[w.heap.size + 2]? = some (.cells #[.string ⟨#[]⟩,.string ⟨#[]⟩,.slice none 0 0,.slice none 0 0,.int .i64 0,.bool false,.string ⟨#[]⟩,.string ⟨#[]⟩,.string ⟨#[]⟩,.string ⟨#[]⟩,.int .i64 0,.int .i64 0,.string ⟨#[]⟩,.slice none 0 0,.slice none 0 0,.int .i64 0,.bool false,.bool false,.slice none 0 0,.int .i64 0,.int .i64 0,.string ⟨#[]⟩,.slice none 0 0,.slice none 0 0,.bool false,.bool false,.slice none 0 0,.slice none 0 0,.bool false,.bool false,.slice none 0 0] 39):=by rw [← hC,← b3];exact zhh wb _
 have HA:=hid hA;have HBB:=hid hB;have HCC:=hid hC;have HS2:=hid b3;have HXB:=hid (kO a2 b1);have HB1:=hid (a1.trans ((b1.trans (c1.mono b1.size)).mono a1.size));have HX1:=hid (kO (kO a2 b1) c1);have HU1:=hid (kO b2 c1);have HZ:=hid c2;have HUB:=hid b2;clear hA hB hC a1 a2 a3 b1 b2 b3 c1 c2 hSC hVP hSD hVC hSG hSS hu
 go_enter Tryz.func6,Tryz.ntmps6
 go_upto_region 1 with (fail)
 rw [HA.out,HBB.out]
 go_upto_region 2 with (first | (refine wpList_load_row rfl 39 (.tmp 2) rfl (w.heap.size) rfl _ _ (0,0) _ HXB.out Tryz.underlying39 rfl (by kernel_rfl) ?_) | (rw [HCC.out,HS2.out];refine zo rfl 39 _ _ rfl (w.heap.size + 2) 0 [_,_,_,_,_,_,_,_,_,_,_,_,_,_,_,_,_,_,_,_,_,_,_,_,_,_,_,_,_,_,_] rfl rfl _ _ HZ.out (by simp) (by kernel_rfl) rfl ?_;intro w3 hz3 hc3))
 have HB3:=hid (HB1.out.trans (zgg hc3 (fun k hk=>by omega) HB1.out.size));have HZ3:Hid (w3.heap[w.heap.size + 2]? = some (.cells #[.string i.addr,.string i.tname,.slice oa i.sc.attrs.length ca,.slice on i.sc.nested.length cn,.int .i64 i.quota,.bool i.has,.string i.prior.addr,.string i.prior.deposed,.string i.prior.id,.string i.prior.type,.int .i64 kp,.int .i64 np,.string sp,.slice oip mip cip,.slice okp mkp ckp,.int .i64 i.prior.version,.bool i.prior.tainted,.bool i.prior.createFirst,.slice od i.prior.deps.length cd,.int .i64 kc,.int .i64 nc,.string sc,.slice oic mic cic,.slice okc mkc ckc,.bool i.createFirst,.bool i.protect,.slice og i.ignore.length cg,.slice ot mt ct,.bool i.triggered,.bool i.requested,.slice oD i.deps.length cD] 39)):=hid hz3;have HX3:=hid ((hc3.block _ (aS HX1.out).1 (by omega)).trans HX1.out);have HU3:=hid ((hc3.block _ (aS HU1.out).1 (by omega)).trans HU1.out)
 clear hz3 hc3 HX1 HU1 HZ HUB HXB;obtain ⟨u0,u1,u2,u3,u4⟩:=C5.of HU3.out
 go_upto_region 3 with (refine zo rfl 32 _ _ rfl (w.heap.size + 2) 19 [_,_,_,_,_] rfl rfl _ _ HZ3.out (by simp) (by kernel_rfl) rfl ?_;intro w4 hz4 hc4)
 have HB4:=hid (HB3.out.trans (zgg hc4 (fun k hk=>by omega) HB3.out.size));have HY4:Hid (w4.heap[w.heap.size + 2]? = some (.cells #[.string i.addr,.string i.tname,.slice oa i.sc.attrs.length ca,.slice on i.sc.nested.length cn,.int .i64 i.quota,.bool i.has,.string i.prior.addr,.string i.prior.deposed,.string i.prior.id,.string i.prior.type,.int .i64 kp,.int .i64 np,.string sp,.slice oip mip cip,.slice okp mkp ckp,.int .i64 i.prior.version,.bool i.prior.tainted,.bool i.prior.createFirst,.slice od i.prior.deps.length cd,.int .i64 k2,.int .i64 n2,.string s2,.slice oi2 mi2 ci2,.slice ok2 mk2 ck2,.bool i.createFirst,.bool i.protect,.slice og i.ignore.length cg,.slice ot mt ct,.bool i.triggered,.bool i.requested,.slice oD i.deps.length cD] 39)):=hid hz4;have HX4:=hid ((hc4.block _ (aS HX3.out).1 (by omega)).trans HX3.out);have HU4:=hid ((hc4.block _ (aS HU3.out).1 (by omega)).trans HU3.out)
 clear hz4 hc4 HX3 HU3 HZ3 u0 u1 u2 u3 u4
 go_wp2_with (refine wpList_load_row rfl 39 (.tmp 2) rfl (w.heap.size) rfl _ _ (0,0) _ HX4.out Tryz.underlying39 rfl (by kernel_rfl) ?_)
 refine (valI_any i _ w4 _ (HX0.out.bel HB4.out)).mono ?_;rintro e w5 ⟨b,rfl,hv,hb5⟩;have HB5:=hid (HB4.out.trans (hb5.mono HB4.out.size));have HX5:=hid (kO HX4.out hb5);have HU5:=hid (kO HU4.out hb5);have HY5:=hid (kO HY4.out hb5);have HV:=hid hv;clear hv hb5 HX4 HU4 HY4
 cases b with
 | false =>
  go_wp2_with fail
  refine (awake_any _).mono ?_;rintro e wz ⟨rfl,hb⟩;have HBZ:=hid ((HB5.out).trans (hb.mono (HB5.out).size));clear hb
  go_wp2_with fail
  go_ret;exact ⟨rfl,HBZ.out⟩
 | true =>
 have HVX:=hid (HV.out rfl);clear HV;obtain ⟨x0,x1,x2,x3,x4,x5,x6,x7,x8,x9,x10,x11,x12,x13,x14,x15,x16,x17,x18,x19,x20,x21,x22,x23,x24,x25,x26,x27,x28,x29,x30⟩:=C31.of HX5.out;clear x0 x1 x2 x3 x4 x6 x7 x8 x9 x10 x11 x12 x13 x14 x15 x16 x17 x18 x19 x20 x21 x22 x23 x24 x25 x26 x27 x28 x29 x30
 cases hh:i.has with
 | false =>
  rw [hh] at x5;clear hh
  go_wp2_with fail
  refine (awake_any _).mono ?_;rintro e wz ⟨rfl,hb⟩;have HBZ:=hid ((HB5.out).trans (hb.mono (HB5.out).size));clear hb
  go_wp2_with fail
  go_ret;exact ⟨rfl,HBZ.out⟩
 | true =>
 have HH:=hid hh;rw [hh] at x5;clear hh
 go_wp2_with (refine wpList_load_row_g (by rfl) 39 (.tmp 5) rfl (w.heap.size + 2) rfl _ _ (0,0) _ HY5.out Tryz.underlying39 rfl (by kernel_rfl) ?_)
 refine (valI_any { i with cnfg:=o } _ w5 _ (HY0.out.bel HB5.out)).mono ?_;rintro e w6 ⟨b,rfl,hv,hb6⟩;have HB6:=hid (HB5.out.trans (hb6.mono HB5.out.size));have HX6:=hid (kO HX5.out hb6);have HU6:=hid (kO HU5.out hb6);have HY6:=hid (kO HY5.out hb6);have HV:=hid hv;clear hv hb6 HX5 HU5 HY5 x5
 cases b with
 | false =>
  go_wp2_with fail
  refine (awake_any _).mono ?_;rintro e wz ⟨rfl,hb⟩;have HBZ:=hid ((HB6.out).trans (hb.mono (HB6.out).size));clear hb
  go_wp2_with fail
  go_ret;exact ⟨rfl,HBZ.out⟩
 | true =>
 have HVY:=hid (HV.out rfl);clear HV;obtain ⟨hP1,hP2,hP3,hP4⟩:=plain HVX.out HVY.out HH.out;have HP1:=hid hP1;have HP3:=hid hP3;have HP4:=hid hP4
 have HCX:Hid (∀ w',Below w.heap.size w w'→Calls Tryz.prog 10 #[_] w' (FreshC (changeD i) w')):=hid fun w' hb=>change_any i _ w' _ (HX0.out.bel hb) HVX.out.sm.inOk
 have HCY:Hid (∀ w',Below w.heap.size w w'→Calls Tryz.prog 10 #[_] w' (FreshC (changeD { i with cnfg:=o }) w')):=hid fun w' hb=>change_any { i with cnfg:=o } _ w' _ (HY0.out.bel hb) HVY.out.sm.inOk
 have HVC2:=HVC.out;rw [hP2] at HVC2;obtain ⟨-,hmi,hmk,hW,hS⟩:=vv_mkN HVC2;have HW:=hid hW;have HSK:=hid hS;clear hP1 hP2 hP3 hP4 HVC2 hW hS HVC HVX HVY
 generalize namesS i.sc=ns at *
 subst hmi;subst hmk;have hlns:=HSK.out.le
 go_wp2_with fail
 go_loopw [6] (fun iv wr=>∃ j:Nat,j≤ns.length∧iv=.int .i64 j∧Hid (Below w6.heap.size w6 wr)∧Hid (∀ t (h:t < ns.length),t < j→ns[t]∈ignN i.sc i.ignore∨getN i.cnfg ns[t]=getN o ns[t])) (fun iv _=>ns.length - (intOf iv).toNat)
 case atStart=>exact ⟨0,Nat.zero_le _,rfl,hid (Below.refl _ _),hid fun t _ h=>absurd h (Nat.not_lt_zero _)⟩
 case round =>
  obtain ⟨j,hj,rfl,B1,A⟩:=hrel;have HBR:=hid (HB6.out.trans (B1.out.mono HB6.out.size));have HXR:=hid (kO HX6.out B1.out);have HUR:=hid (kO HU6.out B1.out);have HYR:=hid (kO HY6.out B1.out);obtain ⟨x0,x1,x2,x3,x4,x5,x6,x7,x8,x9,x10,x11,x12,x13,x14,x15,x16,x17,x18,x19,x20,x21,x22,x23,x24,x25,x26,x27,x28,x29,x30⟩:=C31.of HXR.out;clear x0 x1 x2 x3 x4 x5 x6 x7 x8 x9 x10 x11 x12 x13 x14 x15 x16 x17 x18 x19 x20 x21 x22 x24 x25 x26 x27 x28 x29 x30
  by_cases hlt:j < ns.length
  ·obtain ⟨g1,o1,c1,e1,p0⟩:=HSK.out.at hlt
   cases e1
   have hj0:(0:Int)≤(j:Int):=by omega
   have hj1:(j:Int) < (ns.length:Int):=by omega
   replace p0:=zbb HBR.out p0;obtain ⟨y,hy⟩:∃ y,ns[j]=y:=⟨_,rfl⟩;rw [hy] at p0;have HYN:=hid hy;clear hy;obtain ⟨u0,u1,u2,u3,u4⟩:=C5.of HUR.out
   go_wp2_with fail
   refine (rget_any o y (fun g=>True∧g < w.heap.size) wr _ (HU.out.bel HBR.out) (fun g hg=>by have:=HBR.out.size;have:=hg.2;omega)).mono ?_;rintro e w7 ⟨v,rfl,hv,hb7⟩;rw [HP3.out] at hv;generalize (getR o y).isSome=b1;obtain ⟨k3,n3,s3,oi3,mi3,ci3,ok3,mk3,ck3,rfl⟩:=hv.agg5;have HB7:=hid (HBR.out.trans (hb7.mono HBR.out.size));have HX7:=hid (kO HXR.out hb7);have B7:=hid (B1.out.trans (hb7.mono B1.out.size));have HVV:=hid hv;clear hv hb7 u0 u1 u2 u3 u4 p0 x23;generalize hg:w7.alloc (.cells #[.int .i64 k3,.int .i64 n3,.string s3,.slice oi3 mi3 ci3,.slice ok3 mk3 ck3] 32)=w8
   have d1:Below w7.heap.size w7 w8:=by rw [← hg];exact zaa
   have d2:w8.heap[w7.heap.size]? = some (.cells #[.int .i64 k3,.int .i64 n3,.string s3,.slice oi3 mi3 ci3,.slice ok3 mk3 ck3] 32):=by rw [← hg];exact zhh w7 _
   obtain ⟨Y3,hY3⟩:∃ Y,w7.heap.size=Y:=⟨_,rfl⟩;rw [hY3] at d2;have HG:=hid hg;have HY3:=hid hY3;have HB8:=hid (HB7.out.trans (d1.mono HB7.out.size));have B8:=hid (B7.out.trans (d1.mono B7.out.size));have HX8:=hid (kO HX7.out d1);have HO8:=hid d2;have HVV8:=hid (HVV.out.bel d1);clear d1 d2 hg hY3 HVV;obtain ⟨x0,x1,x2,x3,x4,x5,x6,x7,x8,x9,x10,x11,x12,x13,x14,x15,x16,x17,x18,x19,x20,x21,x22,x23,x24,x25,x26,x27,x28,x29,x30⟩:=C31.of HX8.out;clear x0 x1 x4 x5 x6 x7 x8 x9 x10 x11 x12 x13 x14 x15 x16 x17 x18 x19 x20 x21 x22 x23 x24 x25 x26 x27 x28 x29 x30
   go_upto_region 10 with (fail)
   rw [HG.out,HY3.out]
   go_wp2_with fail
   refine (rfind_any i.sc y _ w w8 _ _ HSC.out HB8.out).mono ?_;intro e w9 hpost;obtain ⟨z0,z1,z2,z3,z4,z5,z6,z7,md,z9,za,zb,rfl,hb9,hmd⟩:=hpost.mode;obtain ⟨bi,hbi⟩:∃ b,(fndA i.sc.attrs y).isSome=b:=⟨_,rfl⟩;rw [hbi];have HBI:=hid hbi;have HMD:=hid hmd;have HB9:=hid (HB8.out.trans (hb9.mono HB8.out.size));have B9:=hid (B8.out.trans (hb9.mono B8.out.size));have HX9:=hid (kO HX8.out hb9);have HO9:=hid (kO HO8.out hb9);have HVV9:=hid (HVV8.out.bel hb9);clear hpost hbi hmd hb9 x2 x3 HX8 HO8 HVV8;generalize hg:w9.alloc (.cells #[.string z0,.int .i64 z1,.slice z2 z3 z4,.slice z5 z6 z7,.int .i64 md,.bool z9,.bool za,.bool zb] 64)=w10
   have d1:Below w9.heap.size w9 w10:=by rw [← hg];exact zaa
   have d2:w10.heap[w9.heap.size]? = some (.cells #[.string z0,.int .i64 z1,.slice z2 z3 z4,.slice z5 z6 z7,.int .i64 md,.bool z9,.bool za,.bool zb] 64):=by rw [← hg];exact zhh w9 _
   obtain ⟨Y4,hY4⟩:∃ Y,w9.heap.size=Y:=⟨_,rfl⟩;rw [hY4] at d2;have HG2:=hid hg;have HY4:=hid hY4;have HB10:=hid (HB9.out.trans (d1.mono HB9.out.size));have B10:=hid (B9.out.trans (d1.mono B9.out.size));have HX10:=hid (kO HX9.out d1);have HO10:=hid (kO HO9.out d1);have HVV10:=hid (HVV9.out.bel d1);have HA10:=hid d2;clear d1 d2 hg hY4 HX9 HO9 HVV9;obtain ⟨x0,x1,x2,x3,x4,x5,x6,x7,x8,x9,x10,x11,x12,x13,x14,x15,x16,x17,x18,x19,x20,x21,x22,x23,x24,x25,x26,x27,x28,x29,x30⟩:=C31.of HX10.out;clear x0 x1 x2 x3 x4 x5 x6 x7 x8 x9 x10 x11 x12 x13 x14 x15 x16 x17 x18 x19 x20 x21 x22 x23 x24 x25 x27 x28 x29 x30;have m4:=(cII HA10.out 4).trans rfl;have HIG:=hid (has_any i.ignore y _ w10 _ (HSG.out.bel HB10.out))
   go_upto_region 11 with (fail)
   rw [HG2.out,HY4.out];obtain ⟨wq,rfl⟩:∃ v,v=w10:=⟨_,rfl⟩
   go_cut [12] (fun fv wx=>∃ c:Bool,fv=.bool c∧Hid (c=true→y∈ignN i.sc i.ignore)∧wq=wx)
   case first =>
    cases hb:hasB i.ignore y with
    | false =>
     rw [hb] at HIG;clear hb
     go_wp2_with fail
     refine HIG.out.mono ?_;rintro e wz ⟨rfl,rfl⟩
     go_wp2_with fail
     go_meet;exact ⟨false,rfl,hid nF,rfl⟩
    | true =>
    rw [hb] at HIG;have HM:=hid ((hasB_iff _ _).1 hb);clear hb
    cases bi with
    | false =>
     have HF:Hid (y∈ignN i.sc i.ignore):=hid (ignN_mem.2 ⟨HM.out,by
      have e:fndA i.sc.attrs y=none:=by simpa using HBI.out
      rw [e]⟩)
     go_wp2_with fail
     refine HIG.out.mono ?_;rintro e wz ⟨rfl,rfl⟩
     go_wp2_with fail
     go_meet;exact ⟨true,rfl,hid fun _=>HF.out,rfl⟩
    | true =>
    by_cases h3:md=3
    ·obtain ⟨qa,qb,qc⟩:=tT h3
     clear h3
     go_wp2_with fail
     refine HIG.out.mono ?_;rintro e wz ⟨rfl,rfl⟩
     go_wp2_with fail
     go_meet;exact ⟨false,rfl,hid nF,rfl⟩
    ·obtain ⟨qa,qb,qc⟩:=tF h3
     have HF:Hid (y∈ignN i.sc i.ignore):=hid (ignN_mem.2 ⟨HM.out,by
      obtain ⟨a,e⟩:=Option.isSome_iff_exists.1 HBI.out;rw [e];simp only;rw [HMD.out a e]
      exact dTT h3⟩)
     clear h3
     go_wp2_with fail
     refine HIG.out.mono ?_;rintro e wz ⟨rfl,rfl⟩
     go_wp2_with fail
     go_meet;exact ⟨true,rfl,hid fun _=>HF.out,rfl⟩
   case rest =>
    obtain ⟨c,rfl,HCF,rfl⟩:=hcut;clear m4 x26 HIG HA10 HMD HBI;have HBD:=hid (show Below w.heap.size w wq.drew from zdd HB10.out);have BD:=hid (show Below w6.heap.size w6 wq.drew from zdd B10.out)
    cases c with
    | true =>
     have A2:Hid (∀ t (h:t < ns.length),t < j + 1→ns[t]∈ignN i.sc i.ignore∨getN i.cnfg ns[t]=getN o ns[t]):=hid fun t ht htj=>by
      by_cases e:t=j
      ·subst e;rw [HYN.out];exact .inl (HCF.out rfl)
      ·exact A.out t ht (by omega)
     clear A HCF
     go_wp2_with fail
     refine zss (fun _=>True) (by kernel_rfl) (by kernel_rfl) (trivial) ?_
     repeat ((first
      | (refine wpSteady_skip (by rfl) ?_)
      | (refine wpSteady_calm (v:=?_) (by rfl) ?_ ?_;rotate_left;(focus (intro v hSv;(try dsimp only at hSv);go_simp;(try with_reducible rfl);done))));try simp only [Act.put,sA,sZ,sS])
     refine zn ?_
     go_wp2_with fail
     go_roundw
     case rel=>exact ⟨j + 1,by omega,by go_num,BD,A2⟩
     case measure=>simp [intOf];omega
    | false =>
    obtain ⟨g2,o2,cc,k4,n4,s4,oi4,mi4,ci4,ok4,mk4,ck4,e2,q0,q1,q2,q3,q4,hT,-⟩:=HW.out.at (j:=j) (by rw [List.length_map];exact hlt);rw [List.length_map] at e2
    cases e2
    rw [List.getElem_map,HYN.out] at hT;replace q0:=zbb HBD.out q0;replace q1:=zbb HBD.out q1;replace q2:=zbb HBD.out q2;replace q3:=zbb HBD.out q3;replace q4:=zbb HBD.out q4;have HEQ:=hid (requal_any (getN i.cnfg y) (getN o y) _ _ wq.drew _ _ (hT.bel HBD.out) (HVV10.out.bel (zdd (Below.refl _ _))));obtain ⟨x0,x1,x2,x3,x4,x5,x6,x7,x8,x9,x10,x11,x12,x13,x14,x15,x16,x17,x18,x19,x20,x21,x22,x23,x24,x25,x26,x27,x28,x29,x30⟩:=C31.of (kO HX10.out (zdd (Below.refl _ _)));clear x0 x1 x2 x3 x4 x5 x6 x7 x8 x9 x10 x11 x12 x13 x14 x15 x16 x17 x18 x19 x20 x21 x23 x24 x25 x26 x27 x28 x29 x30;obtain ⟨v0,v1,v2,v3,v4⟩:=C5.of (kO HO10.out (zdd (Below.refl _ _)));clear hT
    go_wp2_with fail
    refine zss (fun v=>v.cell? ⟨w.heap.size,22,none⟩=some (.slice (some ⟨g2,o2,none⟩) ns.length cic)∧v.cell? ⟨g2,o2 + j * 5,none⟩=some (.int .i64 k4)∧v.cell? ⟨g2,o2 + j * 5 + 1,none⟩=some (.int .i64 n4)∧v.cell? ⟨g2,o2 + j * 5 + 2,none⟩=some (.string s4)∧v.cell? ⟨g2,o2 + j * 5 + 3,none⟩=some (.slice oi4 mi4 ci4)∧v.cell? ⟨g2,o2 + j * 5 + 4,none⟩=some (.slice ok4 mk4 ck4)∧C5 Y3 (.int .i64 k3) (.int .i64 n3) (.string s3) (.slice oi3 mi3 ci3) (.slice ok3 mk3 ck3) v) (by kernel_rfl) (by kernel_rfl) (⟨x22,q0,q1,q2,q3,q4,v0,v1,v2,v3,v4⟩) ?_
    repeat ((first
     | (refine wpSteady_skip (by rfl) ?_)
     | (refine wpSteady_calm (v:=?_) (by rfl) ?_ ?_;rotate_left;(focus (intro v hSv;(try dsimp only at hSv);go_simp;(try with_reducible rfl);done))));try simp only [Act.put,sA,sZ,sS])
    refine wpSteady_loud rfl (by rfl) (fun K hK=>?_)
    go_simp
    refine HEQ.out.mono ?_;rintro e w11 ⟨rfl,hb11⟩;have HB11:=hid (HBD.out.trans (hb11.mono HBD.out.size));have B11:=hid (BD.out.trans (hb11.mono BD.out.size));have r0:=zbb (W:=wq.drew) hb11 x22;have r1:=zbb (W:=wq.drew) hb11 q0;have r2:=zbb (W:=wq.drew) hb11 q1;have r3:=zbb (W:=wq.drew) hb11 q2;have r4:=zbb (W:=wq.drew) hb11 q3;have r5:=zbb (W:=wq.drew) hb11 q4;have r6:=zbb (W:=wq.drew) hb11 v0;have r7:=zbb (W:=wq.drew) hb11 v1;have r8:=zbb (W:=wq.drew) hb11 v2;have r9:=zbb (W:=wq.drew) hb11 v3;have ra:=zbb (W:=wq.drew) hb11 v4;clear hb11;refine hK.out _ _ (⟨r0,r1,r2,r3,r4,r5,r6,r7,r8,r9,ra⟩) ?_;clear hK K
    try simp only [Act.put,sA,sZ,sS]
    repeat ((first
     | (refine wpSteady_skip (by rfl) ?_)
     | (refine wpSteady_calm (v:=?_) (by rfl) ?_ ?_;rotate_left;(focus (intro v hSv;(try dsimp only at hSv);go_simp;(try with_reducible rfl);done))));try simp only [Act.put,sA,sZ,sS])
    refine zn ?_;clear x22 q0 q1 q2 q3 q4 v0 v1 v2 v3 v4 r0 r1 r2 r3 r4 r5 r6 r7 r8 r9 ra HEQ
    cases he:eqV (getN i.cnfg y) (getN o y) with
    | false =>
     clear he
     go_wp2_with fail
     refine (awake_any _).mono ?_;rintro e wz ⟨rfl,hb⟩;have HBZ:=hid ((HB11.out).trans (hb.mono (HB11.out).size));clear hb
     go_wp2_with fail
     go_ret;exact ⟨rfl,HBZ.out⟩
    | true =>
     have A2:Hid (∀ t (h:t < ns.length),t < j + 1→ns[t]∈ignN i.sc i.ignore∨getN i.cnfg ns[t]=getN o ns[t]):=hid fun t ht htj=>by
      by_cases e:t=j
      ·subst e;rw [HYN.out];exact .inr ((eqV_iff _ _).1 he)
      ·exact A.out t ht (by omega)
     clear he A HCF
     go_wp2_with fail
     go_roundw
     case rel=>exact ⟨j + 1,by omega,by go_num,B11,A2⟩
     case measure=>simp [intOf];omega
  ·have hle:ns.length≤j:=by omega
   have HCH:=HP4.out fun x hx=>by
    obtain ⟨t,ht,rfl⟩:=List.getElem_of_mem hx;exact A.out t ht (by omega)
   rw [HCH] at HCY
   have HCX2:Hid (∀ W,Below wr.heap.size wr W→Calls Tryz.prog 10 #[_] W (FreshC (changeD i) W)):=hid fun W hb=>HCX.out W (HBR.out.trans (hb.mono HBR.out.size))
   have HCY2:Hid (∀ W,Below wr.heap.size wr W→Calls Tryz.prog 10 #[_] W (FreshC (changeD i) W)):=hid fun W hb=>HCY.out W (HBR.out.trans (hb.mono HBR.out.size))
   have HINX:Hid (∀ W,Below wr.heap.size wr W→INV (fun _=>True) W _ i):=hid fun W hb=>HX0.out.bel (HBR.out.trans (hb.mono HBR.out.size))
   have HINY:Hid (∀ W,Below wr.heap.size wr W→INV (fun _=>True) W _ { i with cnfg:=o }):=hid fun W hb=>HY0.out.bel (HBR.out.trans (hb.mono HBR.out.size))
   have J0:=hid (JC.start (changeD i) wr);have hc0:wr.drew.heap[w.heap.size]? = some (.cells #[.string i.addr,.string i.tname,.slice oa i.sc.attrs.length ca,.slice on i.sc.nested.length cn,.int .i64 i.quota,.bool i.has,.string i.prior.addr,.string i.prior.deposed,.string i.prior.id,.string i.prior.type,.int .i64 kp,.int .i64 np,.string sp,.slice oip mip cip,.slice okp mkp ckp,.int .i64 i.prior.version,.bool i.prior.tainted,.bool i.prior.createFirst,.slice od i.prior.deps.length cd,.int .i64 kc,.int .i64 nc,.string sc,.slice oic ns.length cic,.slice okc ns.length ckc,.bool i.createFirst,.bool i.protect,.slice og i.ignore.length cg,.slice ot mt ct,.bool i.triggered,.bool i.requested,.slice oD i.deps.length cD] 39)∧wr.drew.heap[w.heap.size + 2]? = some (.cells #[.string i.addr,.string i.tname,.slice oa i.sc.attrs.length ca,.slice on i.sc.nested.length cn,.int .i64 i.quota,.bool i.has,.string i.prior.addr,.string i.prior.deposed,.string i.prior.id,.string i.prior.type,.int .i64 kp,.int .i64 np,.string sp,.slice oip mip cip,.slice okp mkp ckp,.int .i64 i.prior.version,.bool i.prior.tainted,.bool i.prior.createFirst,.slice od i.prior.deps.length cd,.int .i64 k2,.int .i64 n2,.string s2,.slice oi2 mi2 ci2,.slice ok2 mk2 ck2,.bool i.createFirst,.bool i.protect,.slice og i.ignore.length cg,.slice ot mt ct,.bool i.triggered,.bool i.requested,.slice oD i.deps.length cD] 39):=⟨kO HXR.out (zdd (Below.refl _ _)),kO HYR.out (zdd (Below.refl _ _))⟩
   clear HCX HCY HCH A HXR HYR
   go_wp2_with fail
   refine zss (fun v=>v.heap[w.heap.size]? = some (.cells #[.string i.addr,.string i.tname,.slice oa i.sc.attrs.length ca,.slice on i.sc.nested.length cn,.int .i64 i.quota,.bool i.has,.string i.prior.addr,.string i.prior.deposed,.string i.prior.id,.string i.prior.type,.int .i64 kp,.int .i64 np,.string sp,.slice oip mip cip,.slice okp mkp ckp,.int .i64 i.prior.version,.bool i.prior.tainted,.bool i.prior.createFirst,.slice od i.prior.deps.length cd,.int .i64 kc,.int .i64 nc,.string sc,.slice oic ns.length cic,.slice okc ns.length ckc,.bool i.createFirst,.bool i.protect,.slice og i.ignore.length cg,.slice ot mt ct,.bool i.triggered,.bool i.requested,.slice oD i.deps.length cD] 39)∧v.heap[w.heap.size + 2]? = some (.cells #[.string i.addr,.string i.tname,.slice oa i.sc.attrs.length ca,.slice on i.sc.nested.length cn,.int .i64 i.quota,.bool i.has,.string i.prior.addr,.string i.prior.deposed,.string i.prior.id,.string i.prior.type,.int .i64 kp,.int .i64 np,.string sp,.slice oip mip cip,.slice okp mkp ckp,.int .i64 i.prior.version,.bool i.prior.tainted,.bool i.prior.createFirst,.slice od i.prior.deps.length cd,.int .i64 k2,.int .i64 n2,.string s2,.slice oi2 mi2 ci2,.slice ok2 mk2 ck2,.bool i.createFirst,.bool i.protect,.slice og i.ignore.length cg,.slice ot mt ct,.bool i.triggered,.bool i.requested,.slice oD i.deps.length cD] 39)) (by kernel_rfl) (by kernel_rfl) hc0 ?_
   have J:=hid J0.out;have hc:=hc0;clear hc0 J0
   repeat ((first
    | (refine wpSteady_skip (by rfl) ?_)
    | (refine zll (by rfl) 39 (.tmp 2) rfl (w.heap.size) rfl _ _ (0,0) _ (fun v hv=>hv.1) Tryz.underlying39 rfl (by kernel_rfl) ?_)
    | (refine zll (by rfl) 39 (.tmp 5) rfl (w.heap.size + 2) rfl _ _ (0,0) _ (fun v hv=>hv.2) Tryz.underlying39 rfl (by kernel_rfl) ?_)
    | (refine wpSteady_calm (v:=?_) (by rfl) ?_ ?_;rotate_left;(focus (intro v hSv;clear hSv;go_simp;(try with_reducible rfl);done))));try simp only [Act.put,sA,sZ,sS])
   refine wpSteady_loud rfl (by rfl) (fun K hK=>?_)
   go_simp
   refine (linput_any i _ _ _ (HINX.out _ J.out.bel)).mono ?_;rintro e w7 ⟨rfl,hb5⟩;replace hc:=keep2 hc hb5;replace J:=hid (J.out.later hb5);refine hK.out _ _ hc ?_;clear hK K hb5
   try simp only [Act.put,sA,sZ,sS]
   repeat ((first
    | (refine wpSteady_skip (by rfl) ?_)
    | (refine zll (by rfl) 39 (.tmp 2) rfl (w.heap.size) rfl _ _ (0,0) _ (fun v hv=>hv.1) Tryz.underlying39 rfl (by kernel_rfl) ?_)
    | (refine zll (by rfl) 39 (.tmp 5) rfl (w.heap.size + 2) rfl _ _ (0,0) _ (fun v hv=>hv.2) Tryz.underlying39 rfl (by kernel_rfl) ?_)
    | (refine wpSteady_calm (v:=?_) (by rfl) ?_ ?_;rotate_left;(focus (intro v hSv;clear hSv;go_simp;(try with_reducible rfl);done))));try simp only [Act.put,sA,sZ,sS])
   refine wpSteady_loud rfl (by rfl) (fun K hK=>?_)
   go_simp
   refine (HCX2.out _ J.out.bel).mono ?_;rintro e w8 ⟨v1,rfl,hv1,hb5⟩;replace hc:=keep2 hc hb5;replace J:=hid (J.out.one hb5 hv1);refine hK.out _ _ hc ?_;clear hK K hb5
   try simp only [Act.put,sA,sZ,sS]
   clear hv1
   repeat ((first
    | (refine wpSteady_skip (by rfl) ?_)
    | (refine zll (by rfl) 39 (.tmp 2) rfl (w.heap.size) rfl _ _ (0,0) _ (fun v hv=>hv.1) Tryz.underlying39 rfl (by kernel_rfl) ?_)
    | (refine zll (by rfl) 39 (.tmp 5) rfl (w.heap.size + 2) rfl _ _ (0,0) _ (fun v hv=>hv.2) Tryz.underlying39 rfl (by kernel_rfl) ?_)
    | (refine wpSteady_calm (v:=?_) (by rfl) ?_ ?_;rotate_left;(focus (intro v hSv;clear hSv;go_simp;(try with_reducible rfl);done))));try simp only [Act.put,sA,sZ,sS])
   refine wpSteady_loud rfl (by rfl) (fun K hK=>?_)
   go_simp
   refine (linput_any _ _ _ _ (HINY.out _ J.out.bel)).mono ?_;rintro e w9 ⟨rfl,hb5⟩;replace hc:=keep2 hc hb5;replace J:=hid (J.out.later hb5);refine hK.out _ _ hc ?_;clear hK K hb5
   try simp only [Act.put,sA,sZ,sS]
   repeat ((first
    | (refine wpSteady_skip (by rfl) ?_)
    | (refine zll (by rfl) 39 (.tmp 2) rfl (w.heap.size) rfl _ _ (0,0) _ (fun v hv=>hv.1) Tryz.underlying39 rfl (by kernel_rfl) ?_)
    | (refine zll (by rfl) 39 (.tmp 5) rfl (w.heap.size + 2) rfl _ _ (0,0) _ (fun v hv=>hv.2) Tryz.underlying39 rfl (by kernel_rfl) ?_)
    | (refine wpSteady_calm (v:=?_) (by rfl) ?_ ?_;rotate_left;(focus (intro v hSv;clear hSv;go_simp;(try with_reducible rfl);done))));try simp only [Act.put,sA,sZ,sS])
   refine wpSteady_loud rfl (by rfl) (fun K hK=>?_)
   go_simp
   refine (HCY2.out _ J.out.bel).mono ?_;rintro e wA ⟨v2,rfl,hv2,hb5⟩;replace hc:=keep2 hc hb5;replace J:=hid (J.out.two hb5 hv2);refine hK.out _ _ hc ?_;clear hK K hb5
   try simp only [Act.put,sA,sZ,sS]
   clear hv2
   repeat ((first
    | (refine wpSteady_skip (by rfl) ?_)
    | (refine zll (by rfl) 39 (.tmp 2) rfl (w.heap.size) rfl _ _ (0,0) _ (fun v hv=>hv.1) Tryz.underlying39 rfl (by kernel_rfl) ?_)
    | (refine zll (by rfl) 39 (.tmp 5) rfl (w.heap.size + 2) rfl _ _ (0,0) _ (fun v hv=>hv.2) Tryz.underlying39 rfl (by kernel_rfl) ?_)
    | (refine wpSteady_calm (v:=?_) (by rfl) ?_ ?_;rotate_left;(focus (intro v hSv;clear hSv;go_simp;(try with_reducible rfl);done))));try simp only [Act.put,sA,sZ,sS])
   refine wpSteady_loud rfl (by rfl) (fun K hK=>?_)
   go_simp
   refine (requalC_any _ _ _ _ _ _ (J.out.v1 _ rfl) (J.out.v2 _ rfl)).mono ?_;rintro e wB ⟨rfl,hb5⟩;replace hc:=keep2 hc hb5;replace J:=hid (J.out.later hb5);refine hK.out _ _ hc ?_;clear hK K hb5
   try simp only [Act.put,sA,sZ,sS]
   repeat ((first
    | (refine wpSteady_skip (by rfl) ?_)
    | (refine zll (by rfl) 39 (.tmp 2) rfl (w.heap.size) rfl _ _ (0,0) _ (fun v hv=>hv.1) Tryz.underlying39 rfl (by kernel_rfl) ?_)
    | (refine zll (by rfl) 39 (.tmp 5) rfl (w.heap.size + 2) rfl _ _ (0,0) _ (fun v hv=>hv.2) Tryz.underlying39 rfl (by kernel_rfl) ?_)
    | (refine wpSteady_calm (v:=?_) (by rfl) ?_ ?_;rotate_left;(focus (intro v hSv;clear hSv;go_simp;(try with_reducible rfl);done))));try simp only [Act.put,sA,sZ,sS])
   refine wpSteady_loud rfl (by rfl) (fun K hK=>?_)
   go_simp
   refine (awake_any _).mono ?_;rintro e wC ⟨rfl,hb5⟩;replace hc:=keep2 hc hb5;replace J:=hid (J.out.later hb5);refine hK.out _ _ hc ?_;clear hK K hb5
   try simp only [Act.put,sA,sZ,sS]
   repeat ((first
    | (refine wpSteady_skip (by rfl) ?_)
    | (refine zll (by rfl) 39 (.tmp 2) rfl (w.heap.size) rfl _ _ (0,0) _ (fun v hv=>hv.1) Tryz.underlying39 rfl (by kernel_rfl) ?_)
    | (refine zll (by rfl) 39 (.tmp 5) rfl (w.heap.size + 2) rfl _ _ (0,0) _ (fun v hv=>hv.2) Tryz.underlying39 rfl (by kernel_rfl) ?_)
    | (refine wpSteady_calm (v:=?_) (by rfl) ?_ ?_;rotate_left;(focus (intro v hSv;clear hSv;go_simp;(try with_reducible rfl);done))));try simp only [Act.put,sA,sZ,sS])
   refine zn ?_
   go_wp2_with fail
   go_ret;exact ⟨rfl,HBR.out.trans (J.out.bel.mono HBR.out.size)⟩
theorem readable:∀ t∈#[39,32].toList,Tryz.prog.readableRec t=true∧t < Tryz.prog.types.size:=by
 intro t ht;have ri:Tryz.prog.readableRec 39=true∧39 < Tryz.prog.types.size:=⟨by kernel_rfl,of_decide_eq_true (by kernel_rfl)⟩;have rv:Tryz.prog.readableRec 32=true∧32 < Tryz.prog.types.size:=⟨by kernel_rfl,of_decide_eq_true (by kernel_rfl)⟩
 have hm:t=39∨t=32:=by simpa using ht
 rcases hm with rfl | rfl
 ·exact ri
 ·exact rv
theorem walkD {H:Type} (enc:TypeId × Value→H) (W:World) (base:Nat) (args:Array Value) (ds:List (DataW H)) (p:List MemPlace)
  (hval:∀ (j:Nat) t v,#[39,32][j]? = some t→args[j]? = some v→Value.okWide Tryz.prog W .any base t v)
  (hA:DataW.TrodAll enc Tryz.prog W 0 (fun _=>true) true #[39,32].toList args.toList ds p)
  (hws:∀ (j:Nat) t d,#[39,32].toList[j]? = some t→ds[j]? = some d→∀ n∈d.weights Tryz.prog t,n≤reachBytes) :
  (Calls Tryz.prog 6 args W fun e w'=>e=.returned (.bool true)∧Below W.heap.size W w') ∧
  ((Rows.diffIgnoredSpec.fn H (ds ++ [])).results = [.lit (.bool true)]∧(Rows.diffIgnoredSpec.fn H (ds ++ [])).args=ds∧(Rows.diffIgnoredSpec.fn H (ds ++ [])).vars = []):=by
 obtain ⟨v0,vs0,d0,ds0,p0,q0,hargs,rfl,rfl,h0,r0⟩:=trodAll_cons hA;obtain ⟨v1,vs1,d1,ds1,p1,q1,rfl,rfl,rfl,h1,r1⟩:=trodAll_cons r0;obtain ⟨rfl,rfl,rfl⟩:=trodAll_nil r1
 obtain rfl:args=#[v0,v1]:=by cases args;simp_all
 obtain ⟨t0,w0⟩:=open_input (hval 0 _ v0 rfl rfl) h0 (hws 0 _ _ rfl rfl);obtain ⟨t1,w1⟩:=open_value (hval 1 _ v1 rfl rfl) h1 (hws 1 _ _ rfl rfl);exact ⟨walk W _ _ t0 t1 w0 w1,rfl,rfl,rfl⟩
theorem lifted (os:Os) (started:os.Started) (H:Type) (enc:TypeId × Value→H) :
  ReturnsInHanded {} Tryz.checked os 6 .any (Rows.diffIgnoredSpec.pre6 enc Tryz.prog Tryz.f6 Rows.diffIgnoredRow.domain false) (Rows.diffIgnoredSpec.post enc Tryz.prog Tryz.f6 false true false false):=by
 refine returnsInHanded_of_change_sized (C:=Tryz.checked) own started (by kernel_rfl) Tryz.func6
  (ChangeSpec.witness6 (enc:=enc) (C:=Tryz.checked) false ⟨#[],#[.agg #[.string ⟨#[]⟩,.string ⟨#[]⟩,.slice none 0 0,.slice none 0 0,.int .i64 0,.bool false,.string ⟨#[]⟩,.string ⟨#[]⟩,.string ⟨#[]⟩,.string ⟨#[]⟩,.int .i64 0,.int .i64 0,.string ⟨#[]⟩,.slice none 0 0,.slice none 0 0,.int .i64 0,.bool false,.bool false,.slice none 0 0,.int .i64 0,.int .i64 0,.string ⟨#[]⟩,.slice none 0 0,.slice none 0 0,.bool false,.bool false,.slice none 0 0,.slice none 0 0,.bool false,.bool false,.slice none 0 0],.agg #[.int .i64 0,.int .i64 0,.string ⟨#[]⟩,.slice none 0 0,.slice none 0 0]],[]⟩ 8 (by kernel_rfl) (by kernel_rfl) (by kernel_rfl) (by kernel_rfl)) ?_
 intro W base args ds gs before hval0 hW _ hsz _;have hW':=hW;obtain ⟨p,q,hA,hV,_,_,_⟩:=hW;obtain ⟨rfl,rfl⟩:=trodVars_none hV;rw [Tryz.params6] at hA hval0 hsz
 have hws:∀ (j:Nat) t d,#[39,32].toList[j]? = some t→ds[j]? = some d→∀ n∈d.weights Tryz.prog t,n≤reachBytes:=fun j t d h1 h2 n hn=>by
  have hj1:=(List.getElem?_eq_some_iff.1 h1).1;have hj2:=(List.getElem?_eq_some_iff.1 h2).1;have:=List.all_eq_true.1 hsz _ (DataW.weights_mem_each (j:=j) (by rw [List.getElem?_append_left hj1];exact h1) (by rw [List.getElem?_append_left hj2];exact h2) n hn);simpa using this
 obtain ⟨hcall,hds⟩:=walkD enc W base args ds p hval0 hA hws
 exact hcall.mono fun e W' ⟨he,hb⟩=>⟨_,he,law_post hW' rfl (by rw [Tryz.params6];exact readable) rfl hds hb⟩
theorem proved:Rows.DiffIgnoredSaid :=
 OpenClaim.holds_of_wide 6 Tryz.f6 rfl rfl rfl rfl rfl rfl rfl ⟨rfl,rfl,rfl,rfl,rfl⟩ rfl rfl rfl rfl rfl (by kernel_rfl) Tryz.func6 (by kernel_rfl)
  (of_decide_eq_true (by kernel_rfl)) (by unfold Func.isWrapper;first | (rw [if_pos (by decide +kernel)];kernel_rfl) | (rw [if_neg (by decide +kernel)];exact ⟨rfl,rfl⟩))
  (fun os started H enc _=>lifted os started H enc)
#print axioms proved
end Go.Proofs.YtibiiafcnaijeaaGreat.diffIgnored
